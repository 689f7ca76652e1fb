/- SegSplits: the walk. -/
import Derived.Test.YtcbecidcfbhkfaaSeg15
import Derived.Test.YtcbecidcfbhkfaaFewW
namespace Go.Proofs.Ytcbecidcfbhkfaa
set_option linter.unusedVariables false
set_option linter.unusedSimpArgs false
open Go.RowKit Go.ChangeMaps

set_option maxHeartbeats 2000000 in
set_option maxRecDepth 100000 in
theorem same_calls (c1 c2 : Nat) (va vb : Value) (l : List (Int × List UInt8)) (w : World) (o : Col) (ha : Frs w o c1 va l) (hb : Frs w o c2 vb l) : Calls Try.prog 13 #[va, vb] w (Post [] w o fun r _ _ => r = .bool true) := by
  obtain ⟨A, ca, rfl, hac, _, hfa⟩ := ha
  obtain ⟨B, cb, rfl, hbc, _, hfb⟩ := hb
  replace hfa := Lib.hid hfa
  replace hfb := Lib.hid hfb
  go_enter Try.func13, Try.ntmps13
  go_wp2_with fail
  go_loopw [5] (RoR w o l.length) (fun x _ => l.length - (intOf x).toNat)
  case atStart => exact ⟨0, o, rfl, Nat.zero_le _, Stp.refl _ _ _⟩
  case round =>
    obtain ⟨k, o2, rfl, hk, hs⟩ := hrel
    by_cases hlt : k < l.length
    · have hq : l[k]? = some l[k] := by simp [hlt]
      obtain ⟨q, hqq⟩ : ∃ q, l[k] = q := ⟨_, rfl⟩
      rw [hqq] at hq
      obtain ⟨a, vd, rfl, _, p1, p2, r1⟩ := hfa.out k q hq
      obtain ⟨b, ve, rfl, _, q1, q2, r2⟩ := hfb.out k q hq
      have d1 := hs.cell p1 (by simp)
      have d2 := hs.cell p2 (by simp)
      have e1 := hs.cell q1 (by simp)
      have e2 := hs.cell q2 (by simp)
      have hr1 := r1.stp hs (by simp)
      have hr2 := r2.stp hs (by simp)
      obtain ⟨Av, capv, rfl, _, _⟩ := r1.shape
      obtain ⟨Bv, capw, rfl, _, _⟩ := r2.shape
      rw [← add_add, show (a.add (k * 2)).add 1 = ⟨(a.add (k * 2)).block, (a.add (k * 2)).off + 1, none⟩ from rfl] at d2
      rw [← add_add, show (b.add (k * 2)).add 1 = ⟨(b.add (k * 2)).block, (b.add (k * 2)).off + 1, none⟩ from rfl] at e2
      have cv1 : ∀ n, (convert 22 9 (.slice Av q.2.length capv)).run Try.prog (wr.drewN n) = .ok (.string ⟨q.2.toArray⟩) (wr.drewN n) := fun n => convBS (hr1.stp ((Stp.refl [] wr o2).drewN n) (by simp)) rfl
      have cv2 : ∀ n, (convert 22 9 (.slice Bv q.2.length capw)).run Try.prog (wr.drewN n) = .ok (.string ⟨q.2.toArray⟩) (wr.drewN n) := fun n => convBS (hr2.stp ((Stp.refl [] wr o2).drewN n) (by simp)) rfl
      have z3 : (0 : Int) ≤ (k : Int) ∧ (k : Int) < (l.length : Int) := by omega
      replace hs := Lib.hid hs
      clear p1 p2 q1 q2 hqq hq r1 r2 hr1 hr2
      go_wp2_with fail
      go_quiet (fail)
      go_wp2
      go_roundw
      case rel => exact ⟨k + 1, o2, by go_num, by omega, hs.out.drewN nq⟩
      case measure => simp [intOf]; omega
    · replace hs := Lib.hid hs
      go_wp2
      go_ret
      exact Post.mk hs.out rfl

set_option maxHeartbeats 1000000 in
set_option maxRecDepth 100000 in
theorem splits_law (id : Int) (v : Value) (m : List UInt8) (w : World) (hw : (Lit.int .i64 id).wf = true) (hm : RdB w (fun _ => 0) 0 v m) : Calls Try.prog 3 #[.int .i64 id, v] w (Post [] w (fun _ => 0) fun r _ _ => r = .bool true) := by
  obtain ⟨A, cap, rfl, hlc, hA⟩ := hm.shape
  by_cases h1 : 900 < m.length
  · have g1 : decide ((900 : Int) < (m.length : Int)) = true := decide_eq_true (by omega)
    go_enter Try.func3, Try.ntmps3
    go_wp2
    go_ret
    exact Post.mk (Stp.refl _ _ _) rfl
  have g1 : decide ((900 : Int) < (m.length : Int)) = false := decide_eq_false (by omega)
  replace hm := Lib.hid hm
  go_enter Try.func3, Try.ntmps3
  go_wp2_with fail
  refine (split_calls 0 0 id _ m _ _ hm.out).mono ?_
  rintro e w1 ⟨r, o1, rfl, s1, vx, rfl, fx⟩
  have hm1 := Lib.hid (hm.out.stp s1 (by simp))
  replace fx := Lib.hid fx
  replace s1 := Lib.hid s1
  go_wp2_with fail
  refine (xsplit_calls 0 0 id _ m _ _ hm1.out).mono ?_
  rintro e w2 ⟨r, o2, rfl, s2, vy, rfl, fy⟩
  have fx2 := Lib.hid (fx.out.stp s2 (by simp))
  replace fy := Lib.hid fy
  replace s2 := Lib.hid (s1.out.trans s2)
  go_wp2_with fail
  refine (same_calls 0 0 _ _ _ _ _ fx2.out fy.out).mono ?_
  rintro e w3 ⟨r, o3, rfl, s3, rfl⟩
  replace s3 := Lib.hid (s2.out.trans s3)
  go_wp2_with fail
  refine (known15_calls _ o3).mono ?_
  rintro e w9 ⟨r, o9, rfl, s9, rfl⟩
  replace s9 := Lib.hid (s3.out.trans s9)
  go_wp2
  go_ret
  exact Post.mk s9.out rfl

end Go.Proofs.Ytcbecidcfbhkfaa
