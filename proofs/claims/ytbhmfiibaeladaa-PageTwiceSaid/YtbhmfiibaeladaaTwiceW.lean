/- PageTwice: the walk. -/
import Derived.Test.YtbhmfiibaeladaaKnown11
namespace Go.Proofs.Ytbhmfiibaeladaa
set_option linter.unusedVariables false
set_option linter.unusedSimpArgs false
open Go.RowKit

theorem andNot8 (a b : UInt8) : bits BinOp.andNot IntKind.u8 (a.toNat : Int) (b.toNat : Int) = ((a &&& ~~~b).toNat : Int) := by
  rw [u8_andNot_nat a.toNat b.toNat (by have := a.toNat_lt; omega) (by have := b.toNat_lt; omega), UInt8.toNat_and, UInt8.toNat_not]
  rfl
theorem fall8 (a b : UInt8) : (a &&& b) &&& ~~~a = 0 := by
  apply UInt8.toBitVec_inj.1
  ext i
  simp
  intro h1 h2
  exact h1
theorem fall8' (a : UInt8) : a &&& ~~~a = 0 := by
  apply UInt8.toBitVec_inj.1
  ext i
  simp
theorem idem8 (a b : UInt8) : (a &&& b) &&& b = a &&& b := by
  apply UInt8.toBitVec_inj.1
  ext i
  simp [Bool.and_assoc]
theorem andPage_idem (q a : List UInt8) (h : a.length ≤ q.length) : andPage (andPage q a) a = andPage q a := by
  apply List.ext_getElem?
  intro j
  rw [andPage_get (by rw [andPage_len h]; omega), andPage_get h]
  by_cases hj : j < a.length
  · rw [dif_pos hj, dif_pos hj]
    have := andPage_get h j
    rw [dif_pos hj] at this
    have h2 := (List.getElem?_eq_some_iff.1 this).2
    rw [h2]
    congr 1
    exact idem8 _ _
  · rw [dif_neg hj, dif_neg hj]
theorem andPage_fall (q b : List UInt8) (h : b.length ≤ q.length) {j : Nat} (hj : j < q.length) : (andPage q b)[j]'(by rw [andPage_len h]; exact hj) &&& ~~~(q[j]) = 0 := by
  have := andPage_get h j
  by_cases hb : j < b.length
  · rw [dif_pos hb] at this
    rw [(List.getElem?_eq_some_iff.1 this).2]
    exact fall8 _ _
  · rw [dif_neg hb, List.getElem?_eq_getElem hj] at this
    rw [(List.getElem?_eq_some_iff.1 this).2]
    exact fall8' _

/-- What the walk's loop keeps. -/
def TwR (w0 : World) (o0 : Col) (x : Value) (wr : World) : Prop := ∃ (k : Nat) (o' : Col), x = .int .i64 k ∧ k ≤ 64 ∧ Stp [] w0 o0 wr o'
set_option maxHeartbeats 2000000 in
set_option maxRecDepth 100000 in
theorem twice_law (va : Value) (a : List UInt8) (vb : Value) (b : List UInt8) (w : World) (ha : RdB w (fun _ => 0) 0 va a) (hb : RdB w (fun _ => 0) 0 vb b) : Calls Try.prog 3 #[va, vb] w (Post [] w (fun _ => 0) fun r _ _ => r = .bool true) := by
  obtain ⟨A, ca, rfl, hac, hA⟩ := ha.shape
  obtain ⟨B, cb, rfl, hbc, hB⟩ := hb.shape
  by_cases h1 : 64 < a.length
  · have h1' : (64 : Int) < (a.length : Int) := by omega
    go_enter Try.func3, Try.ntmps3
    go_wp2
    go_ret
    exact Post.mk (Stp.refl _ _ _) rfl
  by_cases h2 : 64 < b.length
  · have h2' : (64 : Int) < (b.length : Int) := by omega
    have h1' : ¬ (64 : Int) < (a.length : Int) := by omega
    go_enter Try.func3, Try.ntmps3
    go_wp2
    go_ret
    exact Post.mk (Stp.refl _ _ _) rfl
  have h1' : ¬ (64 : Int) < (a.length : Int) := by omega
  have h2' : ¬ (64 : Int) < (b.length : Int) := by omega
  obtain ⟨Q, hQ⟩ : ∃ Q, blankPage = Q := ⟨_, rfl⟩
  have hQl : Q.length = 64 := by rw [← hQ, blank_len]
  obtain ⟨X, hX⟩ : ∃ X, andPage Q a = X := ⟨_, rfl⟩
  have hXl : X.length = 64 := by rw [← hX, andPage_len (by omega), hQl]
  have hXX : andPage X a = X := by rw [← hX]; exact andPage_idem Q a (by omega)
  obtain ⟨Z, hZ⟩ : ∃ Z, andPage X b = Z := ⟨_, rfl⟩
  have hZl : Z.length = 64 := by rw [← hZ, andPage_len (by omega), hXl]
  have hfall : ∀ j (hj : j < 64), (Z[j]'(by omega)) &&& ~~~(X[j]'(by omega)) = 0 := fun j hj => by
    have := andPage_fall X b (by omega) (j := j) (by omega)
    simpa only [hZ] using this
  go_enter Try.func3, Try.ntmps3
  go_wp2_with fail
  refine (new_calls 1 1 w (fun _ => 0) 1 (by omega)).mono ?_
  rintro e w1 ⟨r, o1, rfl, s1, p, g, cap, rfl, f1⟩
  rw [hQ, show (⟨List.replicate 1 Q, -1, 0, false⟩ : FS) = one Q from rfl] at f1
  go_wp2_with fail
  refine (program_calls 1 0 p g cap _ 0 _ a _ _ f1 (ha.stp s1 (by simp))).mono ?_
  rintro e w2 ⟨r, o2, rfl, s2, rfl, f2⟩
  rw [(prog_one (by omega)).1, hX] at f2
  rw [(prog_one (by omega)).2]
  have t2 := Lib.hid (s1.none.trans s2)
  clear s1 s2 f1
  go_wp2_with fail
  refine (read_calls 1 2 p g cap _ 0 _ _ f2).mono ?_
  rintro e w3 ⟨r, o3, rfl, s3, v3, rfl, hx⟩
  rw [(read_one X).1] at hx
  rw [(read_one X).2]
  obtain ⟨A3, c3, rfl⟩ := Own.shape hx
  rw [hXl] at hx ⊢
  have t3 := Lib.hid (t2.out.trans s3.none)
  have f3 := Lib.hid (f2.stp s3 (by simp))
  have hx := Lib.hid hx
  clear s3 f2
  go_wp2_with fail
  refine (program_calls 1 0 p g cap _ 0 _ a _ _ f3.out (ha.stp t3.out (by simp))).mono ?_
  rintro e w4 ⟨r, o4, rfl, s4, rfl, f4⟩
  rw [(prog_one (by omega)).1, hXX] at f4
  rw [(prog_one (by omega)).2]
  have t4 := Lib.hid (t3.out.trans s4)
  have hx4 := Lib.hid (OwnB.stp hx.out s4 (by simp))
  clear s4 f3 t2 t3
  go_wp2_with fail
  refine (read_calls 1 2 p g cap _ 0 _ _ f4).mono ?_
  rintro e w5 ⟨r, o5, rfl, s5, v5, rfl, hy⟩
  rw [(read_one X).1] at hy
  rw [(read_one X).2]
  obtain ⟨A5, c5, rfl⟩ := Own.shape hy
  rw [hXl] at hy ⊢
  have t5 := Lib.hid (t4.out.trans s5.none)
  have f5 := Lib.hid (f4.stp s5 (by simp))
  have hx5 := Lib.hid (OwnB.stp hx4.out s5 (by simp))
  have hy := Lib.hid hy
  clear s5 f4 t4 hx4
  go_wp2_with fail
  refine (program_calls 1 0 p g cap _ 0 _ b _ _ f5.out (hb.stp t5.out (by simp))).mono ?_
  rintro e w6 ⟨r, o6, rfl, s6, rfl, f6⟩
  rw [(prog_one (by omega)).1, hZ] at f6
  rw [(prog_one (by omega)).2]
  have t6 := Lib.hid (t5.out.trans s6)
  have hx6 := Lib.hid (OwnB.stp hx5.out s6 (by simp))
  have hy6 := Lib.hid (OwnB.stp hy.out s6 (by simp))
  clear s6 f5 t5 hx5 hy
  go_wp2_with fail
  refine (read_calls 1 2 p g cap _ 0 _ _ f6).mono ?_
  rintro e w7 ⟨r, o7, rfl, s7, v7, rfl, hz⟩
  rw [(read_one Z).1] at hz
  rw [(read_one Z).2]
  obtain ⟨A7, c7, rfl⟩ := Own.shape hz
  rw [hZl] at hz ⊢
  have t7 := Lib.hid (t6.out.trans s7.none)
  have hx7 := Lib.hid (OwnB.stp hx6.out s7 (by simp))
  have hy7 := Lib.hid (OwnB.stp hy6.out s7 (by simp))
  have hz := Lib.hid hz
  clear s7 f6 t6 hx6 hy6
  go_wp2_with fail
  have q1 := convBS (OwnB.rd hx7.out) hXl.symm
  have q2 := convBS (OwnB.rd hy7.out) hXl.symm
  go_wp2_with fail
  rw [q1]
  go_wp2_with fail
  clear q1 q2
  go_loopw [12] (TwR w7 o7) (fun i _ => 64 - (intOf i).toNat)
  case atStart => exact ⟨0, o7, rfl, by omega, Stp.refl _ _ _⟩
  case round =>
    obtain ⟨k, o8, rfl, hk, hs⟩ := hrel
    by_cases hlt : k < 64
    · obtain ⟨az, rfl, cz⟩ := (RdB.stp (OwnB.rd hz.out) hs (by simp)).at_ (j := k) (by omega)
      obtain ⟨ax, rfl, cx⟩ := (RdB.stp (OwnB.rd hx7.out) hs (by simp)).at_ (j := k) (by omega)
      have hf := hfall k hlt
      obtain ⟨z, hzk⟩ : ∃ z, Z[k]'(by omega) = z := ⟨_, rfl⟩
      obtain ⟨x, hxk⟩ : ∃ x, X[k]'(by omega) = x := ⟨_, rfl⟩
      rw [hzk] at cz hf
      rw [hxk] at cx hf
      have hand := andNot8 z x
      rw [hf, show ((0 : UInt8).toNat : Int) = 0 from rfl] at hand
      have hs := Lib.hid hs
      have h1 : (0 : Int) ≤ (k : Int) ∧ (k : Int) < 64 := by omega
      clear hzk hxk hf
      go_wp2_with fail
      go_quiet (fail)
      go_wp2
      go_roundw
      case rel => exact ⟨k + 1, o8, by go_num, by omega, hs.out.drewN _⟩
      case measure => simp [intOf]; omega
    · have hk64 : k = 64 := by omega
      subst hk64
      go_wp2_with fail
      refine (known11_calls _ o8).mono ?_
      rintro e w8 ⟨r, o9, rfl, s9, rfl⟩
      have t9 := (t7.out.trans hs.none).trans s9.none
      clear s9 hs
      go_wp2
      go_ret
      exact Post.mk (t9.law (by simp)) rfl

end Go.Proofs.Ytbhmfiibaeladaa
