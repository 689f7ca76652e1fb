/- PageCopy: the walk. -/
import Derived.Test.YtbhmfiibaeladaaPCopy
namespace Go.Proofs.Ytbhmfiibaeladaa
set_option linter.unusedVariables false
set_option linter.unusedSimpArgs false
open Go.RowKit

/-- What the loop over b keeps. -/
def CpR (w0 : World) (o0 : Col) (v : Value) (x : Value) (wr : World) : Prop := ∃ (k : Nat) (o' : Col) (L : List UInt8), x = .int .i64 k ∧ k ≤ 64 ∧ Stp [5] w0 o0 wr o' ∧ OwnB wr o' 5 v L ∧ L.length = 64
set_option maxHeartbeats 2000000 in
set_option maxRecDepth 100000 in
theorem copy_law (va : Value) (a : List UInt8) (w : World) (ha : RdB w (fun _ => 0) 0 va a) : Calls Try.prog 8 #[va] w (Post [] w (fun _ => 0) fun r _ _ => r = .bool true) := by
  obtain ⟨A, ca, rfl, hac, hA⟩ := ha.shape
  by_cases h1 : 64 < a.length
  · have h1' : (64 : Int) < (a.length : Int) := by omega
    go_enter Try.func8, Try.ntmps8
    go_wp2
    go_ret
    exact Post.mk (Stp.refl _ _ _) rfl
  have h1' : ¬ (64 : Int) < (a.length : Int) := by omega
  obtain ⟨Q, hQ⟩ : ∃ Q, blankPage = Q := ⟨_, rfl⟩
  have hQl : Q.length = 64 := by rw [← hQ, blank_len]
  obtain ⟨X, hX⟩ : ∃ X, andPage Q a = X := ⟨_, rfl⟩
  have hXl : X.length = 64 := by rw [← hX, andPage_len (by omega), hQl]
  go_enter Try.func8, Try.ntmps8
  go_wp2_with fail
  refine (new_calls 1 2 w (fun _ => 0) 2 (by omega)).mono ?_
  rintro e w1 ⟨r, o1, rfl, s1, p, g, cap, rfl, f1⟩
  rw [hQ, show (⟨List.replicate 2 Q, -1, 0, false⟩ : FS) = st [Q, Q] from rfl] at f1
  have t1 := Lib.hid (s1.none (C := [1]))
  have f1 := Lib.hid f1
  clear s1
  go_wp2_with fail
  refine (program_calls 1 0 p g cap _ 1 _ a _ _ f1.out (ha.stp t1.out (by simp))).mono ?_
  rintro e w2 ⟨r, o2, rfl, s2, rfl, f2⟩
  rw [(prog_st 1 1 Q a [Q, X] rfl rfl (by omega) (by rw [hX]; rfl)).1] at f2
  rw [(prog_st 1 1 Q a [Q, X] rfl rfl (by omega) (by rw [hX]; rfl)).2]
  have t2 := Lib.hid (t1.out.trans s2)
  have f2 := Lib.hid f2
  clear t1 f1
  clear s2
  go_wp2_with fail
  refine (read_calls 1 2 p g cap _ 1 _ _ f2.out).mono ?_
  rintro e w3 ⟨r, o3, rfl, s3, vhx, rfl, hx3⟩
  rw [(read_st 1 1 X rfl rfl).1] at hx3
  rw [(read_st 1 1 X rfl rfl).2]
  obtain ⟨Ahx, chx, rfl⟩ := Own.shape hx3
  rw [hXl] at hx3 ⊢
  have t3 := Lib.hid (t2.out.trans s3.none)
  have f3 := Lib.hid (f2.out.stp s3 (by simp))
  have hx3 := Lib.hid hx3
  clear t2 f2
  clear s3
  go_wp2_with fail
  refine (copy_calls 1 3 p g cap _ _ _ f3.out).mono ?_
  rintro e w4 ⟨r, o4, rfl, s4, p2, g2, cap2, rfl, c4⟩
  have t4 := Lib.hid (t3.out.trans s4.none)
  have f4 := Lib.hid (f3.out.stp s4 (by simp))
  have hx4 := Lib.hid (OwnB.stp hx3.out s4 (by simp))
  have c4 := Lib.hid c4
  clear s4 t3 f3 hx3
  go_wp2_with fail
  refine (erase_calls 3 p2 g2 cap2 _ 1 _ _ c4.out).mono ?_
  rintro e w5 ⟨r, o5, rfl, s5, rfl, c5⟩
  rw [(erase_st 1 1 [Q, Q] rfl (by simp) (by rw [hQ]; rfl)).1] at c5
  rw [(erase_st 1 1 [Q, Q] rfl (by simp) (by rw [hQ]; rfl)).2]
  have t5 := Lib.hid ((t4.out.mono (D := [1, 3, 5]) (by simp)).trans (s5.mono (by simp)))
  have f5 := Lib.hid (f4.out.stp s5 (by simp))
  have hx5 := Lib.hid (OwnB.stp hx4.out s5 (by simp))
  have c5 := Lib.hid c5
  clear s5 t4 f4 hx4 c4
  go_wp2_with fail
  refine (read_calls 1 5 p g cap _ 1 _ _ f5.out).mono ?_
  rintro e w6 ⟨r, o6, rfl, s6, vb, rfl, hb6⟩
  rw [(read_st 1 1 X rfl rfl).1] at hb6
  rw [(read_st 1 1 X rfl rfl).2]
  obtain ⟨Ab, cb, rfl⟩ := Own.shape hb6
  rw [hXl] at hb6 ⊢
  have t6 := Lib.hid (t5.out.trans s6.none)
  have f6 := Lib.hid (f5.out.stp s6 (by simp))
  have hx6 := Lib.hid (OwnB.stp hx5.out s6 (by simp))
  have c6 := Lib.hid (c5.out.stp s6 (by simp))
  have hb6 := Lib.hid hb6
  clear s6 t5 f5 hx5 c5
  go_wp2_with fail
  go_loopw [9] (CpR w6 o6 (.slice Ab 64 cb)) (fun i _ => 64 - (intOf i).toNat)
  case atStart => exact ⟨0, o6, X, rfl, by omega, Stp.refl _ _ _, hb6.out, hXl⟩
  case round =>
    obtain ⟨k, o7, L, rfl, hk, hs, hL, hLl⟩ := hrel
    by_cases hlt : k < 64
    · obtain ⟨gb, rfl, k1, k2, k3⟩ := hL.store (j := k) (by omega)
      obtain ⟨k4, k5⟩ := k3 7
      have hs := Lib.hid (hs.trans k5)
      have k4 := Lib.hid k4
      have h1 : (0 : Int) ≤ (k : Int) ∧ (k : Int) < 64 := by omega
      clear k3 k5 hL
      go_wp2
      go_roundw
      case rel => exact ⟨k + 1, o7, _, by go_num, by omega, hs.out, k4.out, by rw [List.length_set]; exact hLl⟩
      case measure => simp [intOf]; omega
    · have hk64 : k = 64 := by omega
      subst hk64
      have t7 := Lib.hid (t6.out.trans (hs.mono (by simp)))
      have f7 := Lib.hid (f6.out.stp hs (by simp))
      have c7 := Lib.hid (c6.out.stp hs (by simp))
      have hx7 := Lib.hid (OwnB.stp hx6.out hs (by simp))
      clear hs hL
      go_wp2_with fail
      refine (read_calls 1 2 p g cap _ 1 _ _ f7.out).mono ?_
      rintro e w8 ⟨r, o8, rfl, s8, vc, rfl, hc8⟩
      rw [(read_st 1 1 X rfl rfl).1] at hc8
      rw [(read_st 1 1 X rfl rfl).2]
      obtain ⟨Ac, cc, rfl⟩ := Own.shape hc8
      rw [hXl] at hc8 ⊢
      have t8 := Lib.hid (t7.out.trans s8.none)
      have c8 := Lib.hid (c7.out.stp s8 (by simp))
      have q1 := convBS (OwnB.rd (OwnB.stp hx7.out s8 (by simp))) hXl.symm
      have q2 := convBS (OwnB.rd hc8) hXl.symm
      clear s8 hc8
      go_wp2_with fail
      refine (len_calls 3 p2 g2 cap2 _ _ _ c8.out).mono ?_
      rintro e w9 ⟨rfl, rfl⟩
      rw [show (st [Q, Q]).pg.length = 2 from rfl]
      clear q1 q2
      go_wp2_with fail
      refine (known11_calls _ o8).mono ?_
      rintro e w10 ⟨r, o10, rfl, s10, rfl⟩
      have t10 := Lib.hid (t8.out.trans s10.none)
      clear s10
      go_wp2
      go_ret
      exact Post.mk (t10.out.law (by simp)) rfl

end Go.Proofs.Ytbhmfiibaeladaa
