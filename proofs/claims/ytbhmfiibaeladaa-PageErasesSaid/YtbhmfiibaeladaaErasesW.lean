/- PageErases: the walk. -/
import Derived.Test.YtbhmfiibaeladaaPageS
namespace Go.Proofs.Ytbhmfiibaeladaa
set_option linter.unusedVariables false
set_option linter.unusedSimpArgs false
open Go.RowKit

set_option maxHeartbeats 2000000 in
set_option maxRecDepth 100000 in
theorem erases_law (va : Value) (a : List UInt8) (vb : Value) (b : List UInt8) (w : World) (ha : RdB w (fun _ => 0) 0 va a) (hb : RdB w (fun _ => 0) 0 vb b) : Calls Try.prog 4 #[va, vb] w (Post [] w (fun _ => 0) fun r _ _ => r = .bool true) := by
  obtain ⟨A, ca, rfl, hac, hA⟩ := ha.shape
  obtain ⟨B, cb, rfl, hbc, hB⟩ := hb.shape
  by_cases h1 : 64 < a.length
  · have h1' : (64 : Int) < (a.length : Int) := by omega
    go_enter Try.func4, Try.ntmps4
    go_wp2
    go_ret
    exact Post.mk (Stp.refl _ _ _) rfl
  by_cases h2 : 64 < b.length
  · have h2' : (64 : Int) < (b.length : Int) := by omega
    have h1' : ¬ (64 : Int) < (a.length : Int) := by omega
    go_enter Try.func4, Try.ntmps4
    go_wp2
    go_ret
    exact Post.mk (Stp.refl _ _ _) rfl
  have h1' : ¬ (64 : Int) < (a.length : Int) := by omega
  have h2' : ¬ (64 : Int) < (b.length : Int) := by omega
  obtain ⟨Q, hQ⟩ : ∃ Q, blankPage = Q := ⟨_, rfl⟩
  have hQl : Q.length = 64 := by rw [← hQ, blank_len]
  have hQ255 : ∀ j (hj : j < 64), Q[j]'(by omega) = 255 := by subst hQ; exact fun j hj => blank_at _
  obtain ⟨X, hX⟩ : ∃ X, andPage Q a = X := ⟨_, rfl⟩
  obtain ⟨Y, hY⟩ : ∃ Y, andPage Q b = Y := ⟨_, rfl⟩
  have hYl : Y.length = 64 := by rw [← hY, andPage_len (by omega), hQl]
  go_enter Try.func4, Try.ntmps4
  go_wp2_with fail
  refine (new_calls 1 2 w (fun _ => 0) 2 (by omega)).mono ?_
  rintro e w1 ⟨r, o1, rfl, s1, p, g, cap, rfl, f1⟩
  rw [hQ, show (⟨List.replicate 2 Q, -1, 0, false⟩ : FS) = st [Q, Q] from rfl] at f1
  have t1 := Lib.hid (s1.none (C := [1]))
  have f1 := Lib.hid f1
  clear s1
  go_wp2_with fail
  refine (program_calls 1 0 p g cap _ 0 _ a _ _ f1.out (ha.stp t1.out (by simp))).mono ?_
  rintro e w2 ⟨r, o2, rfl, s2, rfl, f2⟩
  rw [(prog_st 0 0 Q a [X, Q] rfl rfl (by omega) (by rw [hX]; rfl)).1] at f2
  rw [(prog_st 0 0 Q a [X, Q] rfl rfl (by omega) (by rw [hX]; rfl)).2]
  have t2 := Lib.hid (t1.out.trans s2)
  have f2 := Lib.hid f2
  clear t1 f1
  clear s2
  go_wp2_with fail
  refine (program_calls 1 0 p g cap _ 1 _ b _ _ f2.out (hb.stp t2.out (by simp))).mono ?_
  rintro e w3 ⟨r, o3, rfl, s3, rfl, f3⟩
  rw [(prog_st 1 1 Q b [X, Y] rfl rfl (by omega) (by rw [hY]; rfl)).1] at f3
  rw [(prog_st 1 1 Q b [X, Y] rfl rfl (by omega) (by rw [hY]; rfl)).2]
  have t3 := Lib.hid (t2.out.trans s3)
  have f3 := Lib.hid f3
  clear t2 f2
  clear s3
  go_wp2_with fail
  refine (read_calls 1 2 p g cap _ 1 _ _ f3.out).mono ?_
  rintro e w4 ⟨r, o4, rfl, s4, vhx, rfl, hx4⟩
  rw [(read_st 1 1 Y rfl rfl).1] at hx4
  rw [(read_st 1 1 Y rfl rfl).2]
  obtain ⟨Ahx, chx, rfl⟩ := Own.shape hx4
  rw [hYl] at hx4 ⊢
  have t4 := Lib.hid (t3.out.trans s4.none)
  have f4 := Lib.hid (f3.out.stp s4 (by simp))
  have hx4 := Lib.hid hx4
  clear t3 f3
  clear s4
  go_wp2_with fail
  refine (erase_calls 1 p g cap _ 0 _ _ f4.out).mono ?_
  rintro e w5 ⟨r, o5, rfl, s5, rfl, f5⟩
  rw [(erase_st 0 0 [Q, Y] rfl (by simp) (by rw [hQ]; rfl)).1] at f5
  rw [(erase_st 0 0 [Q, Y] rfl (by simp) (by rw [hQ]; rfl)).2]
  have t5 := Lib.hid (t4.out.trans s5)
  have f5 := Lib.hid f5
  clear t4 f4
  have hx5 := Lib.hid (OwnB.stp hx4.out s5 (by simp))
  clear hx4
  clear s5
  go_wp2_with fail
  refine (read_calls 1 2 p g cap _ 0 _ _ f5.out).mono ?_
  rintro e w6 ⟨r, o6, rfl, s6, vhy, rfl, hy6⟩
  rw [(read_st 0 0 Q rfl rfl).1] at hy6
  rw [(read_st 0 0 Q rfl rfl).2]
  obtain ⟨Ahy, chy, rfl⟩ := Own.shape hy6
  rw [hQl] at hy6 ⊢
  have t6 := Lib.hid (t5.out.trans s6.none)
  have f6 := Lib.hid (f5.out.stp s6 (by simp))
  have hy6 := Lib.hid hy6
  clear t5 f5
  have hx6 := Lib.hid (OwnB.stp hx5.out s6 (by simp))
  clear hx5
  clear s6
  go_wp2_with fail
  refine (read_calls 1 2 p g cap _ 1 _ _ f6.out).mono ?_
  rintro e w7 ⟨r, o7, rfl, s7, vhz, rfl, hz7⟩
  rw [(read_st 1 1 Y rfl rfl).1] at hz7
  rw [(read_st 1 1 Y rfl rfl).2]
  obtain ⟨Ahz, chz, rfl⟩ := Own.shape hz7
  rw [hYl] at hz7 ⊢
  have t7 := Lib.hid (t6.out.trans s7.none)
  have f7 := Lib.hid (f6.out.stp s7 (by simp))
  have hz7 := Lib.hid hz7
  clear t6 f6
  have hx7 := Lib.hid (OwnB.stp hx6.out s7 (by simp))
  clear hx6
  have hy7 := Lib.hid (OwnB.stp hy6.out s7 (by simp))
  clear hy6
  clear s7
  go_wp2_with fail
  go_loopw [13] (RoR w7 o7 64) (fun i _ => 64 - (intOf i).toNat)
  case atStart => exact ⟨0, o7, rfl, by omega, Stp.refl _ _ _⟩
  case round =>
    obtain ⟨k, o8, rfl, hk, hs⟩ := hrel
    by_cases hlt : k < 64
    · obtain ⟨az, rfl, cz⟩ := (RdB.stp (OwnB.rd hy7.out) hs (by simp)).at_ (j := k) (by omega)
      rw [hQ255 k hlt, show ((255 : UInt8).toNat : Int) = 255 from rfl] at cz
      have hs := Lib.hid hs
      have h1 : (0 : Int) ≤ (k : Int) ∧ (k : Int) < 64 := by omega
      go_wp2
      go_roundw
      case rel => exact ⟨k + 1, o8, by go_num, by omega, hs.out⟩
      case measure => simp [intOf]; omega
    · have hk64 : k = 64 := by omega
      subst hk64
      have f8 := Lib.hid (f7.out.stp hs (by simp))
      have q1 := convBS (OwnB.rd (OwnB.stp hx7.out hs (by simp))) hYl.symm
      have q2 := convBS (OwnB.rd (OwnB.stp hz7.out hs (by simp))) hYl.symm
      have t8 := Lib.hid (t7.out.trans hs.none)
      have hs := Lib.hid hs
      go_wp2_with fail
      refine (program_calls 1 0 p g cap _ 2 _ a _ _ f8.out (ha.stp t8.out (by simp))).mono ?_
      rintro e w9 ⟨r, o9, rfl, s9, rfl, f9⟩
      rw [(prog_st_bad 2 a (by simp)).2]
      have t9 := Lib.hid (t8.out.trans s9)
      clear s9 f9 f8
      go_wp2_with fail
      refine (known11_calls _ o9).mono ?_
      rintro e w10 ⟨r, o10, rfl, s10, rfl⟩
      have t10 := Lib.hid (t9.out.trans s10.none)
      clear s10 q1 q2
      go_wp2
      go_ret
      exact Post.mk (t10.out.law (by simp)) rfl

end Go.Proofs.Ytbhmfiibaeladaa
