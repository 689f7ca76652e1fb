/- PageFuse: the walk. -/
import Derived.Test.YtbhmfiibaeladaaPageS
namespace Go.Proofs.Ytbhmfiibaeladaa
set_option linter.unusedVariables false
set_option linter.unusedSimpArgs false
open Go.RowKit

/-- So many acts are done; the fuse says how many are left. -/
def FInv (s : FS) (n d : Int) : Prop := s.pg.length = 4 ∧ 0 ≤ d ∧ d ≤ n ∧ ((s.dead = false ∧ s.fuse = n - d) ∨ (s.dead = true ∧ d = n))
/-- What an act's answer tells. -/
def FRes (s' : FS) (e : Int) (k n d : Int) : Prop :=
  (s'.dead = true ∧ e = 11 ∧ FInv s' n d ∧ d = n) ∨ (s'.dead = false ∧ (k < 0 ∨ 3 < k) ∧ e = 1 ∧ FInv s' n d) ∨ (s'.dead = false ∧ ¬ (k < 0 ∨ 3 < k) ∧ e = 0 ∧ FInv s' n (d + 1))
theorem act_res {s : FS} {n d k : Int} (h : FInv s n d) (m : Nat) (hm : m ≤ 64) (q : List UInt8) :
    FRes (if mayE s k m = 0 then bec s k.toNat q else s) (if mayE s k m = 0 then becE s else mayE s k m) k n d := by
  obtain ⟨h1, h2, h3, h4⟩ := h
  rcases h4 with ⟨hd, hf⟩ | ⟨hd, hf⟩
  · by_cases hk : k < 0 ∨ 3 < k
    · have hmm : mayE s k m = 1 := by
        rw [mayE, hd, if_neg (by simp), if_pos]
        left
        cases hh : hasB s k with
        | false => rfl
        | true =>
          obtain ⟨j, rfl, hj⟩ := hasB_nat hh
          omega
      rw [hmm, if_neg (by omega), if_neg (by omega)]
      exact .inr (.inl ⟨hd, hk, rfl, h1, h2, h3, .inl ⟨hd, hf⟩⟩)
    · have hmm : mayE s k m = 0 := by
        have hh : hasB s k = true := by simp [hasB, h1]; omega
        rw [mayE, hd, if_neg (by simp), if_neg]
        rw [hh]
        simp
        omega
      rw [if_pos hmm, if_pos hmm]
      by_cases h0 : s.fuse = 0
      · refine .inl ⟨?_, ?_, ⟨?_, h2, h3, .inr ⟨?_, by omega⟩⟩, by omega⟩
        · rw [bec, if_pos h0]
        · rw [becE, if_pos h0]
        · rw [bec, if_pos h0]; simp [h1]
        · rw [bec, if_pos h0]
      · refine .inr (.inr ⟨?_, hk, ?_, ⟨?_, by omega, by omega, .inl ⟨?_, ?_⟩⟩⟩)
        · rw [bec, if_neg h0]; exact hd
        · rw [becE, if_neg h0]
        · rw [bec, if_neg h0]; simp [h1]
        · rw [bec, if_neg h0]; exact hd
        · rw [bec, if_neg h0]
          show max (s.fuse - 1) (-1) = n - (d + 1)
          omega
  · have hmm : mayE s k m = 11 := by rw [mayE, hd]; rfl
    rw [hmm, if_neg (by omega), if_neg (by omega)]
    exact .inl ⟨hd, rfl, ⟨h1, h2, h3, .inr ⟨hd, hf⟩⟩, hf⟩
theorem erase_res {s : FS} {n d k : Int} (h : FInv s n d) : FRes (eraseS s k) (eraseE s k) k n d := act_res h 0 (by omega) blankPage
theorem prog_res {s : FS} {n d k : Int} (h : FInv s n d) (b : List UInt8) (hb : b.length ≤ 64) : FRes (progS s k b) (progE s k b) k n d := act_res h b.length hb _

/-- What the law's loop keeps. -/
def FuR (w0 : World) (p g cap : Nat) (n : Int) (len : Nat) (x y : Value) (wr : World) : Prop :=
  ∃ (d : Int) (k : Nat) (o' : Col) (s : FS), x = .int .i64 d ∧ y = .int .i64 k ∧ k ≤ len ∧ Stp [1] w0 (fun _ => 0) wr o' ∧ Fl wr o' 1 p g cap s ∧ FInv s n d

set_option maxHeartbeats 2000000 in
set_option maxRecDepth 100000 in
theorem fuse_law (n : Int) (vk : Value) (ks : List Bool) (va : Value) (ats : List Int) (w : World) (hwf : (Lit.int .i64 n).wf = true) (hk : Rd w (fun _ => 0) 0 1 vk ks.length (ks.map .bool)) (ha : Rd w (fun _ => 0) 0 1 va ats.length (ats.map (.int .i64))) :
    Calls Try.prog 5 #[.int .i64 n, vk, va] w (Post [] w (fun _ => 0) fun r _ _ => r = .bool true) := by
  obtain ⟨A, ca, rfl, hac, hA, _⟩ := hk.is
  obtain ⟨B, cb, rfl, hbc, hB, _⟩ := ha.is
  by_cases h1 : n < 0
  · go_enter Try.func5, Try.ntmps5
    go_wp2
    go_ret
    exact Post.mk (Stp.refl _ _ _) rfl
  have x1 : decide (n < 0) = false := decide_eq_false h1
  by_cases h2 : 100 < n
  · go_enter Try.func5, Try.ntmps5
    go_wp2
    go_ret
    exact Post.mk (Stp.refl _ _ _) rfl
  have x2 : decide (100 < n) = false := decide_eq_false h2
  by_cases h3 : 60 < ks.length
  · have h3' : (60 : Int) < (ks.length : Int) := by omega
    go_enter Try.func5, Try.ntmps5
    go_wp2
    go_ret
    exact Post.mk (Stp.refl _ _ _) rfl
  have h3' : ¬ (60 : Int) < (ks.length : Int) := by omega
  by_cases h4 : ats.length < ks.length
  · have h4' : (ats.length : Int) < (ks.length : Int) := by omega
    go_enter Try.func5, Try.ntmps5
    go_wp2
    go_ret
    exact Post.mk (Stp.refl _ _ _) rfl
  have h4' : ¬ (ats.length : Int) < (ks.length : Int) := by omega
  have x3 : decide ((60 : Int) < (ks.length : Int)) = false := decide_eq_false h3'
  have x4 : decide ((ats.length : Int) < (ks.length : Int)) = false := decide_eq_false h4'
  obtain ⟨Q, hQ⟩ : ∃ Q, blankPage = Q := ⟨_, rfl⟩
  go_enter Try.func5, Try.ntmps5
  go_wp2_with fail
  refine (new_calls 1 4 w (fun _ => 0) 4 (by omega)).mono ?_
  rintro e w1 ⟨r, o1, rfl, s1, p, g, cap, rfl, f1⟩
  rw [hQ, show (⟨List.replicate 4 Q, -1, 0, false⟩ : FS) = st [Q, Q, Q, Q] from rfl] at f1
  go_wp2_with fail
  refine (fuse_calls 1 p g cap _ n 10 _ _ f1 (by omega)).mono ?_
  rintro e w2 ⟨r, o2, rfl, s2, rfl, f2⟩
  have t2 := Lib.hid (s1.none.trans s2)
  have f2 := Lib.hid f2
  clear s1 s2 f1
  go_wp2_with fail
  go_loopw [8, 9] (FuR w p g cap n ks.length) (fun _ i _ => ks.length - (intOf i).toNat)
  case atStart => exact ⟨0, 0, o2, _, rfl, rfl, Nat.zero_le _, t2.out, f2.out, rfl, by omega, by omega, .inl ⟨rfl, by show max n (-1) = n - 0; omega⟩⟩
  case round =>
    obtain ⟨d, k, o3, s, rfl, rfl, hkl, hs, hf, hi⟩ := hrel
    by_cases hlt : k < ks.length
    · obtain ⟨aa, rfl, ca'⟩ := (ha.stp hs (by simp)).get (j := k) (by omega)
      obtain ⟨ak, rfl, ck'⟩ := (hk.stp hs (by simp)).get (j := k) hlt
      obtain ⟨x, hx⟩ : ∃ x, ats[k]'(by omega) = x := ⟨_, rfl⟩
      obtain ⟨b, hb⟩ : ∃ b, ks[k] = b := ⟨_, rfl⟩
      rw [hx] at ca'
      rw [hb] at ck'
      clear hx hb
      have hmod : -5 ≤ x.tmod 6 ∧ x.tmod 6 ≤ 5 := by
        have h1 := Int.lt_tmod_of_pos x (show (0 : Int) < 6 by omega)
        have h2 := Int.tmod_lt_of_pos x (show (0 : Int) < 6 by omega)
        omega
      obtain ⟨y, hy⟩ : ∃ y, x.tmod 6 = y := ⟨_, rfl⟩
      rw [hy] at hmod
      have hb1 : (0 : Int) ≤ (k : Int) ∧ (k : Int) < (ks.length : Int) ∧ (k : Int) < (ats.length : Int) := by omega
      have hs := Lib.hid hs
      have hf := Lib.hid hf
      have hdx := hi.2.1
      have hdy := hi.2.2.1
      cases b
      · go_wp2_with fail
        have b1 := RdB.new wr o3 2 #[.int .u8 1] [1] rfl 1 rfl (by omega) 5 _ rfl
        have a1 := (Stp.refl [] wr o3).alloc (.cells #[.int .u8 1] 5) 2
        refine (program_calls 1 2 p g cap _ (y - 1) _ [1] _ _ (hf.out.stp a1 (by simp)) b1).mono ?_
        rintro e w3 ⟨r, o4, rfl, s4, rfl, f4⟩
        have hres := prog_res (k := y - 1) hi [1] (by simp)
        have t4 := (hs.out.trans a1.none).trans s4
        generalize progS s (y - 1) [1] = s' at f4 hres
        generalize progE s (y - 1) [1] = e' at hres ⊢
        clear a1 b1 s4 hi
        have t4 := Lib.hid t4
        have f4 := Lib.hid f4
        rcases hres with ⟨r1, rfl, r3, r4⟩ | ⟨r1, r2, rfl, r3⟩ | ⟨r1, r2, rfl, r3⟩
        all_goals
          have hdd := r3.2.1
          have hdn := r3.2.2.1
          have xd : decide (d < n) = decide (d < n) := rfl
          have xn : decide (n < d) = false := decide_eq_false (by omega)
          have xn1 : d + 1 ≤ n → decide (n < d + 1) = false := fun h => decide_eq_false (by omega)
        · have xdn : decide (d < n) = false := decide_eq_false (by omega)
          have r3 := Lib.hid r3
          clear xd xn1
          by_cases hk0 : y - 1 < 0
          · have xk0 : decide (y - 1 < 0) = true := decide_eq_true hk0
            go_wp2_with fail
            refine (dead_calls 1 p g cap _ _ _ f4.out).mono ?_
            rintro e wd ⟨rfl, rfl⟩
            rw [r1]
            go_wp2
            go_roundw
            case rel => exact ⟨d, k + 1, _, _, by first | rfl | rw [r4], by go_num, by omega, t4.out, f4.out, r3.out⟩
            case measure => simp [intOf]; omega
          · have xk0 : decide (y - 1 < 0) = false := decide_eq_false hk0
            obtain ⟨bk, xk3⟩ : ∃ bk, decide (3 < y - 1) = bk := ⟨_, rfl⟩
            go_wp2_with fail
            refine (dead_calls 1 p g cap _ _ _ f4.out).mono ?_
            rintro e wd ⟨rfl, rfl⟩
            rw [r1]
            go_wp2
            go_roundw
            case rel => exact ⟨d, k + 1, _, _, by first | rfl | rw [r4], by go_num, by omega, t4.out, f4.out, r3.out⟩
            case measure => simp [intOf]; omega
        · have r3 := Lib.hid r3
          clear xd xn1
          by_cases hk0 : y - 1 < 0
          · have xk0 : decide (y - 1 < 0) = true := decide_eq_true hk0
            go_wp2_with fail
            refine (dead_calls 1 p g cap _ _ _ f4.out).mono ?_
            rintro e wd ⟨rfl, rfl⟩
            rw [r1]
            go_wp2
            go_roundw
            case rel => exact ⟨d, k + 1, _, _, by first | rfl | rw [r4], by go_num, by omega, t4.out, f4.out, r3.out⟩
            case measure => simp [intOf]; omega
          · have xk0 : decide (y - 1 < 0) = false := decide_eq_false hk0
            have xk3 : decide (3 < y - 1) = true := decide_eq_true (by omega)
            go_wp2_with fail
            refine (dead_calls 1 p g cap _ _ _ f4.out).mono ?_
            rintro e wd ⟨rfl, rfl⟩
            rw [r1]
            go_wp2
            go_roundw
            case rel => exact ⟨d, k + 1, _, _, by first | rfl | rw [r4], by go_num, by omega, t4.out, f4.out, r3.out⟩
            case measure => simp [intOf]; omega
        · have xn2 := xn1 hdn
          have r3 := Lib.hid r3
          clear xd xn1
          have xk0 : decide (y - 1 < 0) = false := decide_eq_false (by omega)
          have xk3 : decide (3 < y - 1) = false := decide_eq_false (by omega)
          have hd1 : 0 ≤ d ∧ d ≤ 100 := by omega
          go_wp2_with fail
          refine (dead_calls 1 p g cap _ _ _ f4.out).mono ?_
          rintro e wd ⟨rfl, rfl⟩
          rw [r1]
          go_wp2
          go_roundw
          case rel => exact ⟨d + 1, k + 1, _, _, by go_num, by go_num, by omega, t4.out, f4.out, r3.out⟩
          case measure => simp [intOf]; omega
      · go_wp2_with fail
        refine (erase_calls 1 p g cap _ (y - 1) _ _ hf.out).mono ?_
        rintro e w3 ⟨r, o4, rfl, s4, rfl, f4⟩
        have hres := erase_res (k := y - 1) hi
        have t4 := hs.out.trans s4
        generalize eraseS s (y - 1) = s' at f4 hres
        generalize eraseE s (y - 1) = e' at hres ⊢
        clear s4 hi
        have t4 := Lib.hid t4
        have f4 := Lib.hid f4
        rcases hres with ⟨r1, rfl, r3, r4⟩ | ⟨r1, r2, rfl, r3⟩ | ⟨r1, r2, rfl, r3⟩
        all_goals
          have hdd := r3.2.1
          have hdn := r3.2.2.1
          have xd : decide (d < n) = decide (d < n) := rfl
          have xn : decide (n < d) = false := decide_eq_false (by omega)
          have xn1 : d + 1 ≤ n → decide (n < d + 1) = false := fun h => decide_eq_false (by omega)
        · have xdn : decide (d < n) = false := decide_eq_false (by omega)
          have r3 := Lib.hid r3
          clear xd xn1
          by_cases hk0 : y - 1 < 0
          · have xk0 : decide (y - 1 < 0) = true := decide_eq_true hk0
            go_wp2_with fail
            refine (dead_calls 1 p g cap _ _ _ f4.out).mono ?_
            rintro e wd ⟨rfl, rfl⟩
            rw [r1]
            go_wp2
            go_roundw
            case rel => exact ⟨d, k + 1, _, _, by first | rfl | rw [r4], by go_num, by omega, t4.out, f4.out, r3.out⟩
            case measure => simp [intOf]; omega
          · have xk0 : decide (y - 1 < 0) = false := decide_eq_false hk0
            obtain ⟨bk, xk3⟩ : ∃ bk, decide (3 < y - 1) = bk := ⟨_, rfl⟩
            go_wp2_with fail
            refine (dead_calls 1 p g cap _ _ _ f4.out).mono ?_
            rintro e wd ⟨rfl, rfl⟩
            rw [r1]
            go_wp2
            go_roundw
            case rel => exact ⟨d, k + 1, _, _, by first | rfl | rw [r4], by go_num, by omega, t4.out, f4.out, r3.out⟩
            case measure => simp [intOf]; omega
        · have r3 := Lib.hid r3
          clear xd xn1
          by_cases hk0 : y - 1 < 0
          · have xk0 : decide (y - 1 < 0) = true := decide_eq_true hk0
            go_wp2_with fail
            refine (dead_calls 1 p g cap _ _ _ f4.out).mono ?_
            rintro e wd ⟨rfl, rfl⟩
            rw [r1]
            go_wp2
            go_roundw
            case rel => exact ⟨d, k + 1, _, _, by first | rfl | rw [r4], by go_num, by omega, t4.out, f4.out, r3.out⟩
            case measure => simp [intOf]; omega
          · have xk0 : decide (y - 1 < 0) = false := decide_eq_false hk0
            have xk3 : decide (3 < y - 1) = true := decide_eq_true (by omega)
            go_wp2_with fail
            refine (dead_calls 1 p g cap _ _ _ f4.out).mono ?_
            rintro e wd ⟨rfl, rfl⟩
            rw [r1]
            go_wp2
            go_roundw
            case rel => exact ⟨d, k + 1, _, _, by first | rfl | rw [r4], by go_num, by omega, t4.out, f4.out, r3.out⟩
            case measure => simp [intOf]; omega
        · have xn2 := xn1 hdn
          have r3 := Lib.hid r3
          clear xd xn1
          have xk0 : decide (y - 1 < 0) = false := decide_eq_false (by omega)
          have xk3 : decide (3 < y - 1) = false := decide_eq_false (by omega)
          have hd1 : 0 ≤ d ∧ d ≤ 100 := by omega
          go_wp2_with fail
          refine (dead_calls 1 p g cap _ _ _ f4.out).mono ?_
          rintro e wd ⟨rfl, rfl⟩
          rw [r1]
          go_wp2
          go_roundw
          case rel => exact ⟨d + 1, k + 1, _, _, by go_num, by go_num, by omega, t4.out, f4.out, r3.out⟩
          case measure => simp [intOf]; omega
    · have hkk : k = ks.length := by omega
      subst hkk
      have hs := Lib.hid hs
      clear hf hi
      go_wp2_with fail
      refine (known11_calls _ o3).mono ?_
      rintro e w10 ⟨r, o10, rfl, s10, rfl⟩
      have t10 := Lib.hid (hs.out.trans s10.none)
      clear s10
      go_wp2
      go_ret
      exact Post.mk (t10.out.law (by simp)) rfl

end Go.Proofs.Ytbhmfiibaeladaa
