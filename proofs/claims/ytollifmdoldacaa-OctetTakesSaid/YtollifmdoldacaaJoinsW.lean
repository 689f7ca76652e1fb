/- OctetJoins: the walk. -/
import Derived.Test.YtollifmdoldacaaKnown1
import Derived.Test.YtollifmdoldacaaLaw1b
import Derived.Test.YtollifmdoldacaaJoin
namespace Go.Proofs.Ytollifmdoldacaa
set_option linter.unusedVariables false
set_option linter.unusedSimpArgs false
open Go.RowKit

theorem heavy_len (ls : List (List UInt8)) (h : heavyGo 0 ls = false) : lens ls ≤ 4000 ∧ ls.length ≤ 4000 := by
  have hsum := heavy_sum ls 0 (by omega) h
  have : ∀ l : List (List UInt8), lens l ≤ (l.map fun l => l.length + 3).sum ∧ l.length ≤ (l.map fun l => l.length + 3).sum := by
    intro l
    induction l with
    | nil => simp [lens]
    | cons a l ih => simp only [lens, List.map_cons, List.sum_cons, List.length_cons] at *; omega
  have := this ls
  omega
theorem lens_append (a b : List (List UInt8)) : lens (a ++ b) = lens a + lens b := by unfold lens; rw [List.map_append, List.sum_append]
def JwIn (ls : List (List UInt8)) (x y : Value) : Prop := ∃ k : Nat, x = .int .i64 (lens (ls.take k) : Int) ∧ y = .int .i64 k ∧ k ≤ ls.length

set_option maxHeartbeats 2000000 in
set_option maxRecDepth 100000 in
theorem joins_law (v : Value) (xs : List (List UInt8)) (v2 : Value) (ys : List (List UInt8)) (w : World) (ha : RdRows w (fun _ => 0) 0 0 v xs) (hb : RdRows w (fun _ => 0) 0 0 v2 ys) :
    Calls Try.prog 6 #[v, v2] w (Post [] w (fun _ => 0) fun r _ _ => r = .bool true) := by
  obtain ⟨A, cap, rfl, hnc, hA⟩ := ha.shape
  obtain ⟨B, capb, rfl, hncb, hB⟩ := hb.shape
  have easy : ∀ w', w = w' → Post [] w (fun _ => 0) (fun r _ _ => r = .bool true) (.returned (.bool true)) w' := fun w' e => by subst e; exact Post.mk (Stp.refl _ _ _) rfl
  have Easy := Lib.hid easy
  clear easy
  cases hva : heavyGo 0 xs with
  | true =>
    go_enter Try.func6, Try.ntmps6
    go_wp2_with fail
    refine (heavy_calls 0 0 _ xs w _ ha).mono ?_
    rintro e w1 ⟨rfl, rfl⟩
    rw [hva]
    go_wp2
    go_ret
    exact Easy.out _ rfl
  | false =>
  cases hvb : heavyGo 0 ys with
  | true =>
    go_enter Try.func6, Try.ntmps6
    go_wp2_with fail
    refine (heavy_calls 0 0 _ xs w _ ha).mono ?_
    rintro e w1 ⟨rfl, rfl⟩
    rw [hva]
    clear hva
    go_wp2_with fail
    refine (heavy_calls 0 0 _ ys w _ hb).mono ?_
    rintro e w1 ⟨rfl, rfl⟩
    rw [hvb]
    clear hvb
    go_wp2
    go_ret
    exact Easy.out _ rfl
  | false =>
  obtain ⟨la, na⟩ := heavy_len xs hva
  obtain ⟨lb, nb⟩ := heavy_len ys hvb
  have La := Lib.hid la
  have Lb := Lib.hid lb
  clear la lb Easy
  go_enter Try.func6, Try.ntmps6
  go_wp2_with fail
  refine (heavy_calls 0 0 _ xs w _ ha).mono ?_
  rintro e w1 ⟨rfl, rfl⟩
  rw [hva]
  clear hva
  go_wp2_with fail
  refine (heavy_calls 0 0 _ ys w _ hb).mono ?_
  rintro e w1 ⟨rfl, rfl⟩
  rw [hvb]
  clear hvb
  obtain ⟨va, hval, hvr, hve⟩ := id ha
  obtain ⟨vb_, hvbl, hvbr, hvbe⟩ := id hb
  go_wp2_with (refine holdAt 17 ?_)
  apply Hold.mk
  have s1 := (Stp.refl [1] w (fun _ => 0)).alloc (.cells #[] 23) 1
  refine app slR _ _ rfl rfl (Own.newE w (fun _ => 0) 1 23 1 _ rfl) (hvr.stp s1 (by simp)) rfl rfl (by omega) (by simp only [maxLen]; omega) fun A1 cap1 w1 o1 h1 h2 _ _ _ => ?_
  rw [Nat.zero_add, List.nil_append] at h2
  rw [Nat.zero_add]
  have s2 := s1.trans h1
  clear s1 h1
  go_wp2_with (refine holdAt 19 ?_)
  apply Hold.mk
  refine app slR _ _ rfl rfl h2 (hvbr.stp s2 (by simp)) rfl rfl (by omega) (by simp only [maxLen]; omega) fun A2 cap2 w2 o2 h3 h4 _ _ _ => ?_
  have s3 : Stp [1, 5] w (fun _ => 0) w2 o2 := (s2.trans h3).mono (by simp)
  clear s2 h3 h2
  obtain ⟨all, hall⟩ : ∃ all, xs ++ ys = all := ⟨_, rfl⟩
  have hlen : xs.length + ys.length = all.length := by rw [← hall, List.length_append]
  have hr : RdRows w2 o2 1 0 (.slice A2 all.length cap2) all := by
    rw [← hlen]
    have h5 := Own.rd h4
    refine ⟨va ++ vb_, by rw [List.length_append, hval, hvbl, hlen], by rw [← hlen]; exact h5, fun j hj u hu => ?_⟩
    by_cases hj1 : j < xs.length
    · rw [List.getElem?_append_left (by omega)] at hu
      have := (hve j hj1 u hu).stp s3 (by simp)
      subst hall
      rw [List.getElem_append_left hj1]
      exact this
    · rw [List.getElem?_append_right (by omega), hval] at hu
      have := (hvbe (j - xs.length) (by omega) u hu).stp s3 (by simp)
      subst hall
      rw [List.getElem_append_right (by omega)]
      exact this
  have hla : lens all = lens xs + lens ys := by rw [← hall, lens_append]
  have Hfl := Lib.hid (show all.flatten = xs.flatten ++ ys.flatten by rw [← hall, List.flatten_append])
  have hlall : lens all ≤ 8000 := by rw [hla]; have := La.out; have := Lb.out; omega
  have Hlall := Lib.hid hlall
  have hnall : all.length ≤ 8000 := by omega
  clear hall hla hlall h4 hve hvbe hvr hvbr hval hvbl
  rw [hlen]
  clear hlen
  obtain ⟨FA, hFA⟩ : ∃ F, xs.flatten = F := ⟨_, rfl⟩
  obtain ⟨FB, hFB⟩ : ∃ F, ys.flatten = F := ⟨_, rfl⟩
  obtain ⟨FL, hFL⟩ : ∃ F, all.flatten = F := ⟨_, rfl⟩
  have HAB := Lib.hid (show FA ++ FB = FL by rw [← hFA, ← hFB, ← hFL, Hfl.out])
  have hlA : FA.length ≤ 4000 := by rw [← hFA, lens_flat]; exact La.out
  have hlB : FB.length ≤ 4000 := by rw [← hFB, lens_flat]; exact Lb.out
  have HlL := Lib.hid (show lens all = FL.length by rw [← hFL, lens_flat])
  have hlL : FL.length ≤ 8000 := by rw [← HlL.out]; exact Hlall.out
  have HFA := Lib.hid hFA
  have HFB := Lib.hid hFB
  have HFL := Lib.hid hFL
  clear hFA hFB hFL
  go_wp2_with fail
  refine (join_calls 0 0 2 _ xs w2 o2 (ha.stp s3 (by simp) (by simp)) (by have := La.out; omega) (by omega)).mono ?_
  rintro e w3 ⟨r3, o3, rfl, s4, j3⟩
  rw [HFA.out] at j3
  obtain ⟨A3, cap3, rfl⟩ := Own.shape j3
  have s5 := s3.trans s4.none
  have hr3 := hr.stp s4 (by simp) (by simp)
  clear s3 s4 hr
  go_wp2_with fail
  refine (join_calls 0 0 2 _ ys w3 o3 (hb.stp s5 (by simp) (by simp)) (by have := Lb.out; omega) (by omega)).mono ?_
  rintro e w4 ⟨r4, o4, rfl, s6, j4⟩
  rw [HFB.out] at j4
  obtain ⟨A4, cap4, rfl⟩ := Own.shape j4
  have s7 := s5.trans s6.none
  have hr4 := hr3.stp s6 (by simp) (by simp)
  have j34 := (OwnB.rd (j3.stp s6 (by simp)))
  clear s5 s6 hr3 j3
  go_wp2_with fail
  have b1 := RdRows.new2 w4 o4 4 2 _ _ FA FB 23 _ rfl j34 (OwnB.rd j4)
  obtain ⟨o5, s8, hr5, b2⟩ : ∃ o5, Stp [1, 5] w (fun _ => 0) (w4.alloc (.cells #[.slice A3 FA.length cap3, .slice A4 FB.length cap4] 23)) o5 ∧ RdRows (w4.alloc (.cells #[.slice A3 FA.length cap3, .slice A4 FB.length cap4] 23)) o5 1 0 (.slice A2 all.length cap2) all ∧ RdRows (w4.alloc (.cells #[.slice A3 FA.length cap3, .slice A4 FB.length cap4] 23)) o5 4 2 _ [FA, FB] :=
    ⟨_, s7.alloc _ 4, hr4.stp ((Stp.refl [] w4 o4).alloc _ 4) (by simp) (by simp), b1⟩
  clear b1 s7 hr4 j34 j4
  refine (join_calls 4 2 5 _ [FA, FB] _ o5 b2 (by simp [lens]; omega) (by simp)).mono ?_
  rintro e w5 ⟨r5, o6, rfl, s9, x1⟩
  rw [show ([FA, FB] : List (List UInt8)).flatten = FL by simpa using HAB.out] at x1
  obtain ⟨A5, cap5, rfl⟩ := Own.shape x1
  have s10 := s8.trans s9.none
  have hr6 := hr5.stp s9 (by simp) (by simp)
  clear s8 s9 hr5 b2
  go_wp2_with fail
  refine (join_calls 1 0 6 _ all w5 o6 hr6 (by have := Hlall.out; omega) (by omega)).mono ?_
  rintro e w6 ⟨r6, o7, rfl, s11, j6⟩
  rw [HFL.out] at j6
  obtain ⟨A6, cap6, rfl⟩ := Own.shape j6
  have s12 := s10.trans s11.none
  have hr7 := hr6.stp s11 (by simp) (by simp)
  have x2 := x1.stp s11 (by simp)
  clear s10 s11 hr6 x1
  go_wp2_with fail
  refine (same_calls 5 6 _ _ FL FL w6 o7 (OwnB.rd x2) (OwnB.rd j6)).mono ?_
  rintro e w7 ⟨r7, o8, rfl, s13, rfl⟩
  rw [beq_self_eq_true]
  have s14 := s12.trans s13.none
  have hr8 := hr7.stp s13 (by simp) (by simp)
  have x3 := x2.stp s13 (by simp)
  clear s12 s13 hr7 x2 j6
  go_wp2_with fail
  refine (sum_calls 1 0 _ all w7 o8 hr8).mono ?_
  rintro e w8 ⟨rfl, rfl⟩
  rw [HFL.out]
  obtain ⟨cr, hcr⟩ : ∃ cr, crc FL = cr := ⟨_, rfl⟩
  rw [hcr]
  have Hcr := Lib.hid hcr
  clear hcr
  go_wp2_with fail
  have b3 := RdRows.new1 w7 o8 7 5 _ FL 23 _ rfl (OwnB.rd x3)
  obtain ⟨o9, s15, hr9, x4, b4⟩ : ∃ o9, Stp [1, 5] w (fun _ => 0) (w7.alloc (.cells #[.slice A5 FL.length cap5] 23)) o9 ∧ RdRows (w7.alloc (.cells #[.slice A5 FL.length cap5] 23)) o9 1 0 (.slice A2 all.length cap2) all ∧ OwnB (w7.alloc (.cells #[.slice A5 FL.length cap5] 23)) o9 5 (.slice A5 FL.length cap5) FL ∧ RdRows (w7.alloc (.cells #[.slice A5 FL.length cap5] 23)) o9 7 5 _ [FL] :=
    ⟨_, s14.alloc _ 7, hr8.stp ((Stp.refl [] w7 o8).alloc _ 7) (by simp) (by simp), x3.stp ((Stp.refl [] w7 o8).alloc _ 7) (by simp), b3⟩
  clear s14 hr8 x3 b3
  refine (sum_calls 7 5 _ [FL] _ o9 b4).mono ?_
  rintro e w8 ⟨rfl, rfl⟩
  rw [show ([FL] : List (List UInt8)).flatten = FL by simp, Hcr.out]
  clear b4
  generalize w7.alloc (.cells #[.slice A5 FL.length cap5] 23) = w8 at *
  go_wp2_with fail
  go_loop [7, 8] (JwIn all) (fun _ y => all.length - (intOf y).toNat)
  case atStart => exact ⟨0, rfl, rfl, Nat.zero_le _⟩
  case round =>
    obtain ⟨k, rfl, rfl, hk⟩ := hrel
    by_cases hlt : k < all.length
    · obtain ⟨a, uv, r, rfl, hcell, hrd, Hr⟩ := hr9.get hlt
      obtain ⟨B9, cap9, rfl, hrc, hB9⟩ := hrd.shape
      have e1 : lens (all.take (k + 1)) = lens (all.take k) + r.length := by rw [List.take_succ_eq_append_getElem hlt, Hr.out, lens_snoc]
      have e2 := lens_take all (k + 1)
      rw [e1, HlL.out] at e2
      generalize lens (all.take k) = acc at *
      have E1 := Lib.hid e1
      clear e1
      go_wp2
      go_round
      case rel => exact ⟨k + 1, by rw [E1.out]; go_num, by go_num, hlt⟩
      case measure => simp [intOf]; omega
    · have hk' : k = all.length := by omega
      subst hk'
      rw [List.take_length, HlL.out]
      go_wp2_with fail
      refine (spoil_calls 5 _ FL w8 o9 x4 (by omega)).mono ?_
      rintro e w9 ⟨r9, o10, rfl, s16, rfl⟩
      have s17 : Stp [1, 5] w (fun _ => 0) w9 o10 := s15.trans (s16.mono (by simp))
      have hr10 := hr9.stp s16 (by simp) (by simp)
      clear s15 s16 hr9 x4
      go_wp2_with fail
      refine (join_calls 1 0 6 _ all w9 o10 hr10 (by have := Hlall.out; omega) (by omega)).mono ?_
      rintro e w10 ⟨r10, o11, rfl, s18, j10⟩
      rw [HFL.out] at j10
      obtain ⟨A10, cap10, rfl⟩ := Own.shape j10
      have s19 := s17.trans s18.none
      clear s17 s18 hr10
      go_wp2_with fail
      refine (join_calls 0 0 2 _ xs w10 o11 (ha.stp s19 (by simp) (by simp)) (by have := La.out; omega) (by omega)).mono ?_
      rintro e w11 ⟨r11, o12, rfl, s20, j11⟩
      rw [HFA.out] at j11
      obtain ⟨A11, cap11, rfl⟩ := Own.shape j11
      have s21 := s19.trans s20.none
      have j12 := OwnB.rd (j10.stp s20 (by simp))
      clear s19 s20 j10
      go_wp2_with fail
      refine (join_calls 0 0 2 _ ys w11 o12 (hb.stp s21 (by simp) (by simp)) (by have := Lb.out; omega) (by omega)).mono ?_
      rintro e w12 ⟨r12, o13, rfl, s22, j13⟩
      rw [HFB.out] at j13
      obtain ⟨A13, cap13, rfl⟩ := Own.shape j13
      have s23 := s21.trans s22.none
      have j14 := OwnB.rd (j11.stp s22 (by simp))
      have j15 := j12.stp s22 (by simp)
      clear s21 s22 j11 j12
      go_wp2_with fail
      have b5 := RdRows.new2 w12 o13 4 2 _ _ FA FB 23 _ rfl j14 (OwnB.rd j13)
      obtain ⟨o14, s24, j16, b6⟩ : ∃ o14, Stp [1, 5] w (fun _ => 0) (w12.alloc (.cells #[.slice A11 FA.length cap11, .slice A13 FB.length cap13] 23)) o14 ∧ RdB (w12.alloc (.cells #[.slice A11 FA.length cap11, .slice A13 FB.length cap13] 23)) o14 6 (.slice A10 FL.length cap10) FL ∧ RdRows (w12.alloc (.cells #[.slice A11 FA.length cap11, .slice A13 FB.length cap13] 23)) o14 4 2 _ [FA, FB] :=
        ⟨_, s23.alloc _ 4, j15.stp ((Stp.refl [] w12 o13).alloc _ 4) (by simp), b5⟩
      clear s23 j13 j14 j15 b5
      refine (join_calls 4 2 5 _ [FA, FB] _ o14 b6 (by simp [lens]; omega) (by simp)).mono ?_
      rintro e w13 ⟨r13, o15, rfl, s25, x5⟩
      rw [show ([FA, FB] : List (List UInt8)).flatten = FL by simpa using HAB.out] at x5
      obtain ⟨A15, cap15, rfl⟩ := Own.shape x5
      have s26 := s24.trans s25.none
      have j17 := j16.stp s25 (by simp)
      clear s24 s25 j16 b6
      go_wp2_with fail
      refine (same_calls 6 5 _ _ FL FL w13 o15 j17 (OwnB.rd x5)).mono ?_
      rintro e w14 ⟨r14, o16, rfl, s27, rfl⟩
      rw [beq_self_eq_true]
      have s28 := s26.trans s27.none
      clear s26 s27 j17 x5
      go_wp2_with fail
      refine (known1_calls w14 o16).mono ?_
      rintro e w15 ⟨r15, o17, rfl, s29, rfl⟩
      go_wp2
      go_ret
      exact Post.mk ((s28.trans s29.none).law (by simp)) rfl
end Go.Proofs.Ytollifmdoldacaa
