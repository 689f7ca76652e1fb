/- SegStray: the walk. -/
import Derived.Test.YtcbecidcfbhkfaaKnown15
import Derived.Test.YtcbecidcfbhkfaaRead15
namespace Go.Proofs.Ytcbecidcfbhkfaa
set_option linter.unusedVariables false
set_option linter.unusedSimpArgs false
open Go.RowKit Go.ChangeMaps

def bareJ (m : Nat) : JS := ⟨fun _ => none, 0, m⟩
theorem bareJ_ok (m : Nat) : (bareJ m).ok := fun id e h => by cases h
theorem stray_take (m : Nat) (id : Int) (d : List UInt8) (now : Int) (h : d.length = 0 ∨ 2 ≤ kindN d) : takeJ (bareJ m) id d now = (bareJ (m + 1), none) := by
  have hl : lateJ (bareJ m) id now = bareJ m := rfl
  unfold takeJ
  rw [hl]
  split
  · rfl
  · rw [if_neg (by omega), if_neg (by omega)]
    split
    · rfl
    · rfl
/-- What the loop of SegStray keeps. -/
def StR (w0 : World) (o0 : Col) (c p mb n : Nat) (x y : Value) (wr : World) : Prop :=
  ∃ (k m : Nat) (o' : Col) (Q : Int → Nat) (V : Int → Value), x = .int .i64 m ∧ y = .int .i64 k ∧ k ≤ n ∧ m ≤ k ∧ Stp [c] w0 o0 wr o' ∧ JFl wr o' c p mb Q V (bareJ m)
set_option maxHeartbeats 2000000 in
set_option maxRecDepth 100000 in
theorem stray_law (v : Value) (ls : List (List UInt8)) (w : World) (h : Rows15 w (fun _ => 0) 0 v ls) : Calls Try.prog 9 #[v] w (Post [] w (fun _ => 0) fun r _ _ => r = .bool true) := by
  obtain ⟨A, cap, rfl, hlc, hbig, hrow⟩ := h
  by_cases h1 : 60 < ls.length
  · have g1 : decide ((60 : Int) < (ls.length : Int)) = true := decide_eq_true (by omega)
    go_enter Try.func9, Try.ntmps9
    go_wp2
    go_ret
    exact Post.mk (Stp.refl _ _ _) rfl
  have g1 : decide ((60 : Int) < (ls.length : Int)) = false := decide_eq_false (by omega)
  replace hrow := Lib.hid hrow
  go_enter Try.func9, Try.ntmps9
  go_wp2_with fail
  refine (newJ_calls 1 w (fun _ => 0)).mono ?_
  rintro e w1 ⟨r, o1, rfl, s1, p, mb, rfl, j1⟩
  replace s1 := Lib.hid s1
  replace j1 := Lib.hid j1
  go_wp2_with fail
  go_loopw [4, 5] (StR w1 o1 1 p mb ls.length) (fun _ y _ => ls.length - (intOf y).toNat)
  case atStart => exact ⟨0, 0, o1, _, _, rfl, rfl, Nat.zero_le _, Nat.le_refl _, Stp.refl _ _ _, j1.out⟩
  case round =>
    obtain ⟨k, m, o2, Q, V, rfl, rfl, hk, hmk, hs, hj⟩ := hrel
    have st := Lib.hid (s1.out.none.trans hs)
    by_cases hlt : k < ls.length
    · have hq : ls[k]? = some ls[k] := by simp [hlt]
      obtain ⟨d, hdd⟩ : ∃ d, ls[k] = d := ⟨_, rfl⟩
      rw [hdd] at hq
      obtain ⟨a, vd, rfl, ha, c1, hr⟩ := hrow.out k d hq
      have d1 := st.out.cell c1 (by simp)
      have hr2 := hr.stp st.out (by simp)
      obtain ⟨Av, capv, rfl, _, _⟩ := hr.shape
      have z1 : decide ((k : Int) < (ls.length : Int)) = true := decide_eq_true (by omega)
      have z3 : (0 : Int) ≤ (k : Int) ∧ (k : Int) < (ls.length : Int) := by omega
      have z4 : (0 : Int) ≤ (m : Int) ∧ (m : Int) ≤ 60 := by omega
      replace hs := Lib.hid hs
      replace hj := Lib.hid hj
      clear c1 hr hdd hq
      by_cases hbig2 : 20 < d.length
      · have z2 : decide ((20 : Int) < (d.length : Int)) = true := decide_eq_true (by omega)
        go_wp2
        go_ret
        exact Post.mk (st.out.law (by simp)) rfl
      have z2 : decide ((20 : Int) < (d.length : Int)) = false := decide_eq_false (by omega)
      have hkind : d.length = 0 ∨ (0 < d.length ∧ kindN d < 2) ∨ (0 < d.length ∧ 2 ≤ kindN d) := by omega
      rcases hkind with h0 | ⟨h0, hkd⟩ | ⟨h0, hkd⟩
      · have z5 : decide (0 < d.length) = false := decide_eq_false (by omega)
        have hT := stray_take m 3 d 0 (.inl h0)
        replace hr2 := Lib.hid hr2
        replace h0 := Lib.hid h0
        go_wp2_with fail
        refine (take_calls 1 0 p mb Q V (bareJ m) 3 _ d 0 _ _ hj.out (bareJ_ok m) (by decide) (by show m ≤ 900000; omega) (by show 0 ≤ 900000; omega) (by decide) (by decide) hr2.out (by decide) (by omega)).mono ?_
        rw [hT]
        rintro e w4 ⟨r, o4, rfl, s4, v4, rfl, r4, Q4, V4, j4⟩
        replace s4 := Lib.hid (hs.out.trans s4)
        replace r4 := Lib.hid r4
        go_wp2_with fail
        refine (errors_calls 1 p mb Q4 V4 _ _ o4 j4).mono ?_
        rintro e w5 ⟨rfl, rfl⟩
        rw [show (((bareJ (m + 1)).err : Nat) : Int) = (m : Int) + 1 from rfl]
        go_wp2_with fail
        refine (open_calls 1 p mb Q4 V4 _ _ o4 j4).mono ?_
        rintro e w5 ⟨rfl, rfl⟩
        rw [show (((bareJ (m + 1)).cnt : Nat) : Int) = 0 from rfl]
        replace j4 := Lib.hid j4
        go_wp2
        go_roundw
        case rel => exact ⟨k + 1, m + 1, o4, _, _, by go_num, by go_num, by omega, by omega, s4.out, j4.out⟩
        case measure => simp [intOf]; omega
      · have z5 : decide (0 < d.length) = true := decide_eq_true (by omega)
        obtain ⟨b, rfl, hc0⟩ := hr2.at_ h0
        rw [head_at h0, show b.add 0 = b from rfl] at hc0
        obtain ⟨x, hx0⟩ : ∃ x, d.headD 0 = x := ⟨_, rfl⟩
        obtain ⟨kn, hkn⟩ : ∃ kn, x.toNat / 16 = kn := ⟨_, rfl⟩
        have hkI : (x.toNat : Int) / 16 = (kn : Int) := by omega
        have hkd2 : kindN d = kn := by rw [kindN, hx0, hkn]
        rw [hx0] at hc0
        replace hx0 := Lib.hid hx0
        replace hkn := Lib.hid hkn
        have z6 : decide ((kn : Int) < 2) = true := decide_eq_true (by omega)
        replace hr2 := Lib.hid hr2
        go_wp2
        go_roundw
        case rel => exact ⟨k + 1, m, o2, _, _, rfl, by go_num, by omega, by omega, hs.out, hj.out⟩
        case measure => simp [intOf]; omega
      · have z5 : decide (0 < d.length) = true := decide_eq_true (by omega)
        obtain ⟨b, rfl, hc0⟩ := hr2.at_ h0
        rw [head_at h0, show b.add 0 = b from rfl] at hc0
        obtain ⟨x, hx0⟩ : ∃ x, d.headD 0 = x := ⟨_, rfl⟩
        obtain ⟨kn, hkn⟩ : ∃ kn, x.toNat / 16 = kn := ⟨_, rfl⟩
        have hkI : (x.toNat : Int) / 16 = (kn : Int) := by omega
        have hkd2 : kindN d = kn := by rw [kindN, hx0, hkn]
        rw [hx0] at hc0
        replace hx0 := Lib.hid hx0
        replace hkn := Lib.hid hkn
        have z6 : decide ((kn : Int) < 2) = false := decide_eq_false (by omega)
        have hT := stray_take m 3 d 0 (.inr hkd)
        replace hr2 := Lib.hid hr2
        go_wp2_with fail
        refine (take_calls 1 0 p mb Q V (bareJ m) 3 _ d 0 _ _ hj.out (bareJ_ok m) (by decide) (by show m ≤ 900000; omega) (by show 0 ≤ 900000; omega) (by decide) (by decide) hr2.out (by decide) (by omega)).mono ?_
        rw [hT]
        rintro e w4 ⟨r, o4, rfl, s4, v4, rfl, r4, Q4, V4, j4⟩
        replace s4 := Lib.hid (hs.out.trans s4)
        replace r4 := Lib.hid r4
        go_wp2_with fail
        refine (errors_calls 1 p mb Q4 V4 _ _ o4 j4).mono ?_
        rintro e w5 ⟨rfl, rfl⟩
        rw [show (((bareJ (m + 1)).err : Nat) : Int) = (m : Int) + 1 from rfl]
        go_wp2_with fail
        refine (open_calls 1 p mb Q4 V4 _ _ o4 j4).mono ?_
        rintro e w5 ⟨rfl, rfl⟩
        rw [show (((bareJ (m + 1)).cnt : Nat) : Int) = 0 from rfl]
        replace j4 := Lib.hid j4
        go_wp2
        go_roundw
        case rel => exact ⟨k + 1, m + 1, o4, _, _, by go_num, by go_num, by omega, by omega, s4.out, j4.out⟩
        case measure => simp [intOf]; omega
    · have z1 : decide ((k : Int) < (ls.length : Int)) = false := decide_eq_false (by omega)
      replace hs := Lib.hid hs
      replace hj := Lib.hid hj
      go_wp2_with fail
      refine (known15_calls _ o2).mono ?_
      rintro e w9 ⟨r, o9, rfl, s9, rfl⟩
      replace st := Lib.hid (st.out.trans s9.none)
      clear s9
      go_wp2
      go_ret
      exact Post.mk (st.out.law (by simp)) rfl

end Go.Proofs.Ytcbecidcfbhkfaa
