/- SlotRises: the walk. -/
import Derived.Test.YtpjnmijfmfgdpaaKnown12
import Derived.Test.YtpjnmijfmfgdpaaRead
namespace Go.Proofs.Ytpjnmijfmfgdpaa
set_option linter.unusedVariables false
set_option linter.unusedSimpArgs false
open Go.RowKit

/-- What the first loop of SlotRises keeps. -/
def RsA (ls : List (List UInt8)) (x y : Value) : Prop := ∃ (k : Nat) (n : Int), y = .int .i64 k ∧ k ≤ ls.length ∧ x = .int .i64 n ∧ ∀ (i : Nat) (l : List UInt8), i < k → ls[i]? = some l → l.length ≤ 2500
/-- What the second loop of SlotRises keeps. -/
def RsB (w0 : World) (o0 : Col) (c p g cap : Nat) (ls : List (List UInt8)) (x : Value) (wr : World) : Prop :=
  ∃ (k : Nat) (o' : Col) (s : FS) (b : List UInt8) (t : Int), x = .int .i64 k ∧ k ≤ ls.length ∧ Stp [c] w0 o0 wr o' ∧ Fl wr o' c p g cap s ∧ Tells s b k t

set_option maxHeartbeats 4000000 in
set_option maxRecDepth 100000 in
theorem rises_law (v : Value) (ls : List (List UInt8)) (w : World) (h : RdRows w (fun _ => 0) 0 0 v ls) : Calls Try.prog 5 #[v] w (Post [] w (fun _ => 0) fun r _ _ => r = .bool true) := by
  obtain ⟨A, cap0, rfl, hnc, hA⟩ := h.shape
  have hbig : ls.length ≤ 9223372036854775807 := by obtain ⟨_, _, h, _⟩ := h; exact h.big
  replace h := Lib.hid h
  go_enter Try.func5, Try.ntmps5
  go_wp2_with fail
  go_loop [3, 4] (RsA ls) (fun _ y => ls.length - (intOf y).toNat)
  case atStart => exact ⟨0, 0, rfl, Nat.zero_le _, rfl, fun i l hi => by omega⟩
  case round =>
    obtain ⟨k, n, rfl, hk, rfl, hall⟩ := hrel
    by_cases hlt : k < ls.length
    · have g1 : decide ((k : Int) < (ls.length : Int)) = true := decide_eq_true (by omega)
      have g3 : (0 : Int) ≤ (k : Int) ∧ (k : Int) < (ls.length : Int) := by omega
      obtain ⟨a, u, r, rfl, hcell, hrd, Hr⟩ := h.out.get hlt
      obtain ⟨B, cap2, rfl, hrc, hB⟩ := hrd.shape
      replace hrd := Lib.hid hrd
      have hr' : ls[k]? = some r := by rw [List.getElem?_eq_getElem hlt, Hr.out]
      replace hr' := Lib.hid hr'
      replace hall := Lib.hid hall
      by_cases hbig2 : 2500 < r.length
      · have g4 : decide ((2500 : Int) < (r.length : Int)) = true := decide_eq_true (by omega)
        go_wp2
        go_ret
        exact Post.mk (Stp.refl _ _ _) rfl
      · have g4 : decide ((2500 : Int) < (r.length : Int)) = false := decide_eq_false (by omega)
        go_wp2
        go_round
        case rel =>
          refine ⟨k + 1, _, by go_num, by omega, rfl, fun i l hi hl => ?_⟩
          by_cases e : i = k
          · subst e
            have := hr'.out
            rw [this] at hl
            injection hl with hl
            subst hl
            omega
          · exact hall.out i l (by omega) hl
        case measure => simp [intOf]; omega
    · have g1 : decide ((k : Int) < (ls.length : Int)) = false := decide_eq_false (by omega)
      have hk2 : k = ls.length := by omega
      replace hk2 := Lib.hid hk2
      replace hall := Lib.hid hall
      by_cases h6 : 6000 < n
      · have g2 : decide (6000 < n) = true := decide_eq_true h6
        go_wp2
        go_ret
        exact Post.mk (Stp.refl _ _ _) rfl
      have g2 : decide (6000 < n) = false := decide_eq_false h6
      by_cases h12 : 12 < ls.length
      · have g3 : decide ((12 : Int) < (ls.length : Int)) = true := decide_eq_true (by omega)
        go_wp2
        go_ret
        exact Post.mk (Stp.refl _ _ _) rfl
      have g3 : decide ((12 : Int) < (ls.length : Int)) = false := decide_eq_false (by omega)
      have t0 := Tells.new (n := 80) (by omega)
      have e0 : loadS (newS 80) = ([], 0, 9) := by rw [loadS, if_neg (by simp [newS]), newS_loaded (by omega)]; rfl
      have hnew := new_calls' 1 w (fun _ => 0)
      obtain ⟨S0, hS0⟩ : ∃ S0, newS 80 = S0 := ⟨_, rfl⟩
      rw [hS0] at t0 e0 hnew
      replace t0 := Lib.hid t0
      replace e0 := Lib.hid e0
      replace hS0 := Lib.hid hS0
      go_wp2_with fail
      refine hnew.mono ?_
      clear hnew
      rintro e w1 ⟨r, o1, rfl, s1, p, g, cap, rfl, f1⟩
      have hld := load_calls 1 3 p g cap S0 w1 o1 f1
      rw [e0.out] at hld
      replace f1 := Lib.hid f1
      replace s1 := Lib.hid s1
      go_wp2_with fail
      refine hld.mono ?_
      clear hld
      rintro e w2 ⟨r, o2, rfl, s2, v2, rfl, h2⟩
      have f2 := Lib.hid (f1.out.stp s2 (by simp))
      have st2 := Lib.hid (s1.out.trans s2)
      obtain ⟨A2, cap2, rfl⟩ := Own.shape h2
      have h2' : OwnB w2 o2 3 (.slice A2 0 cap2) [] := h2
      replace h2' := Lib.hid h2'
      replace h2 := Lib.hid h2
      clear s2
      go_wp2_with fail
      go_loopw [9] (RsB w2 o2 1 p g cap ls) (fun x _ => ls.length - (intOf x).toNat)
      case atStart => exact ⟨0, o2, S0, [], -1, rfl, Nat.zero_le _, Stp.refl _ _ _, f2.out, t0.out⟩
      case round =>
        obtain ⟨j, o3, s, b, t, rfl, hj, st3, f3, t3⟩ := hrel
        have st4 := Lib.hid ((st2.out.none.trans st3 : Stp [1] w (fun _ => 0) wr o3))
        have hj12 : j ≤ 12 := by omega
        by_cases hlt2 : j < ls.length
        · have g5 : decide ((j : Int) < (ls.length : Int)) = true := decide_eq_true (by omega)
          have g6 : (0 : Int) ≤ (j : Int) ∧ (j : Int) < (ls.length : Int) := by omega
          obtain ⟨a, u, r, rfl, hcell, hrd, Hr⟩ := h.out.get hlt2
          have hrl : r.length ≤ 2500 := hall.out j r (by rw [hk2.out]; exact hlt2) (by rw [List.getElem?_eq_getElem hlt2, Hr.out])
          obtain ⟨s', e1, t4, _⟩ := t3.save hrl (by omega)
          have e2 := t4.load (by split <;> omega)
          have d1 := st4.out.cell hcell (by simp)
          have r1 := hrd.stp st4.out (by simp)
          obtain ⟨B, capB, rfl, hrc, hB⟩ := hrd.shape
          have hsv := save_calls 1 0 p g cap s _ r wr o3 f3 r1 (by omega) (by omega)
          rw [e1] at hsv
          dsimp only at hsv
          replace hrd := Lib.hid hrd
          replace r1 := Lib.hid r1
          replace f3 := Lib.hid f3
          replace t3 := Lib.hid t3
          replace t4 := Lib.hid t4
          replace e1 := Lib.hid e1
          replace e2 := Lib.hid e2
          replace st3 := Lib.hid st3
          have Hcell := Lib.hid hcell
          clear hcell
          go_wp2_with fail
          refine hsv.mono ?_
          clear hsv
          rintro e w4 ⟨rr, o4, rfl, s4, rfl, f4⟩
          have hld := load_calls 1 3 p g cap s' w4 o4 f4
          rw [e2.out] at hld
          have st5 := st4.out.trans s4
          have f5 := Lib.hid f4
          have s34 := st3.out.trans s4
          clear d1
          replace s4 := Lib.hid s4
          go_wp2_with fail
          refine hld.mono ?_
          clear hld
          rintro e w5 ⟨rr, o5, rfl, s5, v5, rfl, h5⟩
          obtain ⟨A5, cap5, rfl⟩ := Own.shape h5
          have h5' : OwnB w5 o5 3 (.slice A5 r.length cap5) r := h5
          have st6 := st5.trans s5.none
          have d3 := st6.cell Hcell.out (by simp)
          have r3 := hrd.out.stp st6 (by simp)
          have f6 := Lib.hid (f5.out.stp s5 (by simp))
          have s56 := Lib.hid (s34.trans s5.none)
          have cv1 : ∀ n, (convert 22 9 (.slice A5 r.length cap5)).run Try.prog (w5.drewN n) = .ok (.string ⟨r.toArray⟩) (w5.drewN n) := fun n => convBS ((OwnB.rd h5').stp ((Stp.refl [] w5 o5).drewN n) (by simp)) rfl
          have cv2 : ∀ n, (convert 22 9 (.slice B r.length capB)).run Try.prog (w5.drewN n) = .ok (.string ⟨r.toArray⟩) (w5.drewN n) := fun n => convBS (r3.stp ((Stp.refl [] w5 o5).drewN n) (by simp)) rfl
          replace h5 := Lib.hid h5
          replace h5' := Lib.hid h5'
          replace st5 := Lib.hid st5
          replace st6 := Lib.hid st6
          replace r3 := Lib.hid r3
          replace s5 := Lib.hid s5
          replace s34 := Lib.hid s34
          replace f4 := Lib.hid f4
          go_wp2_with fail
          go_quiet (fail)
          go_wp2
          go_roundw
          case rel => exact ⟨j + 1, o5, s', r, _, by go_num, by omega, s56.out.drewN _, f6.out.stp ((Stp.refl [] w5 o5).drewN _) (by simp), t4.out⟩
          case measure => simp [intOf]; omega
        · have g5 : decide ((j : Int) < (ls.length : Int)) = false := decide_eq_false (by omega)
          replace f3 := Lib.hid f3
          replace t3 := Lib.hid t3
          replace st3 := Lib.hid st3
          go_wp2_with fail
          refine (known12_calls _ o3).mono ?_
          rintro e w9 ⟨rr, o9, rfl, s9, rfl⟩
          have st9 := Lib.hid (st4.out.trans s9.none)
          clear s9
          go_wp2
          go_ret
          exact Post.mk (st9.out.law (by simp)) rfl
end Go.Proofs.Ytpjnmijfmfgdpaa
