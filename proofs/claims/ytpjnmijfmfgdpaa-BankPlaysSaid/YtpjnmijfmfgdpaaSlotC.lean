/- Slots (chapter 12): loaded, isFlash, Load: the walks. -/
import Derived.Test.YtpjnmijfmfgdpaaSlotB
namespace Go.Proofs.Ytpjnmijfmfgdpaa
set_option linter.unusedVariables false
set_option linter.unusedSimpArgs false
open Go.RowKit

/-- What the loop of 'loaded' keeps. -/
def LoR (w0 : World) (o0 : Col) (d : Nat) (s : FS) (x y z u : Value) (wr : World) : Prop :=
  ∃ (i : Nat) (o' : Col), u = .int .i64 i ∧ i ≤ 2 ∧ Stp [] w0 o0 wr o' ∧ OwnB wr o' d x (loadGo s i).1 ∧ y = .int .i64 ((loadGo s i).2.1 : Int) ∧ z = .int .i64 (loadGo s i).2.2
set_option maxHeartbeats 1000000 in
theorem loaded_calls (c e0 p g cap : Nat) (s : FS) (w : World) (o : Col) (h : Fl w o c p g cap s) :
    Calls Try.prog 48 #[.pointer (some ⟨p, 0, none⟩)] w (Post [] w o fun r w' o' => ∃ v, r = .tuple #[v, .int .i64 ((loadedS s).2.1 : Int), .int .i64 (loadedS s).2.2] ∧ OwnB w' o' e0 v (loadedS s).1) := by
  obtain ⟨d, hd1, _, hdf⟩ := fresh o w.heap.size [c]
  simp only [List.mem_cons, List.not_mem_nil, or_false, not_or] at hd1
  replace h := Lib.hid h
  go_enter Try.func48, Try.ntmps48
  go_wp2_with fail
  go_loopw [2, 3, 4, 9] (LoR w o d s) (fun _ _ _ u _ => 2 - (intOf u).toNat)
  case atStart => exact ⟨0, o, rfl, by omega, Stp.refl _ _ _, OwnB.nil _ _ _, rfl, rfl⟩
  case round =>
    obtain ⟨i, o1, rfl, hi, st, hm, rfl, rfl⟩ := hrel
    have hfl := Lib.hid (h.out.stp st (by simp))
    have hbd := loadGo_bound s i
    obtain ⟨A, capA, rfl⟩ := Own.shape hm
    obtain ⟨N, hN⟩ : ∃ N, (loadGo s i).2.1 = N := ⟨_, rfl⟩
    obtain ⟨T, hT⟩ : ∃ T, (loadGo s i).2.2 = T := ⟨_, rfl⟩
    obtain ⟨B, hB⟩ : ∃ B, (loadGo s i).1 = B := ⟨_, rfl⟩
    rw [hN, hT] at hbd
    rw [hB] at hm
    rw [hN, hT, hB]
    by_cases hlt : i < 2
    · have g1 : decide ((i : Int) < 2) = true := decide_eq_true (by omega)
      have hnx : loadGo s (i + 1) = stepL i (wholeS s i) (B, N, T) := by
        rw [loadGo, show loadGo s i = (B, N, T) by rw [← hN, ← hT, ← hB]]
      replace hm := Lib.hid hm
      replace st := Lib.hid st
      replace hN := Lib.hid hN
      replace hT := Lib.hid hT
      replace hB := Lib.hid hB
      cases hq : wholeS s i with
      | none =>
        have hwc : Calls Try.prog 76 #[.pointer (some ⟨p, 0, none⟩), .int .i64 i] wr (Post [] wr o1 fun r w' o' => ∃ v, r = .tuple #[v, .int .i64 0, .bool false] ∧ OwnB w' o' d v []) := by
          have := whole_calls c d p g cap s i (by omega) _ _ hfl.out
          rw [hq] at this
          exact this
        rw [hq, stepL] at hnx
        replace hnx := Lib.hid hnx
        replace hq := Lib.hid hq
        go_wp2_with fail
        refine hwc.mono ?_
        clear hwc
        rintro e w2 ⟨r, o2, rfl, s2, v2, rfl, h2⟩
        have hm2 := Lib.hid (OwnB.stp hm.out s2 (by simp))
        have st2 := Lib.hid (st.out.trans s2)
        replace h2 := Lib.hid h2
        clear s2
        go_wp2
        go_roundw
        case rel => exact ⟨i + 1, o2, by go_num, by omega, st2.out, by rw [hnx.out]; exact hm2.out, by rw [hnx.out], by rw [hnx.out]⟩
        case measure => simp [intOf]; omega
      | some x =>
        obtain ⟨xb, xn⟩ := x
        have hwb := wholeP_bound hq
        have hwc : Calls Try.prog 76 #[.pointer (some ⟨p, 0, none⟩), .int .i64 i] wr (Post [] wr o1 fun r w' o' => ∃ v, r = .tuple #[v, .int .i64 (xn : Int), .bool true] ∧ OwnB w' o' d v xb) := by
          have := whole_calls c d p g cap s i (by omega) _ _ hfl.out
          rw [hq] at this
          exact this
        rw [hq, stepL] at hnx
        dsimp only at hnx hwb
        replace hq := Lib.hid hq
        by_cases hNx : N < xn
        · rw [if_pos hNx] at hnx
          have g2 : decide ((N : Int) < (xn : Int)) = true := decide_eq_true (by omega)
          replace hnx := Lib.hid hnx
          go_wp2_with fail
          refine hwc.mono ?_
          clear hwc
          rintro e w2 ⟨r, o2, rfl, s2, v2, rfl, h2⟩
          have st2 := Lib.hid (st.out.trans s2)
          obtain ⟨A2, cap2, rfl⟩ := Own.shape h2
          have h2' : OwnB w2 o2 d (.slice A2 xb.length cap2) xb := h2
          replace h2' := Lib.hid h2'
          clear s2 h2
          go_wp2
          go_roundw
          case rel => exact ⟨i + 1, o2, by go_num, by omega, st2.out, by rw [hnx.out]; exact h2'.out, by rw [hnx.out], by rw [hnx.out]⟩
          case measure => simp [intOf]; omega
        · rw [if_neg hNx] at hnx
          have g2 : decide ((N : Int) < (xn : Int)) = false := decide_eq_false (by omega)
          replace hnx := Lib.hid hnx
          go_wp2_with fail
          refine hwc.mono ?_
          clear hwc
          rintro e w2 ⟨r, o2, rfl, s2, v2, rfl, h2⟩
          have hm2 := Lib.hid (OwnB.stp hm.out s2 (by simp))
          have st2 := Lib.hid (st.out.trans s2)
          replace h2 := Lib.hid h2
          clear s2
          go_wp2
          go_roundw
          case rel => exact ⟨i + 1, o2, by go_num, by omega, st2.out, by rw [hnx.out]; exact hm2.out, by rw [hnx.out], by rw [hnx.out]⟩
          case measure => simp [intOf]; omega
    · have hi2 : i = 2 := by omega
      have g1 : decide ((i : Int) < 2) = false := decide_eq_false (by omega)
      have hf : OwnB wr (paint o w.heap.size e0) e0 (.slice A B.length capA) B := Own.fresh hm st hdf e0
      have s4 := Lib.hid (st.repaint e0)
      have hld : loadedS s = (B, N, T) := by rw [loadedS, ← hi2, ← hN, ← hT, ← hB]
      replace hf := Lib.hid hf
      replace hm := Lib.hid hm
      replace st := Lib.hid st
      replace hld := Lib.hid hld
      replace hi2 := Lib.hid hi2
      replace hN := Lib.hid hN
      replace hT := Lib.hid hT
      replace hB := Lib.hid hB
      go_wp2
      refine bodyPost_ret (results_tmp3 rfl _ _ _) rfl ?_
      exact Post.mk s4.out ⟨_, by rw [hld.out]; rfl, by rw [hld.out]; exact hf.out⟩
theorem isFlash_calls (c p g cap : Nat) (s : FS) (w : World) (o : Col) (h : Fl w o c p g cap s) :
    Calls Try.prog 47 #[.pointer (some ⟨p, 0, none⟩)] w fun e w' => e = .returned (.bool (decide (80 ≤ s.pg.length))) ∧ w = w' := by
  have hl := len_calls c p g cap s w o h
  have hd : decide ((80 : Int) ≤ (s.pg.length : Int)) = decide (80 ≤ s.pg.length) := by congr 1; simp; omega
  obtain ⟨b, hb⟩ : ∃ b, decide (80 ≤ s.pg.length) = b := ⟨_, rfl⟩
  rw [hb] at hd ⊢
  replace hb := Lib.hid hb
  go_enter Try.func47, Try.ntmps47
  go_wp2_with fail
  refine hl.mono ?_
  clear hl
  rintro e w' ⟨rfl, rfl⟩
  go_wp2
  go_ret
  exact ⟨rfl, rfl⟩
end Go.Proofs.Ytpjnmijfmfgdpaa
