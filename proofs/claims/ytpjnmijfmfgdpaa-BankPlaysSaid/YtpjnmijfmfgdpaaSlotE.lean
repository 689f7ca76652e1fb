/- Slots (chapter 12): Save: the walk. -/
import Derived.Test.YtpjnmijfmfgdpaaSlotD
namespace Go.Proofs.Ytpjnmijfmfgdpaa
set_option linter.unusedVariables false
set_option linter.unusedSimpArgs false
open Go.RowKit

set_option maxHeartbeats 4000000 in
set_option maxRecDepth 100000 in
theorem save_any (c c2 p g cap : Nat) (s : FS) (v : Value) (b : List UInt8) (w : World) (o : Col) (h : Fl w o c p g cap s) (hb : RdB w o c2 v b) (h2 : c2 ≠ c) :
    Calls Try.prog 16 #[.pointer (some ⟨p, 0, none⟩), v] w (Post [c] w o fun r w' o' => r = .int .i64 (saveS s b).2 ∧ Fl w' o' c p g cap (saveS s b).1) := by
  obtain ⟨A, capA, rfl, hlc, hA⟩ := hb.shape
  obtain ⟨d, hd1, _, hdf⟩ := fresh o w.heap.size [c, c2]
  simp only [List.mem_cons, List.not_mem_nil, or_false, not_or] at hd1
  have hf := isFlash_calls c p g cap s w o h
  have hld := loaded_calls c d p g cap s w o h
  have hbd := loadGo_bound s 2
  obtain ⟨L, hL⟩ : ∃ L, saveS s b = L := ⟨_, rfl⟩
  rw [hL]
  by_cases h80 : 80 ≤ s.pg.length
  · rw [decide_eq_true h80] at hf
    obtain ⟨x, hB⟩ : ∃ x, loadedS s = x := ⟨_, rfl⟩
    obtain ⟨B, N, T⟩ := x
    have hb2 : loadGo s 2 = (B, N, T) := hB
    rw [hB] at hld
    rw [hb2] at hbd
    dsimp only at hld hbd
    have hv : L = if s.dead = true then (s, 11) else if 2500 < b.length then (s, 10) else if 1073741824 ≤ N then (s, 12) else layS s (slotAt T) (packS ((N : Int) + 1) b) := by rw [← hL, saveS, if_neg (by omega), hB]
    replace hL := Lib.hid hL
    replace hB := Lib.hid hB
    replace hb2 := Lib.hid hb2
    have fin : ∀ w' o' (x : Int), Stp [] w o w' o' → L = (s, x) → Post [c] w o (fun r w' o' => r = .int .i64 L.2 ∧ Fl w' o' c p g cap L.1) (.returned (.int .i64 x)) w' := by
      intro w' o' x st e
      rw [e]
      exact Post.mk st.none ⟨rfl, h.stp st (by simp)⟩
    replace fin := Lib.hid fin
    replace h := Lib.hid h
    replace hb := Lib.hid hb
    cases hdd : s.dead with
    | true =>
      have hv2 : L = (s, 11) := by rw [hv, if_pos hdd]
      replace hv := Lib.hid hv
      go_enter Try.func16, Try.ntmps16
      go_wp2_with fail
      refine hf.mono ?_
      clear hf
      rintro e w1 ⟨rfl, rfl⟩
      go_wp2_with fail
      refine hld.mono ?_
      clear hld
      rintro e w2 ⟨r, o2, rfl, s2, v2, rfl, h2'⟩
      have f2 := h.out.stp s2 (by simp)
      have hdc := dead_calls c p g cap s w2 o2 f2
      rw [hdd] at hdc
      replace f2 := Lib.hid f2
      replace s2 := Lib.hid s2
      replace h2' := Lib.hid h2'
      go_wp2_with fail
      refine hdc.mono ?_
      clear hdc
      rintro e w3 ⟨rfl, rfl⟩
      go_wp2
      go_ret
      exact fin.out _ _ _ s2.out hv2
    | false =>
      have hv3 : L = if 2500 < b.length then (s, 10) else if 1073741824 ≤ N then (s, 12) else layS s (slotAt T) (packS ((N : Int) + 1) b) := by rw [hv, if_neg (by rw [hdd]; simp)]
      replace hv := Lib.hid hv
      have hcs : (2500 < b.length) ∨ (¬ 2500 < b.length ∧ (1073741824 ≤ N ∨ ¬ 1073741824 ≤ N)) := by omega
      rcases hcs with q1 | ⟨q1, q2 | q2⟩
      · have hv2 : L = (s, 10) := by rw [hv3, if_pos q1]
        have g1 : decide ((2500 : Int) < (b.length : Int)) = true := decide_eq_true (by omega)
        replace hv3 := Lib.hid hv3
        go_enter Try.func16, Try.ntmps16
        go_wp2_with fail
        refine hf.mono ?_
        clear hf
        rintro e w1 ⟨rfl, rfl⟩
        go_wp2_with fail
        refine hld.mono ?_
        clear hld
        rintro e w2 ⟨r, o2, rfl, s2, v2, rfl, h2'⟩
        have f2 := h.out.stp s2 (by simp)
        have hdc := dead_calls c p g cap s w2 o2 f2
        rw [hdd] at hdc
        replace f2 := Lib.hid f2
        replace s2 := Lib.hid s2
        replace h2' := Lib.hid h2'
        go_wp2_with fail
        refine hdc.mono ?_
        clear hdc
        rintro e w3 ⟨rfl, rfl⟩
        go_wp2
        go_ret
        exact fin.out _ _ _ s2.out hv2
      · have hv2 : L = (s, 12) := by rw [hv3, if_neg q1, if_pos q2]
        have g1 : decide ((2500 : Int) < (b.length : Int)) = false := decide_eq_false (by omega)
        have g2 : decide ((1073741824 : Int) ≤ (N : Int)) = true := decide_eq_true (by omega)
        replace hv3 := Lib.hid hv3
        go_enter Try.func16, Try.ntmps16
        go_wp2_with fail
        refine hf.mono ?_
        clear hf
        rintro e w1 ⟨rfl, rfl⟩
        go_wp2_with fail
        refine hld.mono ?_
        clear hld
        rintro e w2 ⟨r, o2, rfl, s2, v2, rfl, h2'⟩
        have f2 := h.out.stp s2 (by simp)
        have hdc := dead_calls c p g cap s w2 o2 f2
        rw [hdd] at hdc
        replace f2 := Lib.hid f2
        replace s2 := Lib.hid s2
        replace h2' := Lib.hid h2'
        go_wp2_with fail
        refine hdc.mono ?_
        clear hdc
        rintro e w3 ⟨rfl, rfl⟩
        go_wp2
        go_ret
        exact fin.out _ _ _ s2.out hv2
      · have hv2 : L = layS s (slotAt T) (packS ((N : Int) + 1) b) := by rw [hv3, if_neg q1, if_neg q2]
        have g1 : decide ((2500 : Int) < (b.length : Int)) = false := decide_eq_false (by omega)
        have g2 : decide ((1073741824 : Int) ≤ (N : Int)) = false := decide_eq_false (by omega)
        replace hv3 := Lib.hid hv3
        obtain ⟨K, hK⟩ : ∃ K, slotAt T = K := ⟨_, rfl⟩
        have hKI : (T + 1) % 2 * 40 = (K : Int) := by rw [← hK]; unfold slotAt; split <;> omega
        have hKb : K ≤ 40 := by rw [← hK]; unfold slotAt; split <;> omega
        obtain ⟨rr, hrr⟩ : ∃ rr, (T + 1) % 2 = rr := ⟨_, rfl⟩
        have hrb : 0 ≤ rr ∧ rr < 2 := by omega
        rw [hrr] at hKI
        have hTb : -1 ≤ T ∧ T < 2 := by omega
        have hNb : (0 : Int) ≤ (N : Int) ∧ (N : Int) < 1073741824 := by omega
        have hpl := packS_len ((N : Int) + 1) b
        rw [hK] at hv2
        go_enter Try.func16, Try.ntmps16
        go_wp2_with fail
        refine hf.mono ?_
        clear hf
        rintro e w1 ⟨rfl, rfl⟩
        go_wp2_with fail
        refine hld.mono ?_
        clear hld
        rintro e w2 ⟨r, o2, rfl, s2, v2, rfl, h2'⟩
        have f2 := h.out.stp s2 (by simp)
        have hdc := dead_calls c p g cap s w2 o2 f2
        rw [hdd] at hdc
        have b2 := Lib.hid (hb.out.stp s2 (by simp))
        replace f2 := Lib.hid f2
        replace s2 := Lib.hid s2
        replace h2' := Lib.hid h2'
        go_wp2_with fail
        refine hdc.mono ?_
        clear hdc
        rintro e w3 ⟨rfl, rfl⟩
        go_wp2_with fail
        refine (pack_calls c2 d ((N : Int) + 1) _ b _ _ b2.out (by omega)).mono ?_
        rintro e w4 ⟨r, o4, rfl, s4, h4⟩
        obtain ⟨A4, cap4, rfl⟩ := Own.shape h4
        have f4 := Lib.hid (f2.out.stp s4 (by simp))
        have st4 := Lib.hid (s2.out.trans s4)
        obtain ⟨PK, hPK⟩ : ∃ PK, packS ((N : Int) + 1) b = PK := ⟨_, rfl⟩
        rw [hPK] at hpl hv2 h4 ⊢
        obtain ⟨PL, hPL⟩ : ∃ PL, PK.length = PL := ⟨_, rfl⟩
        rw [hPL] at hpl h4 ⊢
        replace hPL := Lib.hid hPL
        replace hPK := Lib.hid hPK
        replace h4 := Lib.hid h4
        clear s4
        go_wp2_with fail
        refine (lay_calls c d p g cap s K _ PK _ _ f4.out (by omega) (OwnB.rd h4.out) (by omega) (by rw [hPL.out]; omega)).mono ?_
        rintro e w5 ⟨r, o5, rfl, s5, rfl, f5⟩
        have st5 := Lib.hid (st4.out.none.trans s5)
        rw [← hv2] at f5 ⊢
        replace f5 := Lib.hid f5
        replace hv2 := Lib.hid hv2
        clear s5
        go_wp2
        go_ret
        exact Post.mk st5.out ⟨rfl, f5.out⟩
  · rw [decide_eq_false h80] at hf
    have hv : L = (s, 1) := by rw [← hL, saveS, if_pos (by omega)]
    rw [hv]
    replace hL := Lib.hid hL
    clear hld
    replace h := Lib.hid h
    go_enter Try.func16, Try.ntmps16
    go_wp2_with fail
    refine hf.mono ?_
    clear hf
    rintro e w1 ⟨rfl, rfl⟩
    go_wp2
    go_ret
    exact Post.mk (Stp.refl _ _ _) ⟨rfl, h.out⟩
theorem save_calls (c c2 p g cap : Nat) (s : FS) (v : Value) (b : List UInt8) (w : World) (o : Col) (h : Fl w o c p g cap s) (hb : RdB w o c2 v b) (h2 : c2 ≠ c) (_hl : b.length ≤ 900000) :
    Calls Try.prog 16 #[.pointer (some ⟨p, 0, none⟩), v] w (Post [c] w o fun r w' o' => r = .int .i64 (saveS s b).2 ∧ Fl w' o' c p g cap (saveS s b).1) := save_any c c2 p g cap s v b w o h hb h2
end Go.Proofs.Ytpjnmijfmfgdpaa
