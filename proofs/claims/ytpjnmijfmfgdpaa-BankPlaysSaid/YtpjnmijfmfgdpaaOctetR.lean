/- Package octet: the walks of the Reader. -/
import Derived.Test.YtpjnmijfmfgdpaaOctet
namespace Go.Proofs.Ytpjnmijfmfgdpaa
set_option linter.unusedVariables false
set_option linter.unusedSimpArgs false
open Go.RowKit

theorem len_beq (l : List UInt8) : ((l.length : Int) == 0) = l.isEmpty := by cases l <;> simp <;> omega
/-- A Reader at block p (colour c), over bytes of colour d. -/
structure Rr (w : World) (o : Col) (c d p : Nat) (v : Value) (l : List UInt8) (bad : Bool) : Prop where
  blk : w.heap[p]? = some (.cells #[v, .bool bad] 143 (0, 0))
  col : o p = c
  ne : d ≠ c
  rd : RdB w o d v l
theorem Rr.stp {C : List Nat} {w w1 : World} {o o1 : Col} {c d p : Nat} {v : Value} {l : List UInt8} {bad : Bool} (h : Rr w o c d p v l bad) (hs : Stp C w o w1 o1) (hn : c ∉ C) (hd : d ∉ C) : Rr w1 o1 c d p v l bad :=
  ⟨hs.blk h.blk (by rw [h.col]; exact hn), (hs.colb h.blk).trans h.col, h.ne, h.rd.stp hs hd⟩
theorem Rr.c0 {w : World} {o : Col} {c d p : Nat} {v : Value} {l : List UInt8} {bad : Bool} (h : Rr w o c d p v l bad) : w.cell? ⟨p, 0, none⟩ = some v := blk_cell h.blk 0
theorem Rr.c1 {w : World} {o : Col} {c d p : Nat} {v : Value} {l : List UInt8} {bad : Bool} (h : Rr w o c d p v l bad) : w.cell? ⟨p, 1, none⟩ = some (.bool bad) := blk_cell h.blk 1
theorem Rr.free {w : World} {o : Col} {c d p : Nat} {v : Value} {l : List UInt8} {bad : Bool} (h : Rr w o c d p v l bad) (j : Nat) : w.frozen? ⟨p, j, none⟩ = false := blk_free h.blk j
/-- The rest is written. -/
theorem Rr.put {w : World} {o : Col} {c d p : Nat} {v v1 : Value} {l l1 : List UInt8} {bad : Bool} (h : Rr w o c d p v l bad) (h1 : RdB w o d v1 l1) : Rr (w.setCell ⟨p, 0, none⟩ v1) o c d p v1 l1 bad ∧ Stp [c] w o (w.setCell ⟨p, 0, none⟩ v1) o := by
  have hs : Stp [c] w o (w.setCell ⟨p, 0, none⟩ v1) o := (Stp.refl [c] w o).setCell (fun _ => by simp [h.col]) _
  refine ⟨⟨?_, h.col, h.ne, h1.stp hs (by simpa using h.ne)⟩, hs⟩
  have := blk_set (j := 0) h.blk v1
  simpa using this
theorem Rr.err {w : World} {o : Col} {c d p : Nat} {v : Value} {l : List UInt8} {bad : Bool} (h : Rr w o c d p v l bad) :
    Rr ((w.setCell ⟨p, 0, none⟩ (.slice none 0 0)).setCell ⟨p, 1, none⟩ (.bool true)) o c d p (.slice none 0 0) [] true ∧ Stp [c] w o ((w.setCell ⟨p, 0, none⟩ (.slice none 0 0)).setCell ⟨p, 1, none⟩ (.bool true)) o := by
  obtain ⟨h1, h2⟩ := h.put (RdB.nil w o d)
  refine ⟨⟨?_, h.col, h.ne, RdB.nil _ _ _⟩, h2.setCell (fun _ => by simp [h.col]) _⟩
  have := blk_set (j := 1) h1.blk (.bool true)
  simpa using this

set_option maxHeartbeats 400000 in
theorem rbad_calls (c d p : Nat) (v : Value) (l : List UInt8) (bad : Bool) (w : World) (o : Col) (h : Rr w o c d p v l bad) :
    Calls Try.prog 102 #[.pointer (some ⟨p, 0, none⟩)] w (Post [c] w o fun r w' o' => r = .tuple #[] ∧ Rr w' o' c d p (.slice none 0 0) [] true) := by
  have hc := h.c0
  have hc1 := h.c1
  have hf := h.free 0
  have hf1 := h.free 1
  go_enter Try.func102, Try.ntmps102
  go_wp2
  go_end0
  exact Post.mk h.err.2 ⟨rfl, h.err.1⟩
set_option maxHeartbeats 400000 in
theorem rgood_calls (c d p : Nat) (v : Value) (l : List UInt8) (bad : Bool) (w : World) (o : Col) (h : Rr w o c d p v l bad) :
    Calls Try.prog 94 #[.pointer (some ⟨p, 0, none⟩)] w fun e w' => e = .returned (.bool (!bad)) ∧ w = w' := by
  have hc := h.c1
  go_enter Try.func94, Try.ntmps94
  go_wp2
  go_ret
  exact ⟨rfl, rfl⟩
set_option maxHeartbeats 400000 in
theorem rwhole_calls (c d p : Nat) (v : Value) (l : List UInt8) (bad : Bool) (w : World) (o : Col) (h : Rr w o c d p v l bad) :
    Calls Try.prog 85 #[.pointer (some ⟨p, 0, none⟩)] w fun e w' => e = .returned (.bool (!bad && l.isEmpty)) ∧ w = w' := by
  have hc := h.c0
  obtain ⟨A, cap, rfl, _, _⟩ := h.rd.shape
  go_enter Try.func85, Try.ntmps85
  go_wp2_with fail
  refine (rgood_calls c d p _ l bad w o h).mono ?_
  rintro e w1 ⟨rfl, rfl⟩
  cases bad
  · go_wp2
    go_ret
    exact ⟨by rw [len_beq]; simp, rfl⟩
  · go_wp2
    go_ret
    exact ⟨by simp, rfl⟩

set_option maxHeartbeats 400000 in
theorem newreader_calls (c0 c d : Nat) (hne : d ≠ c) (v : Value) (l : List UInt8) (w : World) (o : Col) (h : RdB w o c0 v l) (hb : l.length ≤ 140737488355328) :
    Calls Try.prog 81 #[v] w (Post [] w o fun r w' o' => ∃ p v', r = .pointer (some ⟨p, 0, none⟩) ∧ Rr w' o' c d p v' l false) := by
  go_enter Try.func81, Try.ntmps81
  go_wp2_with fail
  refine (clone_calls c0 d v l w o h hb).mono ?_
  rintro e w1 ⟨r, o1, rfl, s1, h1⟩
  obtain ⟨A, cap, rfl⟩ := Own.shape h1
  go_wp2
  go_ret
  have s2 := (Stp.refl [] w1 o1).alloc (.cells #[.slice A l.length cap, .bool false] 143) c
  exact Post.mk (s1.trans s2) ⟨_, _, rfl, ⟨heap_alloc_new _ _, paint_at _ _ _, hne, (OwnB.rd h1).stp s2 (by simp)⟩⟩

set_option maxHeartbeats 1000000 in
theorem rraw_calls (c d e0 p : Nat) (v : Value) (l : List UInt8) (bad : Bool) (n : Int) (w : World) (o : Col) (h : Rr w o c d p v l bad) (hb : l.length ≤ 140737488355328) :
    Calls Try.prog 83 #[.pointer (some ⟨p, 0, none⟩), .int .i64 n] w (Post [c] w o fun r w' o' => OwnB w' o' e0 r (nRaw n l bad).1 ∧ ∃ v', Rr w' o' c d p v' (nRaw n l bad).2.1 (nRaw n l bad).2.2) := by
  have hc := h.c0
  obtain ⟨A, cap, rfl, hlc, hA⟩ := h.rd.shape
  by_cases hn : n < 0 ∨ (l.length : Int) < n
  · have e1 : nRaw n l bad = ([], [], true) := if_pos hn
    rw [e1]
    have done : ∀ w1 o1, Stp [c] w o w1 o1 → Rr w1 o1 c d p (.slice none 0 0) [] true → Post [c] w o (fun r w' o' => OwnB w' o' e0 r [] ∧ ∃ v', Rr w' o' c d p v' [] true) (.returned (.slice none 0 0)) w1 := fun w1 o1 hs h1 => Post.mk hs ⟨OwnB.nil _ _ _, _, h1⟩
    by_cases h0 : n < 0
    · go_enter Try.func83, Try.ntmps83
      go_wp2_with fail
      refine (rbad_calls c d p _ l bad w o h).mono ?_
      rintro e w1 ⟨r, o1, rfl, s1, rfl, h1⟩
      clear hc
      go_wp2
      go_ret
      exact done w1 o1 s1 h1
    · have h2 : (l.length : Int) < n := by omega
      go_enter Try.func83, Try.ntmps83
      go_wp2_with fail
      refine (rbad_calls c d p _ l bad w o h).mono ?_
      rintro e w1 ⟨r, o1, rfl, s1, rfl, h1⟩
      clear hc
      go_wp2
      go_ret
      exact done w1 o1 s1 h1
  · have e1 : nRaw n l bad = (l.take n.toNat, l.drop n.toNat, bad) := if_neg hn
    rw [e1]
    obtain ⟨m, rfl⟩ := Int.eq_ofNat_of_zero_le (show 0 ≤ n by omega)
    have hm : m ≤ l.length := by omega
    rw [Int.toNat_natCast] at e1 ⊢
    clear e1 hn
    go_enter Try.func83, Try.ntmps83
    go_wp2_with (refine holdAt 28 ?_)
    apply Hold.mk
    refine slcBH (c := d) _ _ rfl rfl h.rd m rfl rfl hm fun A1 r1 => ?_
    go_wp2_with fail
    refine (clone_calls d e0 _ (l.take m) w o r1 (by rw [List.length_take]; omega)).mono ?_
    rintro e w1 ⟨r, o1, rfl, s1, h1⟩
    have h2 := h.stp s1 (by simp) (by simp)
    have hc2 := h2.c0
    have hf2 := h2.free 0
    clear hc
    go_wp2_with (refine holdAt 36 ?_)
    apply Hold.mk
    refine slcBL (c := d) _ _ rfl rfl h2.rd m rfl rfl hm fun A2 r2 => ?_
    obtain ⟨h3, s3⟩ := h2.put r2
    go_wp2
    go_ret
    exact Post.mk (s1.none.trans s3) ⟨Own.set h1 (Own.ne h1 h2.blk (by decide)) _, _, h3⟩
end Go.Proofs.Ytpjnmijfmfgdpaa
