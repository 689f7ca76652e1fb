/- The document's Join (ref15): what it holds, in memory; at, Open, drop. -/
import Derived.Test.YtcbecidcfbhkfaaSegL
namespace Go.Proofs.Ytcbecidcfbhkfaa
set_option linter.unusedVariables false
set_option linter.unusedSimpArgs false
open Go.RowKit

/-- A message that is open: its ID, its bytes' slice, what it holds. -/
structure XE where
  id : Int
  v : Value
  e : OE
def XE.cells (x : XE) : List Value := [.int .i64 x.id, .int .i64 x.e.all, .int .i64 x.e.n, .int .i64 x.e.last, x.v]
def cellsX (L : List XE) : List Value := L.flatMap XE.cells
theorem cellsX_len (L : List XE) : (cellsX L).length = L.length * 5 := by
  induction L with
  | nil => rfl
  | cons x L ih =>
    rw [cellsX, List.flatMap_cons, ← cellsX, List.length_append, ih, List.length_cons]
    simp [XE.cells]
    omega
theorem cellsX_app (L M : List XE) : cellsX (L ++ M) = cellsX L ++ cellsX M := by simp [cellsX]
theorem cellsX_cons (x : XE) (M : List XE) : cellsX (x :: M) = x.cells ++ cellsX M := by simp [cellsX]
theorem cellsX_at (L1 : List XE) (x : XE) (L2 : List XE) (j : Nat) (hj : j < 5) : (cellsX (L1 ++ x :: L2))[L1.length * 5 + j]? = x.cells[j]? := by
  rw [cellsX_app, cellsX_cons, List.getElem?_append_right (by rw [cellsX_len]; omega), cellsX_len, show L1.length * 5 + j - L1.length * 5 = j by omega, List.getElem?_append_left (by simp [XE.cells]; omega)]

/-- The document's Join at block q: colour 11; its list of colour 12, the bytes of colour 13. -/
structure Xj (w : World) (o : Col) (q : Nat) (vL : Value) (L : List XE) (err : Nat) : Prop where
  blk : w.heap[q]? = some (.cells #[vL, .int .i64 err] 44 (0, 0))
  col : o q = 11
  own : Own w o 12 69 5 vL L.length (cellsX L)
  row : ∀ x ∈ L, RdB w o 13 x.v x.e.m
theorem Xj.stp {C : List Nat} {w w1 : World} {o o1 : Col} {q err : Nat} {vL : Value} {L : List XE} (h : Xj w o q vL L err) (hs : Stp C w o w1 o1) (h1 : 11 ∉ C) (h2 : 12 ∉ C) (h3 : 13 ∉ C) : Xj w1 o1 q vL L err :=
  ⟨hs.blk h.blk (by rw [h.col]; exact h1), (hs.colb h.blk).trans h.col, h.own.stp hs h2, fun x hx => (h.row x hx).stp hs h3⟩
theorem Xj.c0 {w : World} {o : Col} {q err : Nat} {vL : Value} {L : List XE} (h : Xj w o q vL L err) : w.cell? ⟨q, 0, none⟩ = some vL := blk_cell h.blk 0
theorem Xj.c1 {w : World} {o : Col} {q err : Nat} {vL : Value} {L : List XE} (h : Xj w o q vL L err) : w.cell? ⟨q, 1, none⟩ = some (.int .i64 err) := blk_cell h.blk 1
theorem Xj.free {w : World} {o : Col} {q err : Nat} {vL : Value} {L : List XE} (h : Xj w o q vL L err) (j : Nat) : w.frozen? ⟨q, j, none⟩ = false := blk_free h.blk j
theorem Xj.bad {w : World} {o : Col} {q err : Nat} {vL : Value} {L : List XE} (h : Xj w o q vL L err) : Xj (w.setCell ⟨q, 1, none⟩ (.int .i64 ((err : Int) + 1))) o q vL L (err + 1) ∧ Stp [11] w o (w.setCell ⟨q, 1, none⟩ (.int .i64 ((err : Int) + 1))) o := by
  have hs : Stp [11] w o (w.setCell ⟨q, 1, none⟩ (.int .i64 ((err : Int) + 1))) o := (Stp.refl [11] w o).setCell (fun _ => by simp [h.col]) _
  refine ⟨⟨?_, h.col, h.own.stp hs (by simp), fun x hx => (h.row x hx).stp hs (by simp)⟩, hs⟩
  have := blk_set (j := 1) h.blk (.int .i64 ((err : Int) + 1))
  simpa using this
/-- Another list is laid. -/
theorem Xj.lay {w w1 : World} {o o1 : Col} {q err : Nat} {vL v1 : Value} {L L1 : List XE} (h : Xj w o q vL L err) {C : List Nat} (hs : Stp C w o w1 o1) (hC : 11 ∉ C) (ho : Own w1 o1 12 69 5 v1 L1.length (cellsX L1)) (hr : ∀ x ∈ L1, RdB w1 o1 13 x.v x.e.m) :
    Xj (w1.setCell ⟨q, 0, none⟩ v1) o1 q v1 L1 err ∧ Stp (11 :: C) w o (w1.setCell ⟨q, 0, none⟩ v1) o1 ∧ w1.cell? ⟨q, 0, none⟩ = some vL ∧ w1.frozen? ⟨q, 0, none⟩ = false := by
  have hb := hs.blk h.blk (by rw [h.col]; exact hC)
  have hq : o1 q = 11 := (hs.colb h.blk).trans h.col
  have hs2 : Stp [11] w1 o1 (w1.setCell ⟨q, 0, none⟩ v1) o1 := (Stp.refl [11] w1 o1).setCell (fun _ => by simp [hq]) _
  refine ⟨⟨?_, hq, ho.stp hs2 (by simp), fun x hx => (hr x hx).stp hs2 (by simp)⟩, (hs.mono (by simp; intro c hc; exact .inr hc)).trans (hs2.mono (by simp)), blk_cell hb 0, blk_free hb 0⟩
  have := blk_set (j := 0) hb v1
  simpa using this
/-- Its list lies at the head of a block. -/
theorem Xj.at_ {w : World} {o : Col} {q err : Nat} {vL : Value} {L : List XE} (h : Xj w o q vL L err) (hn : 0 < L.length) :
    ∃ g cap, vL = .slice (some ⟨g, 0, none⟩) L.length cap ∧ L.length ≤ cap ∧ cap ≤ maxLen ∧ o g = 12 ∧ ∀ (j : Nat) (u : Value), (cellsX L)[j]? = some u → w.cell? ⟨g, j, none⟩ = some u := by
  rcases h.own.own.2 with ⟨_, h0⟩ | ⟨g, cap, cur, hv, _, hg, hnc, hcm, hcs, ht⟩
  · omega
  · refine ⟨g, cap, hv, hnc, hcm, h.own.col g (by rw [hv]; rfl), fun j u hu => ?_⟩
    have := h.own.own.cells (g := g) (by rw [hv]; rfl) j u hu
    rwa [Addr.add_lit, Nat.zero_add] at this

theorem Xj.free_at {w : World} {o : Col} {q err n g cap : Nat} {L : List XE} (h : Xj w o q (.slice (some ⟨g, 0, none⟩) n cap) L err) (j : Nat) : w.frozen? ⟨g, j, none⟩ = false := by
  rcases h.own.own.2 with ⟨hv, _⟩ | ⟨g', cap', cur, hv, _, hg, _⟩
  · cases hv
  · injection hv with hv _ _
    injection hv with hv
    injection hv with hv _ _
    subst hv
    exact blk_free hg j

/-! ### Plain: the document's list is what the Join holds -/
def XRel (s : JS) (L : List XE) : Prop := (∀ id e, s.f id = some e ↔ ∃ x ∈ L, x.id = id ∧ x.e = e) ∧ s.cnt = L.length ∧ L.Pairwise (fun x y => x.id ≠ y.id)
theorem XRel.nil : XRel ⟨fun _ => none, 0, 0⟩ [] := ⟨fun id e => by simp, rfl, List.Pairwise.nil⟩
theorem XRel.absent {s : JS} {L : List XE} (h : XRel s L) {id : Int} (hf : s.f id = none) : ∀ x ∈ L, x.id ≠ id := by
  intro x hx e
  have := (h.1 id x.e).2 ⟨x, hx, e, rfl⟩
  rw [hf] at this
  cases this
theorem XRel.there {s : JS} {L : List XE} (h : XRel s L) {id : Int} {e : OE} (hf : s.f id = some e) : ∃ L1 x L2, L = L1 ++ x :: L2 ∧ x.id = id ∧ x.e = e ∧ (∀ y ∈ L1, y.id ≠ id) ∧ ∀ y ∈ L2, y.id ≠ id := by
  obtain ⟨x, hx, h1, h2⟩ := (h.1 id e).1 hf
  obtain ⟨L1, L2, rfl⟩ := List.append_of_mem hx
  have hp := h.2.2
  rw [List.pairwise_append, List.pairwise_cons] at hp
  obtain ⟨_, ⟨p1, _⟩, p2⟩ := hp
  refine ⟨L1, x, L2, rfl, h1, h2, fun y hy => ?_, fun y hy => ?_⟩
  · rw [← h1]; exact p2 y hy x (by simp)
  · rw [← h1]; exact fun e => p1 y hy e.symm
theorem XRel.del {s : JS} {L1 L2 : List XE} {x : XE} (h : XRel s (L1 ++ x :: L2)) : XRel (s.del x.id) (L1 ++ L2) := by
  obtain ⟨h1, h2, hp⟩ := h
  have hp' := hp
  rw [List.pairwise_append, List.pairwise_cons] at hp'
  obtain ⟨p0, ⟨p1, p3⟩, p2⟩ := hp'
  refine ⟨fun id e => ?_, ?_, ?_⟩
  · by_cases hid : id = x.id
    · subst hid
      have : (s.del x.id).f x.id = none := upd_same _ _ _
      rw [this]
      constructor
      · intro h; cases h
      · rintro ⟨y, hy, hy1, _⟩
        rcases List.mem_append.1 hy with hy | hy
        · exact absurd hy1 (p2 y hy x (by simp))
        · exact absurd hy1.symm (p1 y hy)
    · have : (s.del x.id).f id = s.f id := upd_other _ _ hid
      rw [this, h1 id e]
      constructor
      · rintro ⟨y, hy, hy1, hy2⟩
        refine ⟨y, ?_, hy1, hy2⟩
        simp only [List.mem_append, List.mem_cons] at hy ⊢
        rcases hy with hy | hy | hy
        · exact .inl hy
        · subst hy; exact absurd hy1.symm hid
        · exact .inr hy
      · rintro ⟨y, hy, hy1, hy2⟩
        refine ⟨y, ?_, hy1, hy2⟩
        simp only [List.mem_append, List.mem_cons] at hy ⊢
        rcases hy with hy | hy
        · exact .inl hy
        · exact .inr (.inr hy)
  · show s.cnt - 1 = _
    rw [h2, List.length_append, List.length_append, List.length_cons]
    omega
  · rw [List.pairwise_append]
    exact ⟨p0, p3, fun y hy z hz => p2 y hy z (List.mem_cons_of_mem _ hz)⟩
theorem XRel.set {s : JS} {L1 L2 : List XE} {x x' : XE} (h : XRel s (L1 ++ x :: L2)) (hid : x'.id = x.id) : XRel (s.set x.id x'.e) (L1 ++ x' :: L2) := by
  obtain ⟨h1, h2, hp⟩ := h
  have hp' := hp
  rw [List.pairwise_append, List.pairwise_cons] at hp'
  obtain ⟨p0, ⟨p1, p3⟩, p2⟩ := hp'
  refine ⟨fun id e => ?_, ?_, ?_⟩
  · by_cases hi : id = x.id
    · subst hi
      have : (s.set x.id x'.e).f x.id = some x'.e := upd_same _ _ _
      rw [this]
      constructor
      · intro h; injection h with h; exact ⟨x', by simp, hid, h⟩
      · rintro ⟨y, hy, hy1, hy2⟩
        simp only [List.mem_append, List.mem_cons] at hy
        rcases hy with hy | hy | hy
        · exact absurd hy1 (p2 y hy x (by simp))
        · subst hy; rw [hy2]
        · exact absurd hy1.symm (p1 y hy)
    · have : (s.set x.id x'.e).f id = s.f id := upd_other _ _ hi
      rw [this, h1 id e]
      constructor
      · rintro ⟨y, hy, hy1, hy2⟩
        refine ⟨y, ?_, hy1, hy2⟩
        simp only [List.mem_append, List.mem_cons] at hy ⊢
        rcases hy with hy | hy | hy
        · exact .inl hy
        · subst hy; exact absurd hy1.symm hi
        · exact .inr (.inr hy)
      · rintro ⟨y, hy, hy1, hy2⟩
        refine ⟨y, ?_, hy1, hy2⟩
        simp only [List.mem_append, List.mem_cons] at hy ⊢
        rcases hy with hy | hy | hy
        · exact .inl hy
        · subst hy; exact absurd (hy1.symm.trans hid) hi
        · exact .inr (.inr hy)
  · show s.cnt = _
    rw [h2, List.length_append, List.length_append, List.length_cons, List.length_cons]
  · rw [List.pairwise_append, List.pairwise_cons]
    refine ⟨p0, ⟨fun y hy => by rw [hid]; exact p1 y hy, p3⟩, fun y hy z hz => ?_⟩
    rcases List.mem_cons.1 hz with hz | hz
    · subst hz; rw [hid]; exact p2 y hy x (by simp)
    · exact p2 y hy z (List.mem_cons_of_mem _ hz)
theorem XRel.put {s : JS} {L : List XE} {x : XE} (h : XRel s L) (hf : s.f x.id = none) : XRel (s.put x.id x.e) (L ++ [x]) := by
  have hn := h.absent hf
  obtain ⟨h1, h2, hp⟩ := h
  refine ⟨fun id e => ?_, ?_, ?_⟩
  · by_cases hi : id = x.id
    · subst hi
      have : (s.put x.id x.e).f x.id = some x.e := upd_same _ _ _
      rw [this]
      constructor
      · intro h; injection h with h; exact ⟨x, by simp, rfl, h⟩
      · rintro ⟨y, hy, hy1, hy2⟩
        simp only [List.mem_append, List.mem_singleton] at hy
        rcases hy with hy | hy
        · exact absurd hy1 (hn y hy)
        · subst hy; rw [hy2]
    · have : (s.put x.id x.e).f id = s.f id := upd_other _ _ hi
      rw [this, h1 id e]
      constructor
      · rintro ⟨y, hy, hy1, hy2⟩
        exact ⟨y, List.mem_append_left _ hy, hy1, hy2⟩
      · rintro ⟨y, hy, hy1, hy2⟩
        simp only [List.mem_append, List.mem_singleton] at hy
        rcases hy with hy | hy
        · exact ⟨y, hy, hy1, hy2⟩
        · subst hy; exact absurd hy1.symm hi
  · show s.cnt + 1 = _
    rw [h2, List.length_append, List.length_singleton]
  · rw [List.pairwise_append]
    refine ⟨hp, List.pairwise_singleton _ _, fun y hy z hz => ?_⟩
    rw [List.mem_singleton] at hz
    subst hz
    exact hn y hy

/-! ### Walks -/
set_option maxHeartbeats 400000 in
theorem xopen_calls (q : Nat) (vL : Value) (L : List XE) (err : Nat) (w : World) (o : Col) (h : Xj w o q vL L err) :
    Calls Try.prog 20 #[.pointer (some ⟨q, 0, none⟩)] w fun e w' => e = .returned (.int .i64 (L.length : Int)) ∧ w = w' := by
  have hc := h.c0
  obtain ⟨A, cap, rfl⟩ := h.own.shape
  go_enter Try.func20, Try.ntmps20
  go_wp2
  go_ret
  exact ⟨rfl, rfl⟩

def XatR (w0 : World) (k : Nat) (x : Value) (wr : World) : Prop := ∃ i : Nat, x = .int .i64 i ∧ i ≤ k ∧ wr = w0
set_option maxHeartbeats 1000000 in
theorem xat_calls (q : Nat) (vL : Value) (L : List XE) (err : Nat) (id : Int) (k : Nat) (w : World) (o : Col) (h : Xj w o q vL L err) (hk : k ≤ L.length) (hb : L.length ≤ 1000000) (hne : ∀ (j : Nat) (x : XE), j < k → L[j]? = some x → x.id ≠ id) (hend : ∀ x, L[k]? = some x → x.id = id) :
    Calls Try.prog 25 #[.pointer (some ⟨q, 0, none⟩), .int .i64 id] w fun e w' => e = .returned (.int .i64 (if k < L.length then (k : Int) else -1)) ∧ w = w' := by
  have hc := h.c0
  have hat := fun hn => h.at_ hn
  obtain ⟨A, cap, rfl⟩ := h.own.shape
  replace h := Lib.hid h
  have Hat := Lib.hid hat
  clear hat
  have Hne := Lib.hid hne
  have Hend := Lib.hid hend
  clear hne hend
  have Hk := Lib.hid hk
  clear hk
  obtain ⟨R, hR⟩ : ∃ R : Int, (if k < L.length then (k : Int) else -1) = R := ⟨_, rfl⟩
  have Hif := Lib.hid (show ∀ i : Nat, i = k → R = if i < L.length then (i : Int) else -1 from fun i e => by rw [e, hR])
  rw [hR]
  clear hR
  go_enter Try.func25, Try.ntmps25
  go_wp2_with fail
  go_loopw [5] (XatR w k) (fun x _ => k + 1 - (intOf x).toNat)
  case atStart => exact ⟨0, rfl, Nat.zero_le _, rfl⟩
  case round =>
    obtain ⟨i, rfl, hik, rfl⟩ := hrel
    by_cases hlt : i < L.length
    · obtain ⟨g, cap', e, hnc, hcm, _, hcell⟩ := Hat.out (by omega)
      injection e with e1 _ e3
      subst e1
      subst e3
      obtain ⟨x, hx⟩ : ∃ x, L[i]? = some x := ⟨L[i], by simp [hlt]⟩
      obtain ⟨L1, L2, hL, hl1⟩ : ∃ L1 L2, L = L1 ++ x :: L2 ∧ L1.length = i := by
        have hd := List.drop_eq_getElem_cons hlt
        have hxx : L[i] = x := by simpa [List.getElem?_eq_getElem hlt] using hx
        refine ⟨L.take i, L.drop (i + 1), ?_, by rw [List.length_take]; omega⟩
        rw [← hxx, ← hd, List.take_append_drop]
      have hci := hcell (i * 5) (.int .i64 x.id) (by have := cellsX_at L1 x L2 0 (by omega); rw [hl1] at this; rw [hL]; exact this)
      have z1 : (0 : Int) ≤ (i : Int) ∧ (i : Int) < (L.length : Int) := by omega
      clear hcell
      replace hL := Lib.hid hL
      replace hx := Lib.hid hx
      by_cases hki : i = k
      · have hid : (x.id == id) = true := by simpa using Hend.out x (by rw [← hki]; exact hx.out)
        have Hki := Lib.hid hki
        have Hlt := Lib.hid hlt
        clear hki
        go_wp2
        go_ret
        exact ⟨by rw [Hif.out i Hki.out, if_pos Hlt.out]; rfl, rfl⟩
      · have hid : (x.id == id) = false := by simpa using Hne.out i x (by omega) hx.out
        go_wp2
        go_roundw
        case rel => exact ⟨i + 1, by go_num, by omega, rfl⟩
        case measure => simp [intOf]; omega
    · have hkl : i = k := by have := Hk.out; omega
      have Hki := Lib.hid hkl
      have Hlt := Lib.hid hlt
      clear hkl
      go_wp2
      go_ret
      exact ⟨by rw [Hif.out i Hki.out, if_neg Hlt.out]; rfl, rfl⟩
theorem xat_none (q : Nat) (vL : Value) (L : List XE) (err : Nat) (id : Int) (w : World) (o : Col) (h : Xj w o q vL L err) (hb : L.length ≤ 1000000) (hne : ∀ x ∈ L, x.id ≠ id) :
    Calls Try.prog 25 #[.pointer (some ⟨q, 0, none⟩), .int .i64 id] w fun e w' => e = .returned (.int .i64 (-1)) ∧ w = w' := by
  have := xat_calls q vL L err id L.length w o h (Nat.le_refl _) hb (fun j x _ hx => hne x (List.mem_of_getElem? hx)) (fun x hx => by simp at hx)
  rwa [if_neg (Nat.lt_irrefl _)] at this
theorem xat_some (q : Nat) (vL : Value) (L1 : List XE) (x : XE) (L2 : List XE) (err : Nat) (w : World) (o : Col) (h : Xj w o q vL (L1 ++ x :: L2) err) (hb : (L1 ++ x :: L2).length ≤ 1000000) (hne : ∀ y ∈ L1, y.id ≠ x.id) :
    Calls Try.prog 25 #[.pointer (some ⟨q, 0, none⟩), .int .i64 x.id] w fun e w' => e = .returned (.int .i64 (L1.length : Int)) ∧ w = w' := by
  have := xat_calls q vL _ err x.id L1.length w o h (by simp) hb (fun j y hj hy => hne y (by rw [List.getElem?_append_left hj] at hy; exact List.mem_of_getElem? hy)) (fun y hy => by rw [List.getElem?_append_right (Nat.le_refl _), Nat.sub_self] at hy; simp at hy; rw [hy])
  rwa [if_pos (by simp)] at this
end Go.Proofs.Ytcbecidcfbhkfaa
