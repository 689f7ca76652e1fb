/- Worlds, colours of blocks, rows of cells: what the walks of this seat share. -/
import Derived.Test.YtpjnmijfmfgdpaaRows
import Derived.Test.YtpjnmijfmfgdpaaNum
import Derived.WalkKit
import Derived.WalkSpells
import Derived.WalkLawsBesides
import Derived.Maps.AppendAt
import Derived.Lib.Hide
import Derived.Lib.SlBytesConst
import Derived.Laws.CopyOwn
import Derived.Lib.MakeNoZero
import Derived.Handy
import Derived.BigQuiet
import Derived.Deep.QuietTactic
namespace Go.Proofs.Ytpjnmijfmfgdpaa
set_option linter.unusedVariables false
set_option linter.unusedSimpArgs false
open Go.RowKit

/-- A colour for each block. -/
abbrev Col := Nat → Nat
/-- From block n on: colour c. -/
def paint (o : Col) (n c : Nat) : Col := fun k => if k < n then o k else c
theorem paint_lt {o : Col} {n c k : Nat} (h : k < n) : paint o n c k = o k := if_pos h
theorem paint_ge {o : Col} {n c k : Nat} (h : n ≤ k) : paint o n c k = c := if_neg (by omega)
theorem paint_at (o : Col) (n c : Nat) : paint o n c n = c := paint_ge (Nat.le_refl _)

/-- Old blocks keep their colour; those of a colour outside C keep what they hold. -/
structure Stp (C : List Nat) (w : World) (o : Col) (w' : World) (o' : Col) : Prop where
  os : w'.os = w.os
  tape : w'.tape = w.tape
  output : w'.output = w.output
  size : w.heap.size ≤ w'.heap.size
  col : ∀ k, k < w.heap.size → o' k = o k
  keep : ∀ k, k < w.heap.size → o k ∉ C → w'.heap[k]? = w.heap[k]?

theorem Stp.refl (C : List Nat) (w : World) (o : Col) : Stp C w o w o := ⟨rfl, rfl, rfl, Nat.le_refl _, fun _ _ => rfl, fun _ _ _ => rfl⟩
theorem Stp.trans {C : List Nat} {w w1 w2 : World} {o o1 o2 : Col} (h : Stp C w o w1 o1) (k : Stp C w1 o1 w2 o2) : Stp C w o w2 o2 where
  os := k.os.trans h.os
  tape := k.tape.trans h.tape
  output := k.output.trans h.output
  size := Nat.le_trans h.size k.size
  col := fun i hi => (k.col i (Nat.lt_of_lt_of_le hi h.size)).trans (h.col i hi)
  keep := fun i hi hn => (k.keep i (Nat.lt_of_lt_of_le hi h.size) (by rw [h.col i hi]; exact hn)).trans (h.keep i hi hn)
theorem Stp.mono {C D : List Nat} {w w1 : World} {o o1 : Col} (h : Stp C w o w1 o1) (hCD : ∀ c, c ∈ C → c ∈ D) : Stp D w o w1 o1 :=
  ⟨h.os, h.tape, h.output, h.size, h.col, fun k hk hn => h.keep k hk (fun hc => hn (hCD _ hc))⟩
theorem Stp.alloc {C : List Nat} {w w1 : World} {o o1 : Col} (h : Stp C w o w1 o1) (x : Obj) (c : Nat) : Stp C w o (w1.alloc x) (paint o1 w1.heap.size c) :=
  h.trans ⟨rfl, rfl, rfl, by simp, fun _ hk => paint_lt hk, fun _ hk _ => Below.heap_alloc _ _ _ hk⟩
theorem Stp.drew {C : List Nat} {w w1 : World} {o o1 : Col} (h : Stp C w o w1 o1) : Stp C w o w1.drew o1 := ⟨h.os, h.tape, h.output, h.size, h.col, h.keep⟩
theorem Stp.drewN {C : List Nat} {w w1 : World} {o o1 : Col} (h : Stp C w o w1 o1) (n : Nat) : Stp C w o (w1.drewN n) o1 := ⟨h.os, h.tape, h.output, h.size, h.col, h.keep⟩
theorem Stp.setCell {C : List Nat} {w w1 : World} {o o1 : Col} (h : Stp C w o w1 o1) {p : Addr} (hp : p.block < w1.heap.size → o1 p.block ∈ C) (u : Value) : Stp C w o (w1.setCell p u) o1 := by
  refine h.trans ⟨rfl, rfl, rfl, by simp [World.setCell], fun _ _ => rfl, fun k hk hn => ?_⟩
  by_cases e : k = p.block
  · subst e; exact absurd (hp hk) hn
  · exact Below.heap_setCell _ _ _ _ e
theorem Stp.grown {C : List Nat} {w w1 w2 : World} {o o1 : Col} (h : Stp C w o w1 o1) {row : Option Nat} (hg : w1.grownBy w2 row) (hr : ∀ k, row = some k → o1 k ∈ C) (c : Nat) : Stp C w o w2 (paint o1 w1.heap.size c) :=
  h.trans ⟨hg.os, hg.tape, hg.output, hg.size, fun _ hk => paint_lt hk, fun k hk hn => hg.block k hk (fun e => hn (hr k e.symm))⟩
theorem Stp.cell {C : List Nat} {w w1 : World} {o o1 : Col} (h : Stp C w o w1 o1) {a : Addr} {v : Value} (hc : w.cell? a = some v) (hn : o a.block ∉ C) : w1.cell? a = some v :=
  (World.cell?_of_block (h.keep a.block (World.block_lt_of_cell? w a hc) hn)).trans hc
theorem Stp.blk {C : List Nat} {w w1 : World} {o o1 : Col} (h : Stp C w o w1 o1) {k : Nat} {x : Obj} (hc : w.heap[k]? = some x) (hn : o k ∉ C) : w1.heap[k]? = some x :=
  (h.keep k (Array.getElem?_eq_some_iff.1 hc).1 hn).trans hc
theorem Stp.colc {C : List Nat} {w w1 : World} {o o1 : Col} (h : Stp C w o w1 o1) {a : Addr} {v : Value} (hc : w.cell? a = some v) : o1 a.block = o a.block := h.col _ (World.block_lt_of_cell? w a hc)
theorem Stp.colb {C : List Nat} {w w1 : World} {o o1 : Col} (h : Stp C w o w1 o1) {k : Nat} {x : Obj} (hc : w.heap[k]? = some x) : o1 k = o k := h.col _ (Array.getElem?_eq_some_iff.1 hc).1
/-- Colour 0 was all there was, and nothing of it was written. -/
theorem Stp.below {C : List Nat} {w w1 : World} {o1 : Col} (h : Stp C w (fun _ => 0) w1 o1) (hn : 0 ∉ C) : Below w.heap.size w w1 :=
  ⟨h.os, h.tape, h.output, h.size, fun k hk => h.keep k hk hn⟩

/-- Colour 0 was all there was. -/
theorem Stp.law {C : List Nat} {w w1 : World} {o1 : Col} (h : Stp C w (fun _ => 0) w1 o1) (hn : 0 ∉ C) : Stp [] w (fun _ => 0) w1 o1 := ⟨h.os, h.tape, h.output, h.size, h.col, fun k hk _ => h.keep k hk hn⟩
/-- What a call leaves: colours outside C as they were; R of what it returns. -/
def Post (C : List Nat) (w : World) (o : Col) (R : Value → World → Col → Prop) (e : Ending) (w' : World) : Prop := ∃ v o', e = .returned v ∧ Stp C w o w' o' ∧ R v w' o'
theorem Post.mk {C : List Nat} {w w' : World} {o o' : Col} {R : Value → World → Col → Prop} {v : Value} (hs : Stp C w o w' o') (hr : R v w' o') : Post C w o R (.returned v) w' := ⟨v, o', rfl, hs, hr⟩
theorem Stp.none {C : List Nat} {w w1 : World} {o o1 : Col} (h : Stp [] w o w1 o1) : Stp C w o w1 o1 := h.mono (fun _ hc => by cases hc)
/-- A colour that no old block has. -/
theorem fresh (o : Col) (n : Nat) (ds : List Nat) : ∃ d, d ∉ ds ∧ d ≠ 0 ∧ ∀ k, k < n → o k ≠ d := by
  have h1 : ∃ m, ∀ k, k < n → o k < m := by
    induction n with
    | zero => exact ⟨0, fun k hk => by omega⟩
    | succ n ih =>
      obtain ⟨m, hm⟩ := ih
      refine ⟨m + o n + 1, fun k hk => ?_⟩
      by_cases e : k = n
      · subst e; omega
      · have := hm k (by omega); omega
  have h2 : ∃ m, ∀ x, x ∈ ds → x < m := by
    clear h1
    induction ds with
    | nil => exact ⟨0, fun x hx => by cases hx⟩
    | cons d ds ih =>
      obtain ⟨m, hm⟩ := ih
      refine ⟨m + d + 1, fun x hx => ?_⟩
      cases hx with
      | head => omega
      | tail _ hx => have := hm x hx; omega
  obtain ⟨a, ha⟩ := h1
  obtain ⟨b, hb⟩ := h2
  exact ⟨a + b + 1, fun h => by have := hb _ h; omega, by omega, fun k hk e => by have := ha k hk; omega⟩
theorem Stp.drop {C : List Nat} {d : Nat} {w w1 : World} {o o1 : Col} (h : Stp (d :: C) w o w1 o1) (hd : ∀ k, k < w.heap.size → o k ≠ d) : Stp C w o w1 o1 :=
  ⟨h.os, h.tape, h.output, h.size, h.col, fun k hk hn => h.keep k hk (fun hm => by cases hm with | head => exact hd k hk rfl | tail _ hm => exact hn hm)⟩
/-- What was made anew may change its colour. -/
theorem Stp.repaint {C : List Nat} {w w1 : World} {o o1 : Col} (h : Stp C w o w1 o1) (c : Nat) : Stp C w o w1 (paint o w.heap.size c) := ⟨h.os, h.tape, h.output, h.size, fun _ hk => paint_lt hk, h.keep⟩

/-! ### A walk is held at the operation that writes a slot: 'go_wp2_with (refine holdAt 7 ?_)', then 'apply Hold.mk' -/
structure Tag (p : Prop) : Type where
structure Hold (p : Prop) (t : Tag p) : Prop where
  out : p
theorem holdAt (d : Nat) {P : Program} {ops : Array Oper} {Q : Exit → Act → World → Prop} {op : Op} {ty : TypeId} {pos : String} {after : Array Edge} {gd : Option (Nat × Bool)} {rest : List Oper} {a : Act} {w : World}
    (h : Hold (wpList P ops Q (⟨some d, op, ty, pos, after, gd⟩ :: rest) a w) ⟨⟩) : wpList P ops Q (⟨some d, op, ty, pos, after, gd⟩ :: rest) a w := h.out

/-! ### Rows -/
/-- A slice that reads as the values vals, sz cells an element, its block (if it has elements) of colour c. -/
structure Rd (w : World) (o : Col) (c sz : Nat) (v : Value) (n : Nat) (vals : List Value) : Prop where
  len : vals.length = n * sz
  big : n ≤ 9223372036854775807
  one : ∀ u ∈ vals, u.oneCell' = true
  is : ∃ A cap, v = .slice A n cap ∧ n ≤ cap ∧ (A = none → cap = 0) ∧ (0 < n → ∃ a, A = some a ∧ o a.block = c ∧ a.block < w.heap.size ∧ ∀ j u, vals[j]? = some u → w.cell? (a.add j) = some u)

theorem Rd.stp {C : List Nat} {w w1 : World} {o o1 : Col} {c sz n : Nat} {v : Value} {vals : List Value} (h : Rd w o c sz v n vals) (hs : Stp C w o w1 o1) (hn : c ∉ C) : Rd w1 o1 c sz v n vals := by
  obtain ⟨h1, h1b, h1o, A, cap, h2, h3, h4, h5⟩ := h
  refine ⟨h1, h1b, h1o, A, cap, h2, h3, h4, fun h0 => ?_⟩
  obtain ⟨a, e, ha, hlt, hc⟩ := h5 h0
  exact ⟨a, e, (hs.col _ hlt).trans ha, Nat.lt_of_lt_of_le hlt hs.size, fun j u hu => hs.cell (hc j u hu) (by rw [show (a.add j).block = a.block from by unfold Addr.add; split <;> rfl, ha]; exact hn)⟩
theorem Rd.nil (w : World) (o : Col) (c sz : Nat) : Rd w o c sz (.slice none 0 0) 0 [] := ⟨by simp, by omega, by simp, none, 0, rfl, Nat.le_refl _, fun _ => rfl, fun h => by omega⟩

/-- The element at a place, for a walk: elements of one cell. -/
theorem Rd.get {α : Type} {f : α → Value} {w : World} {o : Col} {c n cap : Nat} {A : Option Addr} {l : List α} (h : Rd w o c 1 (.slice A n cap) l.length (l.map f)) {j : Nat} (hj : j < l.length) : ∃ a, A = some a ∧ w.cell? (a.add j) = some (f l[j]) := by
  obtain ⟨_, _, _, A', cap', e, _, _, hc⟩ := h
  injection e with e1 e2 e3
  subst e1
  obtain ⟨a, rfl, _, _, hc⟩ := hc (by omega)
  exact ⟨a, rfl, hc j _ (by simp [hj])⟩

/-- .. with its colour. -/
theorem Rd.get' {α : Type} {f : α → Value} {w : World} {o : Col} {c n cap : Nat} {A : Option Addr} {l : List α} (h : Rd w o c 1 (.slice A n cap) l.length (l.map f)) {j : Nat} (hj : j < l.length) : ∃ a, A = some a ∧ o (a.add j).block = c ∧ w.cell? (a.add j) = some (f l[j]) := by
  obtain ⟨_, _, _, A', cap', e, _, _, hc⟩ := h
  injection e with e1 e2 e3
  subst e1
  obtain ⟨a, rfl, ho, _, hc⟩ := hc (by omega)
  exact ⟨a, rfl, by rw [show (a.add j).block = a.block from by unfold Addr.add; split <;> rfl]; exact ho, hc j _ (by simp [hj])⟩
/-- A new block, all of it read. -/
theorem Rd.new (w : World) (o : Col) (c : Nat) (cs : Array Value) (vals : List Value) (h : cs.toList = vals) (n : Nat) (hn : vals.length = n) (hb : n ≤ 9223372036854775807) (h1 : ∀ u ∈ vals, u.oneCell' = true) (e : Nat) (k : Nat) (hk : w.heap.size = k) : Rd (w.alloc (.cells cs e)) (paint o w.heap.size c) c 1 (.slice (some ⟨k, 0, none⟩) n n) n vals := by
  subst hn
  subst hk
  refine ⟨by simp, hb, h1, some ⟨w.heap.size, 0, none⟩, vals.length, rfl, Nat.le_refl _, by simp, fun _ => ⟨_, rfl, paint_at _ _ _, by simp, fun j u hu => ?_⟩⟩
  rw [Addr.add_lit, Nat.zero_add, cell_of_row _ w.heap.size j cs e (0, 0) (heap_alloc_new w _)]
  rw [← h] at hu
  simpa using hu

/-- A slice at the head of a block of the call's own; the block may go on behind its capacity. -/
def row (w : World) (e sz : Nat) (v : Value) (n : Nat) (vals : List Value) : Prop :=
  vals.length = n * sz ∧ ((v = .slice none 0 0 ∧ n = 0) ∨ ∃ g cap cur, v = .slice (some ⟨g, 0, none⟩) n cap ∧ 0 ≤ g ∧ w.heap[g]? = some (.cells cur e (0, 0)) ∧ n ≤ cap ∧ cap ≤ maxLen ∧ cap * sz ≤ cur.size ∧ cur.toList.take (n * sz) = vals)
theorem row.lt {w : World} {e sz n : Nat} {v : Value} {vals : List Value} (h : row w e sz v n vals) : ∀ k, v.ownBlock = some k → k < w.heap.size := by
  intro k hk
  rcases h.2 with ⟨rfl, _⟩ | ⟨g, cap, cur, rfl, hb, hg, _⟩
  · simp [Value.ownBlock] at hk
  · simp [Value.ownBlock] at hk
    subst hk
    exact (Array.getElem?_eq_some_iff.1 hg).1
theorem row.cells {w : World} {e sz n : Nat} {v : Value} {vals : List Value} (h : row w e sz v n vals) {g : Nat} (hg : v.ownBlock = some g) : ∀ j u, vals[j]? = some u → w.cell? ((⟨g, 0, none⟩ : Addr).add j) = some u := by
  intro j u hu
  rcases h.2 with ⟨rfl, _⟩ | ⟨g', cap, cur, rfl, _, hgg, _, _, _, htake⟩
  · simp [Value.ownBlock] at hg
  · simp [Value.ownBlock] at hg
    subst hg
    rw [Addr.add_lit, Nat.zero_add, cell_of_row w g' j cur e (0, 0) hgg]
    rw [← htake, List.getElem?_take] at hu
    split at hu
    · simpa using hu
    · cases hu
theorem row.nil (w : World) (e sz : Nat) : row w e sz (.slice none 0 0) 0 [] := ⟨by simp, .inl ⟨rfl, rfl⟩⟩
/-- 'append' onto such a row. -/
theorem run_app {P : Program} (w : World) (t ty e : TypeId) (i : TypeInfo) (z : Value) (sz bytes : Nat) (ht : P.underlying t = some (.slice e)) (hi : P.info? e = some i) (hz : i.zero = some z)
    (hsize : i.size = sz) (hby : i.bytes = bytes) (hzs : z.cells.size = sz) (hsz : 0 < sz) (v : Value) (n : Nat) (xs : List Value) (hown : row w e sz v n xs)
    (a : Addr) (m c : Nat) (news : List Value) (hl : news.length = m * sz) (hnews : ∀ j u, news[j]? = some u → w.cell? (a.add j) = some u) (h1 : ∀ u ∈ news, u.oneCell' = true)
    (h63 : n + m ≤ maxLen) (hbytes : (n + m) * bytes ≤ 140737488355328) :
    ∃ v' w', (Builtin.append_ #[t, t] ty #[v, .slice (some a) m c]).run P w = .ok v' w' ∧ row w' e sz v' (n + m) (xs ++ news) ∧ w.grownBy w' v.ownBlock ∧
      (v' = .slice none 0 0 ↔ v = .slice none 0 0 ∧ m = 0) ∧ (v'.ownBlock = v.ownBlock ∨ v'.ownBlock = some w.heap.size) := by
  subst hsize
  subst hby
  have hsmall : n + m ≤ 9223372036854775807 := by simp only [maxLen] at h63; omega
  have hlen : (xs ++ news).length = (n + m) * i.size := by rw [List.length_append, hown.1, hl, Nat.add_mul]
  have fresh : ∀ (old : Nat) (rw_ : Option Nat), row (w.drew.alloc (.cells (xs.toArray ++ news.toArray ++ Builtin.zeroCells z.cells (grownCap w (n + m) old e - (n + m))) e)) e i.size
        (.slice (some ⟨w.heap.size, 0, none⟩) (n + m) (grownCap w (n + m) old e)) (n + m) (xs ++ news) ∧
      w.grownBy (w.drew.alloc (.cells (xs.toArray ++ news.toArray ++ Builtin.zeroCells z.cells (grownCap w (n + m) old e - (n + m))) e)) rw_ := by
    intro old rw_
    have hge := grownCap_ge w (n + m) old e
    refine ⟨⟨hlen, .inr ⟨w.heap.size, _, _, rfl, Nat.zero_le _, heap_alloc_new w.drew _, hge, grownCap_le_maxLen w (n + m) old e h63, ?_, ?_⟩⟩, ⟨rfl, rfl, rfl, by simp, fun k hk _ => heap_alloc_old w.drew _ hk⟩⟩
    · simp only [Array.size_append, List.size_toArray, size_zeroCells, hzs, hown.1, hl, ← Nat.add_mul]
      exact Nat.mul_le_mul_right _ (by omega)
    · rw [Array.toList_append, Array.toList_append, ← hlen]
      exact List.take_left
  rcases hown.2 with ⟨rfl, rfl⟩ | ⟨g, cap, cur, rfl, _, hg, hnc, hcm, hcs, htake⟩
  · have hx : xs = [] := List.eq_nil_of_length_eq_zero (by simpa using hown.1)
    subst hx
    by_cases hm : m = 0
    · subst hm
      have hn : news = [] := List.eq_nil_of_length_eq_zero (by simpa using hl)
      subst hn
      refine ⟨.slice none 0 0, w, ?_, row.nil w e i.size, ⟨rfl, rfl, rfl, Nat.le_refl _, fun _ _ _ => rfl⟩, by simp, Or.inl rfl⟩
      simp [Builtin.append_, run_underlying ht, sizeOf, typeInfo, hi, Builtin.lenOf, Builtin.firstCells, loadCells, loadCellsFrom]
    · have hr := run_append_nil (P := P) w t ty e i z ht hi hz a m c news hl hnews (by omega) (by omega) (by have hb := hbytes; simp only [Nat.zero_add] at hb; omega)
      have hgr := fresh 0 (Value.ownBlock (.slice none 0 0))
      simp only [Nat.zero_add, List.nil_append, Array.empty_append] at hgr ⊢
      exact ⟨_, _, hr, hgr.1, hgr.2, by simp [hm], Or.inr rfl⟩
  · by_cases hroom : n + m ≤ cap
    · have hfit : n * i.size + news.length ≤ cur.size := by rw [hl, ← Nat.add_mul]; exact Nat.le_trans (Nat.mul_le_mul_right _ hroom) hcs
      have hr := run_append_room (P := P) w t ty e i ht hi g n cap cur hg a m c news hl hnews h1 hroom hfit
      refine ⟨_, _, hr, ⟨hlen, .inr ⟨g, cap, _, rfl, Nat.zero_le _, setRow_heap w g cur _ e _ hg, hroom, hcm, ?_, ?_⟩⟩, ⟨rfl, rfl, rfl, by simp, fun k _ hk => setRow_other w g k _ (fun e => hk (by simp [Value.ownBlock, e]))⟩, by simp, Or.inl rfl⟩
      · simp only [List.size_toArray, List.length_append, List.length_take, List.length_drop, Array.length_toList]
        omega
      · rw [htake, ← hlen]
        exact List.take_left
    · have holds : ∀ j u, xs[j]? = some u → w.cell? ((⟨g, 0, none⟩ : Addr).add j) = some u := row.cells hown (g := g) rfl
      have hr := run_append_grow (P := P) w t ty e i z ht hi hz ⟨g, 0, none⟩ n cap xs hown.1 holds a m c news hl hnews (by omega) (by omega) (growslice_fits (by omega) hbytes)
      have hgr := fresh cap (Value.ownBlock (.slice (some ⟨g, 0, none⟩) n cap))
      exact ⟨_, _, hr, hgr.1, hgr.2, by simp, Or.inr rfl⟩
theorem run_app_none {P : Program} (w : World) (t ty e : TypeId) (i : TypeInfo) (sz : Nat) (ht : P.underlying t = some (.slice e)) (hi : P.info? e = some i) (v : Value) (n : Nat) (xs : List Value) (hown : row w e sz v n xs) :
    (Builtin.append_ #[t, t] ty #[v, .slice none 0 0]).run P w = .ok v w := by
  rcases hown.2 with ⟨rfl, rfl⟩ | ⟨g, cap, cur, rfl, _, _, hnc, _⟩
  · simp [Builtin.append_, run_underlying ht, sizeOf, typeInfo, hi, Builtin.lenOf, Builtin.firstCells]
  · simp [Builtin.append_, run_underlying ht, sizeOf, typeInfo, hi, Builtin.lenOf, Builtin.firstCells, hnc, storeCells]

/-- A row of the call's own: it may be written, and grow. -/
structure Own (w : World) (o : Col) (c e sz : Nat) (v : Value) (n : Nat) (vals : List Value) : Prop where
  own : row w e sz v n vals
  one : ∀ u ∈ vals, u.oneCell' = true
  col : ∀ k, v.ownBlock = some k → o k = c

theorem Own.lt {w : World} {o : Col} {c e sz n : Nat} {v : Value} {vals : List Value} (h : Own w o c e sz v n vals) {k : Nat} (hk : v.ownBlock = some k) : k < w.heap.size := h.own.lt k hk
theorem Own.stp {C : List Nat} {w w1 : World} {o o1 : Col} {c e sz n : Nat} {v : Value} {vals : List Value} (h : Own w o c e sz v n vals) (hs : Stp C w o w1 o1) (hn : c ∉ C) : Own w1 o1 c e sz v n vals := by
  refine ⟨⟨h.own.1, ?_⟩, h.one, fun k hk => (hs.col k (h.lt hk)).trans (h.col k hk)⟩
  rcases h.own.2 with hx | ⟨g, cap, cur, hv, hb, hg, r⟩
  · exact .inl hx
  · exact .inr ⟨g, cap, cur, hv, hb, hs.blk hg (by rw [h.col g (by rw [hv]; rfl)]; exact hn), r⟩
theorem Own.nil (w : World) (o : Col) (c e sz : Nat) : Own w o c e sz (.slice none 0 0) 0 [] := ⟨row.nil _ _ _, by simp, by simp [Value.ownBlock]⟩
theorem Own.rd {w : World} {o : Col} {c e sz n : Nat} {v : Value} {vals : List Value} (h : Own w o c e sz v n vals) : Rd w o c sz v n vals := by
  rcases h.own.2 with ⟨hv, hn⟩ | ⟨g, cap, cur, hv, hb, hg, hnc, hcm, r⟩
  · subst hv; subst hn
    exact ⟨h.own.1, by omega, h.one, none, 0, rfl, Nat.le_refl _, fun _ => rfl, fun h => by omega⟩
  · refine ⟨h.own.1, by simp only [maxLen] at hcm; omega, h.one, some ⟨g, 0, none⟩, cap, hv, hnc, by simp, fun _ => ⟨⟨g, 0, none⟩, rfl, h.col g (by rw [hv]; rfl), (Array.getElem?_eq_some_iff.1 hg).1, ?_⟩⟩
    exact h.own.cells (by rw [hv]; rfl)
theorem Own.shape {w : World} {o : Col} {c e sz n : Nat} {v : Value} {vals : List Value} (h : Own w o c e sz v n vals) : ∃ A cap, v = .slice A n cap := by
  rcases h.own.2 with ⟨hv, hn⟩ | ⟨g, cap, cur, hv, _⟩
  · exact ⟨_, _, by rw [hv, hn]⟩
  · exact ⟨_, _, hv⟩
theorem Own.drew {w : World} {o : Col} {c e sz n : Nat} {v : Value} {vals : List Value} (h : Own w o c e sz v n vals) : Own w.drew o c e sz v n vals := ⟨h.own, h.one, h.col⟩

theorem Own.repaint {w : World} {o o1 : Col} {c d e sz n : Nat} {v : Value} {vals : List Value} (h : Own w o c e sz v n vals) (hd : ∀ k, v.ownBlock = some k → o1 k = d) : Own w o1 d e sz v n vals := ⟨h.own, h.one, hd⟩
/-- A row of a fresh colour lies in a new block. -/
theorem Own.new_ge {C : List Nat} {w w1 : World} {o o1 : Col} {d e sz n : Nat} {v : Value} {vals : List Value} (h : Own w1 o1 d e sz v n vals) (hs : Stp C w o w1 o1) (hd : ∀ k, k < w.heap.size → o k ≠ d) : ∀ k, v.ownBlock = some k → w.heap.size ≤ k := by
  intro k hk
  by_cases hlt : k < w.heap.size
  · have h1 := h.col k hk
    rw [hs.col k hlt] at h1
    exact absurd h1 (hd k hlt)
  · omega
theorem Own.fresh {C : List Nat} {w w1 : World} {o o1 : Col} {d e sz n : Nat} {v : Value} {vals : List Value} (h : Own w1 o1 d e sz v n vals) (hs : Stp C w o w1 o1) (hd : ∀ k, k < w.heap.size → o k ≠ d) (c : Nat) : Own w1 (paint o w.heap.size c) c e sz v n vals :=
  h.repaint (fun k hk => paint_ge (h.new_ge hs hd k hk))

theorem Own.keep {w w1 : World} {o o1 : Col} {c d e sz n : Nat} {v : Value} {vals : List Value} (h : Own w o c e sz v n vals) (hk : ∀ k, v.ownBlock = some k → w1.heap[k]? = w.heap[k]? ∧ o1 k = d) : Own w1 o1 d e sz v n vals := by
  refine ⟨⟨h.own.1, ?_⟩, h.one, fun k hv => (hk k hv).2⟩
  rcases h.own.2 with hx | ⟨g, cap, cur, hv, hb, hg, r⟩
  · exact .inl hx
  · exact .inr ⟨g, cap, cur, hv, hb, by rw [(hk g (by rw [hv]; rfl)).1]; exact hg, r⟩
theorem Own.ne {w : World} {o : Col} {c e sz n p t : Nat} {v : Value} {vals : List Value} {cs : Array Value} {fz : Nat × Nat} (h : Own w o c e sz v n vals) (hp : w.heap[p]? = some (.cells cs t fz)) (ht : t ≠ e) : v.ownBlock ≠ some p := by
  intro hk
  rcases h.own.2 with ⟨hv, _⟩ | ⟨g, cap, cur, hv, hb, hg, r⟩
  · subst hv; cases hk
  · subst hv
    injection hk with hk
    subst hk
    have hgp : w.heap[g]? = some (.cells cs t fz) := hp
    rw [hgp] at hg
    injection hg with hg
    injection hg with _ hg
    exact ht hg
/-- Another block is written. -/
theorem Own.set {w : World} {o : Col} {c e sz n : Nat} {v : Value} {vals : List Value} (h : Own w o c e sz v n vals) {p : Addr} (hp : v.ownBlock ≠ some p.block) (u : Value) : Own (w.setCell p u) o c e sz v n vals :=
  h.keep (fun k hk => ⟨Below.heap_setCell _ _ _ _ (fun e => hp (by rw [hk, e])), h.col k hk⟩)
/-- A block of one cell. -/
theorem one_set {w : World} {p t : Nat} {v : Value} {fz : Nat × Nat} (h : w.heap[p]? = some (.cells #[v] t fz)) (u : Value) : (w.setCell ⟨p, 0, none⟩ u).heap[p]? = some (.cells #[u] t fz) := by
  simp [World.setCell, Array.getElem?_modify, h]
theorem blk_cell {w : World} {p t : Nat} {cs : Array Value} {fz : Nat × Nat} (h : w.heap[p]? = some (.cells cs t fz)) (j : Nat) : w.cell? ⟨p, j, none⟩ = cs[j]? := by
  simp [World.cell?, h]
theorem blk_free {w : World} {p t : Nat} {cs : Array Value} (h : w.heap[p]? = some (.cells cs t (0, 0))) (j : Nat) : w.frozen? ⟨p, j, none⟩ = false := by
  simp [World.frozen?, h]

theorem blk_set {w : World} {p t j : Nat} {cs : Array Value} {fz : Nat × Nat} (h : w.heap[p]? = some (.cells cs t fz)) (u : Value) : (w.setCell ⟨p, j, none⟩ u).heap[p]? = some (.cells (cs.setIfInBounds j u) t fz) := by
  simp [World.setCell, Array.getElem?_modify, h]

/-- What is known of a slice type. -/
structure SlT (P : Program) (t e sz by_ : Nat) (z : Value) : Prop where
  under : P.underlying t = some (.slice e)
  info : ∃ i, P.info? e = some i ∧ i.zero = some z ∧ i.size = sz ∧ i.bytes = by_
  zsz : z.cells.size = sz
  pos : 0 < sz

/-- 'append(s, x...)', s a row of the call's own, x whatever is read. -/
theorem app {P : Program} {t e sz by_ : Nat} {z : Value} (T : SlT P t e sz by_ z) {w : World} {o : Col} {ops : Array Oper} {rest : List Oper} {op : Oper} {a : Act} {Q : Exit → Act → World → Prop} {c c2 n m : Nat} {v x : Value} {vals news : List Value} (s y : Operand)
    (hgd : op.guard = none) (hop : op.op = .call { callee := .builtin .append, args := #[s, y], argTypes := #[t, t] })
    (hown : Own w o c e sz v n vals) (hrd : Rd w o c2 sz x m news) (hs : a.eval s = v) (hx : a.eval y = x) (hb : (n + m) * by_ ≤ 140737488355328) (h63 : n + m ≤ maxLen)
    (h : ∀ A' cap' w' o', Stp [c] w o w' o' → Own w' o' c e sz (.slice A' (n + m) cap') (n + m) (vals ++ news) → ((Value.slice A' (n + m) cap') = .slice none 0 0 ↔ v = .slice none 0 0 ∧ m = 0) → ((Value.slice A' (n + m) cap').ownBlock = v.ownBlock ∨ (Value.slice A' (n + m) cap').ownBlock = some w.heap.size) → w.grownBy w' v.ownBlock → wpList P ops Q rest (a.put op.dst (.slice A' (n + m) cap')) w') :
    wpList P ops Q (op :: rest) a w := by
  have h : ∀ v' w', Stp [c] w o w' (paint o w.heap.size c) → Own w' (paint o w.heap.size c) c e sz v' (n + m) (vals ++ news) → (v' = .slice none 0 0 ↔ v = .slice none 0 0 ∧ m = 0) → (v'.ownBlock = v.ownBlock ∨ v'.ownBlock = some w.heap.size) → w.grownBy w' v.ownBlock → wpList P ops Q rest (a.put op.dst v') w' := by
    intro v' w' h1 h2 h3 h4 h5
    obtain ⟨A', cap', rfl⟩ := h2.shape
    exact h _ _ _ _ h1 h2 h3 h4 h5
  obtain ⟨i, hi, hz, hsz, hby⟩ := T.info
  obtain ⟨hl, _, h1, A, cap, rfl, hmc, hA, hcells⟩ := hrd
  have hone : ∀ u ∈ vals ++ news, u.oneCell' = true := by
    intro u hu
    rcases List.mem_append.1 hu with hu | hu
    · exact hown.one u hu
    · exact h1 u hu
  cases A with
  | some ad =>
    have hsrc : ∀ j u, news[j]? = some u → w.cell? (ad.add j) = some u := by
      intro j u hu
      have hj := (List.getElem?_eq_some_iff.1 hu).1
      have hm : 0 < m := Nat.pos_of_ne_zero (fun e => by subst e; rw [hl] at hj; omega)
      obtain ⟨a, e, _, _, hc⟩ := hcells hm
      injection e with e
      subst e
      exact hc j u hu
    refine wpList_plain hgd fun K hK' => ?_
    obtain ⟨v', w', hr, o1, g1, n1, a1⟩ := run_app (P := P) w t op.type e i z sz by_ T.under hi hz hsz hby T.zsz T.pos v n vals hown.own ad m cap news hl hsrc h1 h63 hb
    have key := h v' w' (Stp.grown (Stp.refl _ _ _) g1 (fun k hk => by rw [hown.col k hk]; simp) c) ⟨o1, hone, fun k hk => ?_⟩ n1 a1 g1
    · unfold Oper.wp execOp
      simp only [hop, resolve, invoke, builtin, Sem.run_bind, Sem.run_pure, Result.andThen_ok, List.map_toArray, List.map_cons, List.map_nil, hs, hx, hr]
      exact hK' _ _ key
    · rcases a1 with a1 | a1
      · rw [a1] at hk
        rw [paint_lt (hown.lt hk)]
        exact hown.col k hk
      · rw [a1] at hk
        injection hk with hk
        subst hk
        exact paint_at _ _ _
  | none =>
    have hc0 := hA rfl
    subst hc0
    have hm : m = 0 := by omega
    subst hm
    have hnews : news = [] := List.eq_nil_of_length_eq_zero (by rw [hl]; simp)
    subst hnews
    refine wpList_plain hgd fun K hK' => ?_
    have hrun := run_app_none (P := P) w t op.type e i sz T.under hi _ n vals hown.own
    unfold Oper.wp
    simp [execOp, hop, resolve, invoke, builtin, hs, hx, hrun, Result.andThen]
    refine hK' _ _ (h v w ⟨rfl, rfl, rfl, Nat.le_refl _, fun k hk => paint_lt hk, fun _ _ _ => rfl⟩ ⟨by simpa using hown.own, hone, fun k hk => ?_⟩ (by simp) (.inl rfl) (World.grownBy.refl _ _))
    rw [paint_lt (hown.lt hk)]
    exact hown.col k hk

/-- An operation that is wanted, guarded or not. -/
theorem wpList_w {P : Program} {ops : Array Oper} {Q : Exit → Act → World → Prop} {a : Act} {w : World} {rest : List Oper} {op : Oper} (hw : Region.wanted op (yielded ops a.tmps) = true)
    (h : ∀ K : Act → World → Prop, (∀ a w, wpList P ops Q rest a w → K a w) → op.wp P a w K Q) : wpList P ops Q (op :: rest) a w :=
  wpList_step fun K hK => by rw [if_pos hw]; exact h K hK

/-! ### Slices of what is read -/
theorem add_add (a : Addr) (x y : Nat) : (a.add x).add y = a.add (x + y) := by
  unfold Addr.add
  by_cases h1 : x = 0 <;> by_cases h2 : y = 0 <;> simp [h1, h2, Nat.add_assoc]
theorem add_block (a : Addr) (x : Nat) : (a.add x).block = a.block := by unfold Addr.add; split <;> rfl
theorem Rd.sub {w : World} {o : Col} {c sz n cap : Nat} {A : Option Addr} {vals : List Value} (h : Rd w o c sz (.slice A n cap) n vals) (l k : Nat) (hl : l ≤ k) (hk : k ≤ n) :
    Rd w o c sz (.slice (if cap = l then A else A.map (·.add (l * sz))) (k - l) (cap - l)) (k - l) ((vals.drop (l * sz)).take ((k - l) * sz)) := by
  obtain ⟨h1, h1b, h1o, A', cap', e, h3, h4, h5⟩ := h
  injection e with e1 e2 e3
  subst e1
  subst e3
  have hm : (k - l) * sz + l * sz ≤ n * sz := by rw [← Nat.add_mul]; exact Nat.mul_le_mul_right _ (by omega)
  refine ⟨by rw [List.length_take, List.length_drop, h1]; omega, by omega, fun u hu => h1o u (List.mem_of_mem_drop (List.mem_of_mem_take hu)), _, _, rfl, by omega, ?_, ?_⟩
  · intro hA
    by_cases hc : cap = l
    · omega
    · rw [if_neg hc] at hA
      cases A with
      | none => have := h4 rfl; omega
      | some a => cases hA
  · intro h0
    obtain ⟨a, rfl, ha, hlt, hc⟩ := h5 (by omega)
    rw [if_neg (by omega)]
    refine ⟨a.add (l * sz), rfl, by rw [add_block]; exact ha, by rw [add_block]; exact hlt, fun j u hu => ?_⟩
    rw [add_add]
    refine hc _ _ ?_
    rw [List.getElem?_take] at hu
    split at hu
    · rw [List.getElem?_drop] at hu; exact hu
    · cases hu
section
variable {P : Program} {t e sz by_ : Nat} {z : Value} (T : SlT P t e sz by_ z) {w : World} {o : Col} {ops : Array Oper} {rest : List Oper} {op : Oper} {a : Act} {Q : Exit → Act → World → Prop} {c n cap : Nat} {A : Option Addr} {vals : List Value} (x lo hi : Operand)
include T
theorem SlT.elem : P.elem t = e ∧ P.underlying t = some (.slice (P.elem t)) := by
  have h := T.under
  have h1 : P.elem t = e := by simp [Program.elem, h]
  exact ⟨h1, by rw [h1]; exact h⟩
theorem slcL (hgd : Region.wanted op (yielded ops a.tmps) = true) (hop : op.op = .slice t x (some lo) none none) (hrd : Rd w o c sz (.slice A n cap) n vals) (l : Nat) {kl : IntKind} (hx : a.eval x = .slice A n cap) (hlo : a.eval lo = .int kl l) (hl : l ≤ n)
    (h : ∀ A', Rd w o c sz (.slice A' (n - l) (cap - l)) (n - l) (vals.drop (l * sz)) → wpList P ops Q rest (a.put op.dst (.slice A' (n - l) (cap - l))) w) : wpList P ops Q (op :: rest) a w := by
  obtain ⟨he, hu⟩ := T.elem
  obtain ⟨i, hi, _, hsz, _⟩ := T.info
  refine wpList_w hgd fun K hK => ?_
  have hs := hrd.sub l n hl (Nat.le_refl _)
  rw [List.take_of_length_le (by rw [List.length_drop, hrd.len, Nat.sub_mul]; exact Nat.le_refl _)] at hs
  have hrun := run_slice_l (P := P) w t A n cap hu kl l (by omega) (by omega)
  rw [Int.toNat_natCast] at hrun
  unfold Oper.wp
  simp [execOp, hop, hx, hlo, run_sliceAt_slice _ _ _ _ _ _ hu, hrun, he, sizeOf, typeInfo, hi, hsz, Result.andThen, sliced]
  exact hK _ _ (h _ hs)
theorem slcH (hgd : Region.wanted op (yielded ops a.tmps) = true) (hop : op.op = .slice t x none (some hi) none) (hrd : Rd w o c sz (.slice A n cap) n vals) (k : Nat) {kh : IntKind} (hx : a.eval x = .slice A n cap) (hhi : a.eval hi = .int kh k) (hk : k ≤ n)
    (h : ∀ A', Rd w o c sz (.slice A' k cap) k (vals.take (k * sz)) → wpList P ops Q rest (a.put op.dst (.slice A' k cap)) w) : wpList P ops Q (op :: rest) a w := by
  obtain ⟨he, hu⟩ := T.elem
  obtain ⟨i, hi', _, hsz, _⟩ := T.info
  refine wpList_w hgd fun K hK => ?_
  have hs := hrd.sub 0 k (Nat.zero_le _) hk
  simp only [Nat.zero_mul, List.drop_zero, Nat.sub_zero] at hs
  obtain ⟨_, cap', e, hnc, _⟩ := hrd.is
  injection e with _ _ e3
  subst e3
  have hrun := run_slice_h (P := P) w t A n cap hu kh k (by omega) (by omega)
  rw [Int.toNat_natCast] at hrun
  unfold Oper.wp
  simp [execOp, hop, hx, hhi, run_sliceAt_slice _ _ _ _ _ _ hu, hrun, he, sizeOf, typeInfo, hi', hsz, Result.andThen, sliced]
  exact hK _ _ (h _ (by simpa using hs))
theorem slcLH (hgd : Region.wanted op (yielded ops a.tmps) = true) (hop : op.op = .slice t x (some lo) (some hi) none) (hrd : Rd w o c sz (.slice A n cap) n vals) (l k : Nat) {kl kh : IntKind} (hx : a.eval x = .slice A n cap) (hlo : a.eval lo = .int kl l) (hhi : a.eval hi = .int kh k) (hl : l ≤ k) (hk : k ≤ n)
    (h : ∀ A', Rd w o c sz (.slice A' (k - l) (cap - l)) (k - l) ((vals.drop (l * sz)).take ((k - l) * sz)) → wpList P ops Q rest (a.put op.dst (.slice A' (k - l) (cap - l))) w) : wpList P ops Q (op :: rest) a w := by
  obtain ⟨he, hu⟩ := T.elem
  obtain ⟨i, hi', _, hsz, _⟩ := T.info
  refine wpList_w hgd fun K hK => ?_
  have hs := hrd.sub l k hl hk
  obtain ⟨_, cap', e, hnc, _⟩ := hrd.is
  injection e with _ _ e3
  subst e3
  have hrun := run_slice_lh (P := P) w t A n cap hu kl kh l k (by omega) (by omega) (by omega)
  rw [Int.toNat_natCast, Int.toNat_natCast] at hrun
  unfold Oper.wp
  simp [execOp, hop, hx, hlo, hhi, run_sliceAt_slice _ _ _ _ _ _ hu, hrun, he, sizeOf, typeInfo, hi', hsz, Result.andThen, sliced]
  exact hK _ _ (h _ hs)
end

/-- An empty row of the call's own. -/
theorem Own.newE (w : World) (o : Col) (c e sz k : Nat) (hk : w.heap.size = k) : Own (w.alloc (.cells #[] e)) (paint o w.heap.size c) c e sz (.slice (some ⟨k, 0, none⟩) 0 0) 0 [] := by
  subst hk
  refine ⟨⟨by simp, .inr ⟨w.heap.size, 0, #[], rfl, Nat.zero_le _, heap_alloc_new w _, Nat.le_refl _, by simp, by simp, by simp⟩⟩, by simp, fun k hk => ?_⟩
  injection hk with hk
  subst hk
  exact paint_at _ _ _

/-! ### Bytes -/
theorem i64_mask30 (n : Int) : bits .and .i64 n 1073741823 = n % 1073741824 := by
  have hm : (BitVec.ofInt 64 1073741823).toNat = 2 ^ 30 - 1 := by decide
  have key : (BitVec.ofInt 64 n &&& BitVec.ofInt 64 1073741823).toNat = (n % ((2 ^ 64 : Nat) : Int)).toNat % 2 ^ 30 := by
    rw [BitVec.toNat_and, BitVec.toNat_ofInt, hm, Nat.and_two_pow_sub_one_eq_mod]
  show IntKind.i64.wrap ((BitVec.ofInt 64 n &&& BitVec.ofInt 64 1073741823).toNat : Nat) = n % 1073741824
  rw [key, IntKind.wrap_i64]
  omega
theorem i64_mask16 (n : Int) : bits .and .i64 n 65535 = n % 65536 := by
  have hm : (BitVec.ofInt 64 65535).toNat = 2 ^ 16 - 1 := by decide
  have key : (BitVec.ofInt 64 n &&& BitVec.ofInt 64 65535).toNat = (n % ((2 ^ 64 : Nat) : Int)).toNat % 2 ^ 16 := by
    rw [BitVec.toNat_and, BitVec.toNat_ofInt, hm, Nat.and_two_pow_sub_one_eq_mod]
  show IntKind.i64.wrap ((BitVec.ofInt 64 n &&& BitVec.ofInt 64 65535).toNat : Nat) = n % 65536
  rw [key, IntKind.wrap_i64]
  omega
/-- 'at&(1<<30-1) % n': a place. -/
theorem place30 (n : Int) (k : Nat) (hk : 0 < k) : ∃ j : Nat, j < k ∧ (bits .and .i64 n 1073741823).tmod (k : Int) = (j : Int) := by
  rw [i64_mask30]
  have h0 : 0 ≤ n % 1073741824 := by omega
  obtain ⟨m, hm⟩ := Int.eq_ofNat_of_zero_le h0
  rw [hm]
  exact ⟨m % k, Nat.mod_lt _ hk, by rw [Int.ofNat_tmod]⟩
theorem place16 (n : Int) (k : Nat) (hk : 0 < k) : ∃ j : Nat, j < k ∧ (bits .and .i64 n 65535).tmod (k : Int) = (j : Int) := by
  rw [i64_mask16]
  have h0 : 0 ≤ n % 65536 := by omega
  obtain ⟨m, hm⟩ := Int.eq_ofNat_of_zero_le h0
  rw [hm]
  exact ⟨m % k, Nat.mod_lt _ hk, by rw [Int.ofNat_tmod]⟩
theorem xor8 (a b : UInt8) : bits BinOp.xor IntKind.u8 (a.toNat : Int) (b.toNat : Int) = ((a ^^^ b).toNat : Int) := by
  rw [u8_xor_nat a.toNat b.toNat (by have := a.toNat_lt; omega) (by have := b.toNat_lt; omega), UInt8.toNat_xor]
theorem xor8_ne (a b : UInt8) (h : b ≠ 0) : a ^^^ b ≠ a := by
  intro e
  have h1 := congrArg (fun x => a ^^^ x) e
  simp only [← UInt8.xor_assoc, UInt8.xor_self, UInt8.zero_xor] at h1
  exact h h1
theorem ofNat8 {u : Nat} (h : u < 256) : (u : Int) = ((UInt8.ofNat u).toNat : Int) := by
  rw [UInt8.toNat_ofNat']
  omega
theorem or128 (u : Nat) : bits BinOp.or IntKind.u8 ((u : Int) % 256) 128 = ((UInt8.ofNat (u % 128 + 128)).toNat : Int) := by
  have h : ∀ a, a < 256 → bits BinOp.or IntKind.u8 ((a : Nat) : Int) 128 = ((UInt8.ofNat (a % 128 + 128)).toNat : Int) := by decide +kernel
  have h2 := h (u % 256) (by omega)
  rw [show ((u : Int) % 256) = ((u % 256 : Nat) : Int) from by omega, h2, show u % 256 % 128 = u % 128 from by omega]

theorem or128' (u : Nat) (hu : u < 18446744073709551616) : bits BinOp.or IntKind.u8 (bits BinOp.and IntKind.u64 (u : Int) 127 % 256) 128 = ((UInt8.ofNat (u % 128 + 128)).toNat : Int) := by
  have h := u64_and_nat u 127 hu (by omega)
  rw [nat_mask7] at h
  have h2 : bits BinOp.and IntKind.u64 (u : Int) 127 = ((u % 128 : Nat) : Int) := h
  have h3 := or128 (u % 128)
  rw [h2, h3, show u % 128 % 128 = u % 128 by omega]
def vb (b : UInt8) : Value := .int .u8 (b.toNat : Int)
def vbs (l : List UInt8) : List Value := l.map fun b => .int .u8 (b.toNat : Int)
theorem vbs_length (l : List UInt8) : (vbs l).length = l.length := by simp [vbs]
theorem vbs_append (l m : List UInt8) : vbs (l ++ m) = vbs l ++ vbs m := by simp [vbs]
theorem vbs_one (l : List UInt8) : ∀ u ∈ vbs l, u.oneCell' = true := by
  intro u hu
  obtain ⟨_, _, rfl⟩ := List.mem_map.1 hu
  rfl
theorem vbs_at {l : List UInt8} {j : Nat} (h : j < l.length) : (vbs l)[j]? = some (.int .u8 ((l[j]).toNat : Int)) := by simp [vbs, h]
/-- Bytes that are read. -/
def RdB (w : World) (o : Col) (c : Nat) (v : Value) (l : List UInt8) : Prop := Rd w o c 1 v l.length (vbs l)
/-- Bytes of the call's own. -/
def OwnB (w : World) (o : Col) (c : Nat) (v : Value) (l : List UInt8) : Prop := Own w o c 5 1 v l.length (vbs l)
theorem OwnB.rd {w : World} {o : Col} {c : Nat} {v : Value} {l : List UInt8} (h : OwnB w o c v l) : RdB w o c v l := Own.rd h
theorem RdB.stp {C : List Nat} {w w1 : World} {o o1 : Col} {c : Nat} {v : Value} {l : List UInt8} (h : RdB w o c v l) (hs : Stp C w o w1 o1) (hn : c ∉ C) : RdB w1 o1 c v l := Rd.stp h hs hn
theorem OwnB.stp {C : List Nat} {w w1 : World} {o o1 : Col} {c : Nat} {v : Value} {l : List UInt8} (h : OwnB w o c v l) (hs : Stp C w o w1 o1) (hn : c ∉ C) : OwnB w1 o1 c v l := Own.stp h hs hn
theorem RdB.nil (w : World) (o : Col) (c : Nat) : RdB w o c (.slice none 0 0) [] := Rd.nil w o c 1
theorem OwnB.nil (w : World) (o : Col) (c : Nat) : OwnB w o c (.slice none 0 0) [] := Own.nil w o c _ 1
/-- The byte at a place, for a walk. -/
theorem RdB.at_ {w : World} {o : Col} {c : Nat} {A : Option Addr} {n cap : Nat} {l : List UInt8} (h : RdB w o c (.slice A n cap) l) {j : Nat} (hj : j < l.length) : ∃ a, A = some a ∧ w.cell? (a.add j) = some (.int .u8 ((l[j]).toNat : Int)) := by
  obtain ⟨_, _, _, A', cap', e, _, _, hc⟩ := h
  injection e with e1 e2 e3
  subst e1
  obtain ⟨a, rfl, _, _, hc⟩ := hc (by omega)
  exact ⟨a, rfl, hc j _ (vbs_at hj)⟩
theorem RdB.shape {w : World} {o : Col} {c : Nat} {v : Value} {l : List UInt8} (h : RdB w o c v l) : ∃ A cap, v = .slice A l.length cap ∧ l.length ≤ cap ∧ (A = none → cap = 0) := by
  obtain ⟨_, _, _, A, cap, e, h1, h2, _⟩ := h
  exact ⟨A, cap, e, h1, h2⟩
/-- A new block of bytes, all of them read. -/
theorem RdB.newz (w : World) (o : Col) (c : Nat) (cs : Array Value) (l : List UInt8) (h : cs.toList = vbs l) (n : Nat) (hn : l.length = n) (hb : n ≤ 9223372036854775807) (e : Nat) (fz : Nat × Nat) (k : Nat) (hk : w.heap.size = k) : RdB (w.alloc (.cells cs e fz)) (paint o w.heap.size c) c (.slice (some ⟨k, 0, none⟩) n n) l := by
  subst hn
  subst hk
  refine ⟨by simp [vbs_length], hb, vbs_one l, some ⟨w.heap.size, 0, none⟩, l.length, rfl, Nat.le_refl _, by simp, fun _ => ⟨_, rfl, paint_at _ _ _, by simp, fun j u hu => ?_⟩⟩
  rw [Addr.add_lit, Nat.zero_add, cell_of_row _ w.heap.size j cs e fz (heap_alloc_new w _)]
  rw [← h] at hu
  simpa using hu
theorem RdB.new (w : World) (o : Col) (c : Nat) (cs : Array Value) (l : List UInt8) (h : cs.toList = vbs l) (n : Nat) (hn : l.length = n) (hb : n ≤ 9223372036854775807) (e : Nat) (k : Nat) (hk : w.heap.size = k) : RdB (w.alloc (.cells cs e)) (paint o w.heap.size c) c (.slice (some ⟨k, 0, none⟩) n n) l := RdB.newz w o c cs l h n hn hb e (0, 0) k hk
theorem OwnB.new (w : World) (o : Col) (c : Nat) (cs : Array Value) (l : List UInt8) (h : cs.toList = vbs l) (n : Nat) (hn : l.length = n) (hb : n ≤ 9223372036854775807) (k : Nat) (hk : w.heap.size = k) : OwnB (w.alloc (.cells cs 5)) (paint o w.heap.size c) c (.slice (some ⟨k, 0, none⟩) n n) l := by
  subst hn
  subst hk
  have hsz : cs.size = l.length := by rw [← Array.length_toList, h, vbs_length]
  refine ⟨⟨by simp [vbs_length], .inr ⟨w.heap.size, l.length, cs, rfl, Nat.zero_le _, heap_alloc_new w _, Nat.le_refl _, by simp only [maxLen]; omega, by omega, ?_⟩⟩, vbs_one l, fun k hk => ?_⟩
  · rw [h, List.take_of_length_le (by simp [vbs_length])]
  · injection hk with hk
    subst hk
    exact paint_at _ _ _

/-- A constant text as bytes: its new row is marked. -/
theorem constB (w : World) (C : Array Value) (n c : Nat) : (convert 22 22 (.slice (some ⟨w.heap.size, 0, none⟩) n c)).run Try.prog (w.alloc (.cells C 5)) = .ok (.slice (some ⟨w.heap.size, 0, none⟩) n c) (w.alloc (.cells C 5 (C.size, C.size + 1))) :=
  Lib.run_convert_bytes_const (P := Try.prog) w 22 5 C n c Try.underlying22 Try.underlying5
theorem slB : SlT Try.prog 22 5 1 1 (.int .u8 0) := ⟨Try.underlying22, info_parts (by kernel_rfl), by kernel_rfl, by omega⟩
/-- 'append' of bytes. -/
theorem appB {w : World} {o : Col} {ops : Array Oper} {rest : List Oper} {op : Oper} {a : Act} {Q : Exit → Act → World → Prop} {c c2 : Nat} {v x : Value} {l m : List UInt8} (s y : Operand)
    (hgd : op.guard = none) (hop : op.op = .call { callee := .builtin .append, args := #[s, y], argTypes := #[22, 22] })
    (hown : OwnB w o c v l) (hrd : RdB w o c2 x m) (hs : a.eval s = v) (hx : a.eval y = x) (hb : l.length + m.length ≤ 140737488355328)
    (h : ∀ A' cap' w' o', Stp [c] w o w' o' → OwnB w' o' c (.slice A' (l.length + m.length) cap') (l ++ m) → ((Value.slice A' (l.length + m.length) cap') = .slice none 0 0 ↔ v = .slice none 0 0 ∧ m.length = 0) → w.grownBy w' v.ownBlock → wpList Try.prog ops Q rest (a.put op.dst (.slice A' (l.length + m.length) cap')) w') :
    wpList Try.prog ops Q (op :: rest) a w :=
  app slB s y hgd hop hown hrd hs hx (by omega) (by simp only [maxLen]; omega) fun A' cap' w' o' h1 h2 h3 _ h5 => h A' cap' w' o' h1 (by unfold OwnB; rw [vbs_append, List.length_append]; exact h2) h3 h5
section
variable {w : World} {o : Col} {ops : Array Oper} {rest : List Oper} {op : Oper} {a : Act} {Q : Exit → Act → World → Prop} {c cap : Nat} {A : Option Addr} {l : List UInt8} (x lo hi : Operand)
theorem slcBL (hgd : Region.wanted op (yielded ops a.tmps) = true) (hop : op.op = .slice 22 x (some lo) none none) (hrd : RdB w o c (.slice A l.length cap) l) (i : Nat) {kl : IntKind} (hx : a.eval x = .slice A l.length cap) (hlo : a.eval lo = .int kl i) (hl : i ≤ l.length)
    (h : ∀ A', RdB w o c (.slice A' (l.length - i) (cap - i)) (l.drop i) → wpList Try.prog ops Q rest (a.put op.dst (.slice A' (l.length - i) (cap - i))) w) : wpList Try.prog ops Q (op :: rest) a w :=
  slcL slB x lo hgd hop hrd i hx hlo hl fun A' h1 => h A' (by unfold RdB; rw [List.length_drop]; simpa [vbs, List.map_drop] using h1)
theorem slcBH (hgd : Region.wanted op (yielded ops a.tmps) = true) (hop : op.op = .slice 22 x none (some hi) none) (hrd : RdB w o c (.slice A l.length cap) l) (k : Nat) {kh : IntKind} (hx : a.eval x = .slice A l.length cap) (hhi : a.eval hi = .int kh k) (hk : k ≤ l.length)
    (h : ∀ A', RdB w o c (.slice A' k cap) (l.take k) → wpList Try.prog ops Q rest (a.put op.dst (.slice A' k cap)) w) : wpList Try.prog ops Q (op :: rest) a w :=
  slcH slB x hi hgd hop hrd k hx hhi hk fun A' h1 => h A' (by unfold RdB; rw [List.length_take, Nat.min_eq_left hk]; simpa [vbs, List.map_take] using h1)
theorem slcBLH (hgd : Region.wanted op (yielded ops a.tmps) = true) (hop : op.op = .slice 22 x (some lo) (some hi) none) (hrd : RdB w o c (.slice A l.length cap) l) (i k : Nat) {kl kh : IntKind} (hx : a.eval x = .slice A l.length cap) (hlo : a.eval lo = .int kl i) (hhi : a.eval hi = .int kh k) (hl : i ≤ k) (hk : k ≤ l.length)
    (h : ∀ A', RdB w o c (.slice A' (k - i) (cap - i)) ((l.drop i).take (k - i)) → wpList Try.prog ops Q rest (a.put op.dst (.slice A' (k - i) (cap - i))) w) : wpList Try.prog ops Q (op :: rest) a w :=
  slcLH slB x lo hi hgd hop hrd i k hx hlo hhi hl hk fun A' h1 => h A' (by unfold RdB; rw [List.length_take, List.length_drop, Nat.min_eq_left (by omega)]; simpa [vbs, List.map_take, List.map_drop] using h1)
end
/-! ### What is owned is written, and cut at its end -/
theorem OwnB.store {w : World} {o : Col} {c n cap : Nat} {A : Option Addr} {l : List UInt8} (h : OwnB w o c (.slice A n cap) l) {j : Nat} (hj : j < l.length) :
    ∃ g, A = some ⟨g, 0, none⟩ ∧ w.cell? ⟨g, j, none⟩ = some (.int .u8 ((l[j]).toNat : Int)) ∧ w.frozen? ⟨g, j, none⟩ = false ∧
      ∀ b : UInt8, OwnB (w.setCell ⟨g, j, none⟩ (.int .u8 (b.toNat : Int))) o c (.slice A n cap) (l.set j b) ∧ Stp [c] w o (w.setCell ⟨g, j, none⟩ (.int .u8 (b.toNat : Int))) o := by
  have hn : n = l.length := by obtain ⟨A', cap', e⟩ := h.shape; injection e
  subst hn
  rcases h.own.2 with ⟨hv, h0⟩ | ⟨g, cap', cur, hv, hb, hg, hnc, hcm, hcs, ht⟩
  · omega
  · injection hv with hA _ hc
    subst hA
    subst hc
    have hcell := h.own.cells (g := g) rfl j _ (vbs_at hj)
    rw [Addr.add_lit, Nat.zero_add] at hcell
    refine ⟨g, rfl, hcell, blk_free hg j, fun b => ⟨⟨?_, vbs_one _, h.col⟩, (Stp.refl [c] w o).setCell (fun _ => by rw [h.col g rfl]; simp) _⟩⟩
    have e1 : (vbs l).set j (.int .u8 (b.toNat : Int)) = vbs (l.set j b) := by simp [vbs, List.map_set]
    rw [← e1, List.length_set]
    refine ⟨by rw [List.length_set]; exact h.own.1, .inr ⟨g, cap, cur.setIfInBounds j (.int .u8 (b.toNat : Int)), rfl, hb, blk_set hg _, hnc, hcm, by simpa using hcs, ?_⟩⟩
    rw [Array.toList_setIfInBounds, ← ht, List.take_set]
theorem Own.cut {w : World} {o : Col} {c e sz n cap : Nat} {A : Option Addr} {vals : List Value} (h : Own w o c e sz (.slice A n cap) n vals) (k : Nat) (hk : k ≤ n) : Own w o c e sz (.slice A k cap) k (vals.take (k * sz)) := by
  refine ⟨⟨by rw [List.length_take, h.own.1]; exact Nat.min_eq_left (Nat.mul_le_mul_right _ hk), ?_⟩, fun u hu => h.one u (List.mem_of_mem_take hu), fun g hg => h.col g (by cases A <;> exact hg)⟩
  rcases h.own.2 with ⟨hv, hn⟩ | ⟨g, cap', cur, hv, hb, hg, hnc, hcm, hcs, ht⟩
  · injection hv with hA _ hc
    subst hA
    subst hc
    have : k = 0 := by omega
    subst this
    exact .inl ⟨rfl, rfl⟩
  · injection hv with hA _ hc
    subst hA
    subst hc
    exact .inr ⟨g, cap, cur, rfl, hb, hg, by omega, hcm, hcs, by rw [← ht, List.take_take, Nat.min_eq_left (Nat.mul_le_mul_right _ hk)]⟩
theorem cutB {w : World} {o : Col} {ops : Array Oper} {rest : List Oper} {op : Oper} {a : Act} {Q : Exit → Act → World → Prop} {c cap : Nat} {A : Option Addr} {l : List UInt8} (x hi : Operand)
    (hgd : Region.wanted op (yielded ops a.tmps) = true) (hop : op.op = .slice 22 x none (some hi) none) (hown : OwnB w o c (.slice A l.length cap) l) (k : Nat) {kh : IntKind} (hx : a.eval x = .slice A l.length cap) (hhi : a.eval hi = .int kh k) (hk : k ≤ l.length)
    (h : OwnB w o c (.slice A k cap) (l.take k) → wpList Try.prog ops Q rest (a.put op.dst (.slice A k cap)) w) : wpList Try.prog ops Q (op :: rest) a w := by
  obtain ⟨he, hu⟩ := slB.elem
  obtain ⟨i, hi', _, hsz, _⟩ := slB.info
  refine wpList_w hgd fun K hK => ?_
  have hs := Own.cut hown k hk
  have hcap : l.length ≤ cap := by
    obtain ⟨A', cap', e, hnc, _⟩ := (OwnB.rd hown).shape
    injection e with _ _ e3
    omega
  have hrun := run_slice_h (P := Try.prog) w 22 A l.length cap hu kh k (by omega) (by omega)
  rw [Int.toNat_natCast] at hrun
  have hAA : (if cap = 0 then A else A.map (·.add (0 * 1))) = A := by
    split
    · rfl
    · cases A <;> rfl
  unfold Oper.wp
  simp only [execOp, hop, hx, hhi, Option.map_some, Option.map_none, Sem.run_bind, run_sliceAt_slice _ _ _ _ _ _ hu, hrun, he, sizeOf, typeInfo, hi', hsz, Result.andThen, sliced]
  have hf : OwnB w o c (.slice A k cap) (l.take k) := by
    unfold OwnB
    rw [List.length_take, Nat.min_eq_left hk]
    simpa [vbs, List.map_take] using hs
  have := h hf
  simp [hi', hsz]
  exact hK _ _ (by cases A <;> simpa [Addr.add] using this)
/-- 'b[l:]' of bytes whatever they are. -/
theorem slcRaw {w : World} {ops : Array Oper} {rest : List Oper} {op : Oper} {a : Act} {Q : Exit → Act → World → Prop} {n cap : Nat} {A : Option Addr} (x lo : Operand)
    (hgd : Region.wanted op (yielded ops a.tmps) = true) (hop : op.op = .slice 22 x (some lo) none none) (l : Nat) {kl : IntKind} (hx : a.eval x = .slice A n cap) (hlo : a.eval lo = .int kl l) (hl : l ≤ n)
    (h : ∀ A', (l < cap → A' = A.map (·.add l)) → wpList Try.prog ops Q rest (a.put op.dst (.slice A' (n - l) (cap - l))) w) : wpList Try.prog ops Q (op :: rest) a w := by
  obtain ⟨he, hu⟩ := slB.elem
  obtain ⟨i, hi, _, hsz, _⟩ := slB.info
  refine wpList_w hgd fun K hK => ?_
  have hrun := run_slice_l (P := Try.prog) w 22 A n cap hu kl l (by omega) (by omega)
  rw [Int.toNat_natCast] at hrun
  unfold Oper.wp
  simp [execOp, hop, hx, hlo, run_sliceAt_slice _ _ _ _ _ _ hu, hrun, he, sizeOf, typeInfo, hi, hsz, Result.andThen, sliced]
  exact hK _ _ (h _ (fun hlt => by rw [if_neg (by omega)]))

/-! ### 'copy' into a block that is known whole -/
theorem setRow_stp {C : List Nat} {w : World} {o : Col} {g : Nat} (h : o g ∈ C) (cs : Array Value) : Stp C w o (w.setRow g cs) o :=
  ⟨rfl, rfl, rfl, by simp [World.setRow], fun _ _ => rfl, fun k _ hn => setRow_other w g k cs (fun e => hn (by subst e; exact h))⟩
theorem copyB {w : World} {o : Col} {ops : Array Oper} {rest : List Oper} {op : Oper} {a : Act} {Q : Exit → Act → World → Prop} {c c2 g off dLen dCap t : Nat} {dp : Option Addr} {v : Value} {l : List UInt8} {cur : List Value} (x y : Operand)
    (hgd : op.guard = none) (hop : op.op = .call { callee := .builtin .copy, args := #[x, y], argTypes := #[22, 22] })
    (hd : a.eval x = .slice dp dLen dCap) (hs : a.eval y = v) (hrd : RdB w o c2 v l) (hg : w.heap[g]? = some (.cells cur.toArray t (0, 0))) (hc : o g = c) (hle : l.length ≤ dLen) (hp : 0 < dLen → dp = some ⟨g, off, none⟩) (hfit : off + l.length ≤ cur.length)
    (h : ∀ w', Stp [c] w o w' o → w'.heap[g]? = some (.cells (cur.take off ++ (vbs l ++ cur.drop (off + l.length))).toArray t (0, 0)) → wpList Try.prog ops Q rest (a.put op.dst (.int .i64 (l.length : Int))) w') : wpList Try.prog ops Q (op :: rest) a w := by
  have hsz : (Try.prog.info? 5).map (·.size) = some 1 := by kernel_rfl
  obtain ⟨_, _, _, A, cap, rfl, hlc, hA, hcells⟩ := hrd
  by_cases h0 : l.length = 0
  · have hl : l = [] := List.eq_nil_of_length_eq_zero h0
    subst hl
    refine wpList_copy_nothing hgd x y _ _ hop 5 Try.underlying22 hsz dp A dLen dCap _ cap hd hs (by simp) ?_
    exact h w (Stp.refl _ _ _) (by simpa [vbs] using hg)
  · obtain ⟨ad, rfl, _, _, hcell⟩ := hcells (by omega)
    rw [hp (by omega)] at hd
    refine wpList_copy_own hgd x y _ _ hop 5 Try.underlying22 hsz g off dLen dCap ad l.length cap hd hs cur.toArray t hg (vbs l) (by rw [vbs_length]; exact (Nat.min_eq_left hle).symm) hcell (by rw [vbs_length]; simpa using hfit) (vbs_one l) ?_
    have := h _ (setRow_stp (by rw [hc]; simp) _) (setRow_heap w g cur.toArray (cur.take off ++ (vbs l ++ cur.drop (off + l.length))).toArray t (0, 0) hg)
    rw [vbs_length]
    simpa [goInt] using this
end Go.Proofs.Ytpjnmijfmfgdpaa
