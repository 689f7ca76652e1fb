/- Frames, rows of bytes and rows of acts (chapter 15) that came in, read as the walks want them. -/
import Derived.Test.YtcbecidcfbhkfaaReadP
import Derived.Test.YtcbecidcfbhkfaaBase
namespace Go.Proofs.Ytcbecidcfbhkfaa
set_option linter.unusedVariables false
set_option linter.unusedSimpArgs false
open Go.ChangeShapes Go.WideShapes Go.ChangeAt Go.RowKit Go.Deep

/-- Rows of bytes that are read: colour c. -/
def Rows15 (w : World) (o : Col) (c : Nat) (v : Value) (ls : List (List UInt8)) : Prop :=
  ∃ A cap, v = .slice A ls.length cap ∧ ls.length ≤ cap ∧ ls.length ≤ 9223372036854775807 ∧ ∀ (k : Nat) (q : List UInt8), ls[k]? = some q → ∃ a vd, A = some a ∧ o a.block = c ∧ w.cell? (a.add k) = some vd ∧ RdB w o c vd q
theorem Rows15.stp {C : List Nat} {w w1 : World} {o o1 : Col} {c : Nat} {v : Value} {ls : List (List UInt8)} (h : Rows15 w o c v ls) (hs : Stp C w o w1 o1) (hn : c ∉ C) : Rows15 w1 o1 c v ls := by
  obtain ⟨A, cap, h1, h2, h3, h4⟩ := h
  refine ⟨A, cap, h1, h2, h3, fun k x hx => ?_⟩
  obtain ⟨a, vd, e, ha, c1, hr⟩ := h4 k x hx
  have hb := (hs.colc c1)
  rw [add_block] at hb
  exact ⟨a, vd, e, hb.trans ha, hs.cell c1 (by rw [add_block, ha]; exact hn), hr.stp hs hn⟩
/-- An act: a frame, how much later. -/
structure ActF where
  id : Int
  d : List UInt8
  later : Int
/-- A row of acts that is read: colour c. -/
def Acts15 (w : World) (o : Col) (c : Nat) (v : Value) (l : List ActF) : Prop :=
  ∃ A cap, v = .slice A l.length cap ∧ l.length ≤ cap ∧ l.length ≤ 9223372036854775807 ∧ ∀ (k : Nat) (x : ActF), l[k]? = some x → (Lit.int .i64 x.id).wf = true ∧ (Lit.int .i64 x.later).wf = true ∧ ∃ a vd, A = some a ∧ o a.block = c ∧
    w.cell? (a.add (k * 3)) = some (.int .i64 x.id) ∧ w.cell? (a.add (k * 3 + 1)) = some vd ∧ w.cell? (a.add (k * 3 + 2)) = some (.int .i64 x.later) ∧ RdB w o c vd x.d
theorem Acts15.stp {C : List Nat} {w w1 : World} {o o1 : Col} {c : Nat} {v : Value} {l : List ActF} (h : Acts15 w o c v l) (hs : Stp C w o w1 o1) (hn : c ∉ C) : Acts15 w1 o1 c v l := by
  obtain ⟨A, cap, h1, h2, h3, h4⟩ := h
  refine ⟨A, cap, h1, h2, h3, fun k x hx => ?_⟩
  obtain ⟨w1, w2, a, vd, e, ha, c1, c2, c3, hr⟩ := h4 k x hx
  have hb := (hs.colc c1)
  rw [add_block] at hb
  exact ⟨w1, w2, a, vd, e, hb.trans ha, hs.cell c1 (by rw [add_block, ha]; exact hn), hs.cell c2 (by rw [add_block, ha]; exact hn), hs.cell c3 (by rw [add_block, ha]; exact hn), hr.stp hs hn⟩

theorem list_of {α : Type} {p : Nat → α → Prop} (n : Nat) (h : ∀ k, k < n → ∃ x, p k x) : ∃ l : List α, l.length = n ∧ ∀ k x, l[k]? = some x → p k x := by
  induction n with
  | zero => exact ⟨[], rfl, by simp⟩
  | succ n ih =>
    obtain ⟨l, h1, h2⟩ := ih (fun k hk => h k (by omega))
    obtain ⟨y, hy⟩ := h n (by omega)
    refine ⟨l ++ [y], by simp [h1], fun k x hk => ?_⟩
    by_cases hkl : k < l.length
    · rw [List.getElem?_append_left hkl] at hk
      exact h2 k x hk
    · rw [List.getElem?_append_right (by omega)] at hk
      have hk0 : k - l.length = 0 := by
        have := (List.getElem?_eq_some_iff.1 hk).1
        simp at this
        omega
      rw [hk0] at hk
      simp only [List.getElem?_cons_zero, Option.some.injEq] at hk
      subst hk
      have : k = n := by omega
      subst this
      exact hy
section
variable {H : Type} {enc : TypeId × Value → H} {W : World} {fuel : Nat} {v : Value} {x : DataW H × List MemPlace}
theorem read_frame {n : Nat} {cs : List Value} {y : DataW H × List MemPlace} (h : DataW.trod enc Try.prog W 0 (fun _ => true) true n 37 cs = some y) :
    ∃ id vd l, cs = [.int .i64 id, vd] ∧ (Lit.int .i64 id).wf = true ∧ RdB W (fun _ => 0) 0 vd l := by
  obtain ⟨xs, m, _, _, hl, hxl, hf⟩ := DataW.trod_struct Try.underlying37 h
  have hC : Try.prog.cellsOf 37 = 2 := by kernel_rfl
  rw [hC] at hl
  obtain ⟨v0, v1, rfl⟩ : ∃ v0 v1, cs = [v0, v1] := by
    match cs, hl with
    | [v0, v1], _ => exact ⟨_, _, rfl⟩
  have hi : Try.prog.cellsOf 3 = 1 := by kernel_rfl
  have hb : Try.prog.cellsOf 22 = 1 := by kernel_rfl
  have ho : xs.length = 2 := hxl
  match xs, ho with
  | [x0, x1], _ =>
    have fld : ∀ (i : Nat) (F : Field) (t : TypeId), _ → F.type = t → F.offset = i → Try.prog.cellsOf t = 1 → DataW.trod enc Try.prog W 0 (fun _ => true) true m t (([v0, v1].drop i).take 1) = [x0, x1][i]? := fun i F t hF ht ho hc => by
      have := hf i F hF
      rw [ht, ho, hc] at this
      exact this
    have f0 := fld 0 _ 3 rfl rfl rfl hi
    have f1 := fld 1 _ 22 rfl rfl rfl hb
    obtain ⟨a0, e0, _, w0⟩ := DataW.trod_int Try.underlying3 f0
    obtain ⟨l1, h1⟩ := read_bytes f1
    simp at e0
    subst e0
    exact ⟨a0, v1, l1, rfl, w0, h1⟩
theorem read_rows15 (h : DataW.trod enc Try.prog W 0 (fun _ => true) true fuel 52 [v] = some x) : ∃ ls, Rows15 W (fun _ => 0) 0 v ls := by
  rcases open_slice1 Try.underlying52 (by kernel_rfl) h with ⟨hcs, _⟩ | ⟨a, len, cap, m, n, V, D, Pl, hcs, _, hl, hm, hmm, _, hV⟩
  · injection hcs with hcs
    subst hcs
    exact ⟨[], none, 0, rfl, Nat.le_refl _, by simp, by simp⟩
  · injection hcs with hcs
    subst hcs
    simp only [if_true] at hmm
    subst hmm
    simp only [maxLen] at hm
    obtain ⟨l, h1, h2⟩ := list_of (p := fun k q => W.cell? (a.add k) = some (V k) ∧ RdB W (fun _ => 0) 0 (V k) q) len (fun k hk => by
      obtain ⟨g1, g2⟩ := hV k (by omega)
      obtain ⟨q, hq⟩ := read_bytes g2
      exact ⟨q, g1, hq⟩)
    exact ⟨l, some a, m, by rw [h1], by omega, by omega, fun k q hk => ⟨a, V k, rfl, rfl, (h2 k q hk).1, (h2 k q hk).2⟩⟩
theorem read_act15 {n : Nat} {cs : List Value} {y : DataW H × List MemPlace} (h : DataW.trod enc Try.prog W 0 (fun _ => true) true n 46 cs = some y) :
    ∃ id vd l later, cs = [.int .i64 id, vd, .int .i64 later] ∧ (Lit.int .i64 id).wf = true ∧ (Lit.int .i64 later).wf = true ∧ RdB W (fun _ => 0) 0 vd l := by
  obtain ⟨xs, m, _, _, hl, hxl, hf⟩ := DataW.trod_struct Try.underlying46 h
  have hC : Try.prog.cellsOf 46 = 3 := by kernel_rfl
  rw [hC] at hl
  obtain ⟨v0, v1, v2, rfl⟩ : ∃ v0 v1 v2, cs = [v0, v1, v2] := by
    match cs, hl with
    | [v0, v1, v2], _ => exact ⟨_, _, _, rfl⟩
  have hi : Try.prog.cellsOf 3 = 1 := by kernel_rfl
  have hb : Try.prog.cellsOf 37 = 2 := by kernel_rfl
  have ho : xs.length = 2 := hxl
  match xs, ho with
  | [x0, x1], _ =>
    have fld : ∀ (i off sz : Nat) (F : Field) (t : TypeId), _ → F.type = t → F.offset = off → Try.prog.cellsOf t = sz → DataW.trod enc Try.prog W 0 (fun _ => true) true m t (([v0, v1, v2].drop off).take sz) = [x0, x1][i]? := fun i off sz F t hF ht ho hc => by
      have := hf i F hF
      rw [ht, ho, hc] at this
      exact this
    have f0 := fld 0 0 2 _ 37 rfl rfl rfl hb
    have f1 := fld 1 2 1 _ 3 rfl rfl rfl hi
    obtain ⟨id, vd, l, e, w0, hr⟩ := read_frame f0
    obtain ⟨a1, e1, _, w1⟩ := DataW.trod_int Try.underlying3 f1
    simp at e e1
    obtain ⟨rfl, rfl⟩ := e
    subst e1
    exact ⟨id, v1, l, a1, rfl, w0, w1, hr⟩
theorem read_acts15 (h : DataW.trod enc Try.prog W 0 (fun _ => true) true fuel 40 [v] = some x) : ∃ l, Acts15 W (fun _ => 0) 0 v l := by
  rcases open_slice Try.underlying40 h with ⟨hcs, _⟩ | ⟨a, len, cap, m, n, D, Pl, hcs, hb, hl, hm, hmm, hx, hi⟩
  · injection hcs with hcs
    subst hcs
    exact ⟨[], none, 0, rfl, Nat.le_refl _, by simp, by simp⟩
  · injection hcs with hcs
    subst hcs
    simp only [if_true] at hmm
    subst hmm
    simp only [maxLen] at hm
    have hC : Try.prog.cellsOf 46 = 3 := by kernel_rfl
    obtain ⟨l, h1, h2⟩ := list_of (p := fun k (x : ActF) => (Lit.int .i64 x.id).wf = true ∧ (Lit.int .i64 x.later).wf = true ∧ ∃ vd, W.cell? (a.add (k * 3)) = some (.int .i64 x.id) ∧ W.cell? (a.add (k * 3 + 1)) = some vd ∧ W.cell? (a.add (k * 3 + 2)) = some (.int .i64 x.later) ∧ RdB W (fun _ => 0) 0 vd x.d) len (fun k hk => by
      obtain ⟨cs', g1, g2⟩ := hi k (by omega)
      rw [hC] at g1
      obtain ⟨id, vd, q, later, rfl, w0, w1, hr⟩ := read_act15 g2
      obtain ⟨_, _, h5⟩ := World.cells?_some g1
      have c0 := h5 0 (by omega)
      have c1 := h5 1 (by omega)
      have c2 := h5 2 (by omega)
      rw [add_add] at c0 c1 c2
      exact ⟨⟨id, q, later⟩, w0, w1, vd, c0, c1, c2, hr⟩)
    refine ⟨l, some a, m, by rw [h1], by omega, by omega, fun k x hk => ?_⟩
    obtain ⟨g1, g2, vd, g3, g4, g5, g6⟩ := h2 k x hk
    exact ⟨g1, g2, a, vd, rfl, rfl, g3, g4, g5, g6⟩
end
end Go.Proofs.Ytcbecidcfbhkfaa
