/- Rows of acts (chapter 12), as an argument that came in, read as the walks want them. -/
import Derived.Test.YtpjnmijfmfgdpaaRead
namespace Go.Proofs.Ytpjnmijfmfgdpaa
set_option linter.unusedVariables false
set_option linter.unusedSimpArgs false
open Go.ChangeShapes Go.WideShapes Go.ChangeAt Go.RowKit Go.Deep

/-- An act: its four cells; b: what its bytes (vb) read as. -/
structure ActM where
  kind : Int
  vb : Value
  b : List UInt8
  n : Int
  tear : Int
def ActM.cells (a : ActM) : List Value := [.int .i64 a.kind, a.vb, .int .i64 a.n, .int .i64 a.tear]
/-- A row of acts that is read: colour c. -/
structure ActsM (w : World) (o : Col) (c : Nat) (v : Value) (l : List ActM) : Prop where
  is : ∃ A cap, v = .slice A l.length cap ∧ l.length ≤ cap ∧ l.length ≤ 9223372036854775807 ∧ (0 < l.length → ∃ a, A = some a ∧ o a.block = c ∧ ∀ (k : Nat) (x : ActM), l[k]? = some x → ∀ (j : Nat) (u : Value), x.cells[j]? = some u → w.cell? (a.add (k * 4 + j)) = some u)
  byt : ∀ x ∈ l, RdB w o c x.vb x.b ∧ x.n ≤ 9223372036854775807
theorem ActsM.stp {C : List Nat} {w w1 : World} {o o1 : Col} {c : Nat} {v : Value} {l : List ActM} (h : ActsM w o c v l) (hs : Stp C w o w1 o1) (hn : c ∉ C) : ActsM w1 o1 c v l := by
  obtain ⟨⟨A, cap, h1, h2, h3, h4⟩, h5⟩ := h
  refine ⟨⟨A, cap, h1, h2, h3, fun h0 => ?_⟩, fun x hx => ⟨(h5 x hx).1.stp hs hn, (h5 x hx).2⟩⟩
  obtain ⟨a, e, ha, hc⟩ := h4 h0
  have hcell := hc 0 l[0] (by simp [h0]) 0 _ rfl
  rw [show a.add (0 * 4 + 0) = a from rfl] at hcell
  exact ⟨a, e, (hs.colc hcell).trans ha, fun k x hk j u hu => hs.cell (hc k x hk j u hu) (by rw [add_block, ha]; exact hn)⟩

theorem four_of {α : Type} {l : List α} (h : l.length = 4) : ∃ a b c d, l = [a, b, c, d] := by
  rcases l with _ | ⟨a, _ | ⟨b, _ | ⟨c, _ | ⟨d, _ | ⟨e, t⟩⟩⟩⟩⟩
  · cases h
  · cases h
  · cases h
  · cases h
  · exact ⟨a, b, c, d, rfl⟩
  · simp at h
section
variable {H : Type} {enc : TypeId × Value → H} {W : World} {fuel : Nat} {v : Value} {x : DataW H × List MemPlace}
theorem read_actM {n : Nat} {cs : List Value} {y : DataW H × List MemPlace} (h : DataW.trod enc Try.prog W 0 (fun _ => true) true n 49 cs = some y) :
    ∃ a : ActM, cs = a.cells ∧ RdB W (fun _ => 0) 0 a.vb a.b ∧ a.n ≤ 9223372036854775807 := by
  obtain ⟨xs, m, _, _, hl, hxl, hf⟩ := DataW.trod_struct Try.underlying49 h
  have hC : Try.prog.cellsOf 49 = 4 := by kernel_rfl
  rw [hC] at hl
  obtain ⟨v0, v1, v2, v3, rfl⟩ : ∃ v0 v1 v2 v3, cs = [v0, v1, v2, v3] := four_of hl
  have hi : Try.prog.cellsOf 3 = 1 := by kernel_rfl
  have hb : Try.prog.cellsOf 22 = 1 := by kernel_rfl
  have ho : xs.length = 4 := hxl
  obtain ⟨x0, x1, x2, x3, rfl⟩ := four_of ho
  have fld : ∀ (i : Nat) (F : Field) (t : TypeId), _ → F.type = t → F.offset = i → Try.prog.cellsOf t = 1 → DataW.trod enc Try.prog W 0 (fun _ => true) true m t (([v0, v1, v2, v3].drop i).take 1) = [x0, x1, x2, x3][i]? := fun i F t hF ht ho hc => by
    have := hf i F hF
    rw [ht, ho, hc] at this
    exact this
  have f0 := fld 0 _ 3 rfl rfl rfl hi
  have f1 := fld 1 _ 22 rfl rfl rfl hb
  have f2 := fld 2 _ 3 rfl rfl rfl hi
  have f3 := fld 3 _ 3 rfl rfl rfl hi
  obtain ⟨a0, e0, _, w0⟩ := DataW.trod_int Try.underlying3 f0
  obtain ⟨l1, h1⟩ := read_bytes f1
  obtain ⟨a2, e2, _, w2⟩ := DataW.trod_int Try.underlying3 f2
  obtain ⟨a3, e3, _, w3⟩ := DataW.trod_int Try.underlying3 f3
  simp at e0 e2 e3
  subst e0 e2 e3
  refine ⟨⟨a0, v1, l1, a2, a3⟩, rfl, h1, ?_⟩
  have h1 : IntKind.i64.min ≤ a2 ∧ a2 ≤ IntKind.i64.max := by simpa [Lit.wf] using w2
  exact h1.2
theorem read_actsM (h : DataW.trod enc Try.prog W 0 (fun _ => true) true fuel 46 [v] = some x) : ∃ l, ActsM W (fun _ => 0) 0 v l := by
  rcases open_slice Try.underlying46 h with ⟨hcs, _⟩ | ⟨a, len, cap, m, n, D, Pl, hcs, hb, hl, hm, hmm, hx, hi⟩
  · injection hcs with hcs
    subst hcs
    exact ⟨[], ⟨none, 0, rfl, by simp, by simp, by simp⟩, by simp⟩
  · injection hcs with hcs
    subst hcs
    simp only [if_true] at hmm
    subst hmm
    simp only [maxLen] at hm
    have hC : Try.prog.cellsOf 49 = 4 := by kernel_rfl
    have key : ∀ k, k < m → ∃ x : ActM, (∀ (j : Nat) (u : Value), x.cells[j]? = some u → W.cell? (a.add (k * 4 + j)) = some u) ∧ RdB W (fun _ => 0) 0 x.vb x.b ∧ x.n ≤ 9223372036854775807 := by
      intro k hk
      obtain ⟨cs', h1, h2⟩ := hi k hk
      rw [hC] at h1
      obtain ⟨y, rfl, h3, h4⟩ := read_actM h2
      obtain ⟨_, _, h5⟩ := World.cells?_some h1
      refine ⟨y, fun j u hu => ?_, h3, h4⟩
      have hj := (List.getElem?_eq_some_iff.1 hu).1
      rw [← add_add, h5 j (by simpa [ActM.cells] using hj)]
      exact hu
    have list : ∀ n, n ≤ m → ∃ l : List ActM, l.length = n ∧ ∀ (k : Nat) (x : ActM), l[k]? = some x → (∀ (j : Nat) (u : Value), x.cells[j]? = some u → W.cell? (a.add (k * 4 + j)) = some u) ∧ RdB W (fun _ => 0) 0 x.vb x.b ∧ x.n ≤ 9223372036854775807 := by
      intro n
      induction n with
      | zero => exact fun _ => ⟨[], rfl, by simp⟩
      | succ n ih =>
        intro hn
        obtain ⟨l, h1, h2⟩ := ih (by omega)
        obtain ⟨y, hy⟩ := key n (by omega)
        refine ⟨l ++ [y], by simp [h1], fun k x hk => ?_⟩
        by_cases hkl : k < l.length
        · rw [List.getElem?_append_left hkl] at hk
          exact h2 k x hk
        · rw [List.getElem?_append_right (by omega)] at hk
          have hk0 : k - l.length = 0 := by
            have := (List.getElem?_eq_some_iff.1 hk).1
            simp at this
            omega
          rw [hk0] at hk
          simp only [List.getElem?_cons_zero, Option.some.injEq] at hk
          subst hk
          have : k = n := by omega
          subst this
          exact hy
    obtain ⟨l, h1, h2⟩ := list len hl
    refine ⟨l, ⟨some a, m, by rw [h1], by omega, by omega, fun h0 => ⟨a, rfl, rfl, fun k x hk => (h2 k x hk).1⟩⟩, fun x hx => ?_⟩
    obtain ⟨k, hk, rfl⟩ := List.getElem_of_mem hx
    exact (h2 k _ (by simp [hk])).2
end
end Go.Proofs.Ytpjnmijfmfgdpaa
