/- SHA-256: plain, in the model's own words of arithmetic; words in memory. -/
import Derived.Test.YtpjnmijfmfgdpaaBase
namespace Go.Proofs.Ytpjnmijfmfgdpaa
set_option linter.unusedVariables false
set_option linter.unusedSimpArgs false
open Go.RowKit

/-- A word turned to the right. -/
def rotI (x : Int) (n : Nat) : Int := bits .or .u32 (x / 2 ^ n) (x * 2 ^ (32 - n) % 4294967296)
def s0I (x : Int) : Int := bits .xor .u32 (bits .xor .u32 (rotI x 7) (rotI x 18)) (x / 8)
def s1I (x : Int) : Int := bits .xor .u32 (bits .xor .u32 (rotI x 17) (rotI x 19)) (x / 1024)
def b0I (x : Int) : Int := bits .xor .u32 (bits .xor .u32 (rotI x 2) (rotI x 13)) (rotI x 22)
def b1I (x : Int) : Int := bits .xor .u32 (bits .xor .u32 (rotI x 6) (rotI x 11)) (rotI x 25)
def chI (x y z : Int) : Int := bits .xor .u32 (bits .and .u32 x y) (bits .and .u32 (bits .xor .u32 IntKind.u32.max x) z)
def mjI (x y z : Int) : Int := bits .xor .u32 (bits .xor .u32 (bits .and .u32 x y) (bits .and .u32 x z)) (bits .and .u32 y z)
/-- A word. -/
def U (x : Int) : Prop := 0 ≤ x ∧ x < 4294967296
theorem U.mod (x : Int) : U (x % 4294967296) := by unfold U; omega
theorem U.bits (op : BinOp) (x y : Int) : U (bits op .u32 x y) := by
  unfold U Go.bits
  rw [IntKind.wrap_u32]
  omega
/-- The word of four bytes. -/
def wordI (a b c d : Int) : Int := bits .or .u32 (bits .or .u32 (bits .or .u32 (a * 16777216) (b * 65536)) (c * 256)) d
def byI (b : List UInt8) (j : Nat) : Int := ((b.getD j 0).toNat : Int)
/-- The block's words, the first n of them laid. -/
def loadI (b : List UInt8) : Nat → List Int
  | 0 => List.replicate 64 0
  | n + 1 => (loadI b n).set n (wordI (byI b (4 * n)) (byI b (4 * n + 1)) (byI b (4 * n + 2)) (byI b (4 * n + 3)))
/-- The further words, n of them laid. -/
def moreI (L : List Int) : Nat → List Int
  | 0 => L
  | n + 1 => (moreI L n).set (n + 16) (((((moreI L n).getD n 0 + s0I ((moreI L n).getD (n + 1) 0)) % 4294967296 + (moreI L n).getD (n + 9) 0) % 4294967296 + s1I ((moreI L n).getD (n + 14) 0)) % 4294967296)
structure S8 where
  a : Int
  b : Int
  c : Int
  d : Int
  e : Int
  f : Int
  g : Int
  h : Int
def S8.l (v : S8) : List Int := [v.a, v.b, v.c, v.d, v.e, v.f, v.g, v.h]
def S8.of (l : List Int) : S8 := ⟨l.getD 0 0, l.getD 1 0, l.getD 2 0, l.getD 3 0, l.getD 4 0, l.getD 5 0, l.getD 6 0, l.getD 7 0⟩
def t1I (k w : Int) (v : S8) : Int := ((((v.h + b1I v.e) % 4294967296 + chI v.e v.f v.g) % 4294967296 + k) % 4294967296 + w) % 4294967296
def t2I (v : S8) : Int := (b0I v.a + mjI v.a v.b v.c) % 4294967296
def roundI (k w : Int) (v : S8) : S8 := ⟨(t1I k w v + t2I v) % 4294967296, v.a, v.b, v.c, (v.d + t1I k w v) % 4294967296, v.e, v.f, v.g⟩
def roundsI (K W : List Int) (v : S8) : Nat → S8
  | 0 => v
  | n + 1 => roundI (K.getD n 0) (W.getD n 0) (roundsI K W v n)
/-- Two states added, the first n words of them. -/
def addI (s v : List Int) : Nat → List Int
  | 0 => s
  | n + 1 => (addI s v n).set n (((addI s v n).getD n 0 + v.getD n 0) % 4294967296)
def blockI (K s : List Int) (b : List UInt8) : List Int := addI s (roundsI K (moreI (loadI b 16) 48) (S8.of s) 64).l 8

theorem getD_U {l : List Int} (h : ∀ x ∈ l, U x) (i : Nat) : U (l.getD i 0) := by
  rw [List.getD_eq_getElem?_getD]
  cases hq : l[i]? with
  | none => exact ⟨by simp, by simp⟩
  | some x => exact h x (List.mem_of_getElem? hq)
theorem set_U {l : List Int} (h : ∀ x ∈ l, U x) (i : Nat) {x : Int} (hx : U x) : ∀ y ∈ l.set i x, U y := by
  intro y hy
  rcases List.mem_or_eq_of_mem_set hy with hy | hy
  · exact h y hy
  · subst hy; exact hx
theorem loadI_len (b : List UInt8) (n : Nat) : (loadI b n).length = 64 := by
  induction n with
  | zero => simp [loadI]
  | succ n ih => simp [loadI, ih]
theorem loadI_U (b : List UInt8) (n : Nat) : ∀ x ∈ loadI b n, U x := by
  induction n with
  | zero => intro x hx; rw [List.eq_of_mem_replicate hx]; exact ⟨by omega, by omega⟩
  | succ n ih => exact set_U ih n (U.bits _ _ _)
theorem moreI_len (L : List Int) (n : Nat) : (moreI L n).length = L.length := by
  induction n with
  | zero => rfl
  | succ n ih => simp [moreI, ih]
theorem moreI_U {L : List Int} (h : ∀ x ∈ L, U x) (n : Nat) : ∀ x ∈ moreI L n, U x := by
  induction n with
  | zero => exact h
  | succ n ih => exact set_U ih _ (U.mod _)
def S8.ok (v : S8) : Prop := U v.a ∧ U v.b ∧ U v.c ∧ U v.d ∧ U v.e ∧ U v.f ∧ U v.g ∧ U v.h
theorem S8.of_ok {l : List Int} (h : ∀ x ∈ l, U x) : (S8.of l).ok := ⟨getD_U h 0, getD_U h 1, getD_U h 2, getD_U h 3, getD_U h 4, getD_U h 5, getD_U h 6, getD_U h 7⟩
theorem S8.of_l {l : List Int} (h : l.length = 8) : (S8.of l).l = l := by
  match l, h with
  | [a, b, c, d, e, f, g, i], _ => rfl
theorem S8.l_U {v : S8} (h : v.ok) : ∀ x ∈ v.l, U x := by
  obtain ⟨h1, h2, h3, h4, h5, h6, h7, h8⟩ := h
  intro x hx
  simp only [S8.l, List.mem_cons, List.not_mem_nil, or_false] at hx
  rcases hx with rfl | rfl | rfl | rfl | rfl | rfl | rfl | rfl <;> assumption
theorem roundsI_ok (K W : List Int) {v : S8} (h : v.ok) (n : Nat) : (roundsI K W v n).ok := by
  induction n with
  | zero => exact h
  | succ n ih =>
    obtain ⟨h1, h2, h3, h4, h5, h6, h7, h8⟩ := ih
    exact ⟨U.mod _, h1, h2, h3, U.mod _, h5, h6, h7⟩
theorem addI_len (s v : List Int) (n : Nat) : (addI s v n).length = s.length := by
  induction n with
  | zero => rfl
  | succ n ih => simp [addI, ih]
theorem addI_U {s : List Int} (v : List Int) (h : ∀ x ∈ s, U x) (n : Nat) : ∀ x ∈ addI s v n, U x := by
  induction n with
  | zero => exact h
  | succ n ih => exact set_U ih _ (U.mod _)
theorem blockI_len {K s : List Int} (b : List UInt8) (h : s.length = 8) : (blockI K s b).length = 8 := by rw [blockI, addI_len, h]
theorem blockI_U {K s : List Int} (b : List UInt8) (h : ∀ x ∈ s, U x) : ∀ x ∈ blockI K s b, U x := addI_U _ h 8

/-! ### In memory -/
def us (l : List Int) : List Value := l.map (Value.int .u32)
/-- Words in a block. -/
structure Wd (w : World) (o : Col) (c p t : Nat) (l : List Int) : Prop where
  blk : w.heap[p]? = some (.cells (us l).toArray t (0, 0))
  col : o p = c
  rng : ∀ x ∈ l, U x
theorem Wd.stp {C : List Nat} {w w1 : World} {o o1 : Col} {c p t : Nat} {l : List Int} (h : Wd w o c p t l) (hs : Stp C w o w1 o1) (hn : c ∉ C) : Wd w1 o1 c p t l :=
  ⟨hs.blk h.blk (by rw [h.col]; exact hn), (hs.colb h.blk).trans h.col, h.rng⟩
theorem Wd.cell {w : World} {o : Col} {c p t : Nat} {l : List Int} (h : Wd w o c p t l) {i : Nat} (hi : i < l.length) : w.cell? ⟨p, i, none⟩ = some (.int .u32 (l.getD i 0)) := by
  rw [blk_cell h.blk]
  simp [us, List.getElem?_eq_getElem hi]
theorem Wd.free {w : World} {o : Col} {c p t : Nat} {l : List Int} (h : Wd w o c p t l) (i : Nat) : w.frozen? ⟨p, i, none⟩ = false := blk_free h.blk i
theorem Wd.set {w : World} {o : Col} {c p t : Nat} {l : List Int} (h : Wd w o c p t l) (i : Nat) {x : Int} (hx : U x) : Wd (w.setCell ⟨p, i, none⟩ (.int .u32 x)) o c p t (l.set i x) ∧ Stp [c] w o (w.setCell ⟨p, i, none⟩ (.int .u32 x)) o := by
  refine ⟨⟨?_, h.col, set_U h.rng i hx⟩, (Stp.refl [c] w o).setCell (fun _ => by simp [h.col]) _⟩
  have := blk_set (j := i) h.blk (.int .u32 x)
  rw [this]
  simp [us, List.map_set]
theorem Wd.new (w : World) (o : Col) (c t : Nat) (l : List Int) (h : ∀ x ∈ l, U x) : Wd (w.alloc (.cells (us l).toArray t)) (paint o w.heap.size c) c w.heap.size t l := ⟨heap_alloc_new _ _, paint_at _ _ _, h⟩
end Go.Proofs.Ytpjnmijfmfgdpaa
