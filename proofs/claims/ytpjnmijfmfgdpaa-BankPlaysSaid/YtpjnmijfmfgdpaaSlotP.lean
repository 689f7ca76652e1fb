/- Slots (chapter 12): plain. -/
import Derived.Test.YtpjnmijfmfgdpaaShaQ
import Derived.Test.YtpjnmijfmfgdpaaOctetN
import Derived.Test.YtpjnmijfmfgdpaaPageS
namespace Go.Proofs.Ytpjnmijfmfgdpaa
set_option linter.unusedVariables false
set_option linter.unusedSimpArgs false
open Go.RowKit

/-- A record as a slot's bytes. -/
def packB (n : Int) (b : List UInt8) : List UInt8 := enc (clamp n) ++ (enc (clamp b.length) ++ b)
def packS (n : Int) (b : List UInt8) : List UInt8 := packB n b ++ sha (packB n b)
theorem packB_len (n : Int) (b : List UInt8) : b.length + 2 ≤ (packB n b).length ∧ (packB n b).length ≤ b.length + 18 := by
  have h1 := enc_len9 n
  have h2 := enc_len9 b.length
  have h3 := enc_pos (clamp n)
  have h4 := enc_pos (clamp b.length)
  unfold packB
  simp only [List.length_append]
  omega
theorem packS_len (n : Int) (b : List UInt8) : b.length + 34 ≤ (packS n b).length ∧ (packS n b).length ≤ b.length + 50 := by
  have h := packB_len n b
  unfold packS
  rw [List.length_append, sha_len]
  omega
/-- The bytes of n pages from k on. -/
def pagesB (s : FS) (k : Nat) : Nat → List UInt8
  | 0 => []
  | n + 1 => pagesB s k n ++ readB s ((k + n : Nat) : Int)
theorem readB_le (s : FS) (h : s.ok) (i : Int) : (readB s i).length ≤ 64 := by
  unfold readB
  split
  · rw [List.getD_eq_getElem?_getD]
    cases hq : s.pg[i.toNat]? with
    | none => simp
    | some q => have := h.1 q (List.mem_of_getElem? hq); simp [this]
  · simp
theorem pagesB_le (s : FS) (h : s.ok) (k n : Nat) : (pagesB s k n).length ≤ 64 * n := by
  induction n with
  | zero => simp [pagesB]
  | succ n ih =>
    have := readB_le s h ((k + n : Nat) : Int)
    rw [pagesB, List.length_append]
    omega
/-- Do bytes begin with others? -/
def prefB (l m : List UInt8) : Bool := decide (m.length ≤ l.length) && (l.take m.length == m)
/-- What a slot's bytes tell: a record and its number, if it is whole. -/
def wholeP (p : List UInt8) : Option (List UInt8 × Nat) :=
  let x := nNum p false
  let y := nBytes x.2.1 x.2.2
  if y.2.2 = true ∨ x.1 < 1 ∨ 1073741824 < x.1 ∨ 2500 < y.1.length ∨ prefB p (packS (x.1 : Int) y.1) = false then none else some (y.1, x.1)
def wholeB (a : Option (List UInt8 × Nat)) : List UInt8 := match a with | some x => x.1 | none => []
def wholeN (a : Option (List UInt8 × Nat)) : Nat := match a with | some x => x.2 | none => 0
def wholeS (s : FS) (k : Nat) : Option (List UInt8 × Nat) := wholeP (pagesB s (k * 40) 40)
/-- The newest record of the first i slots, its number, and which slot that is. -/
def stepL (i : Nat) (a : Option (List UInt8 × Nat)) (y : List UInt8 × Nat × Int) : List UInt8 × Nat × Int := match a with
  | some x => if y.2.1 < x.2 then (x.1, x.2, (i : Int)) else y
  | none => y
def loadGo (s : FS) : Nat → List UInt8 × Nat × Int
  | 0 => ([], 0, -1)
  | i + 1 => stepL i (wholeS s i) (loadGo s i)
def loadedS (s : FS) : List UInt8 × Nat × Int := loadGo s 2
theorem wholeP_bound {p : List UInt8} {x : List UInt8 × Nat} (h : wholeP p = some x) : 1 ≤ x.2 ∧ x.2 ≤ 1073741824 ∧ x.1.length ≤ 2500 := by
  unfold wholeP at h
  dsimp only at h
  split at h
  · cases h
  · injection h with h
    subst h
    dsimp only
    omega
theorem loadGo_bound (s : FS) (i : Nat) : (loadGo s i).2.1 ≤ 1073741824 ∧ -1 ≤ (loadGo s i).2.2 ∧ (loadGo s i).2.2 < i := by
  induction i with
  | zero => simp [loadGo]
  | succ i ih =>
    rw [loadGo]
    cases h : wholeS s i with
    | none => rw [stepL]; omega
    | some x =>
      have := wholeP_bound h
      rw [stepL]
      split
      · dsimp only; omega
      · omega
/-- Load: the record, its number, the error. -/
def loadS (s : FS) : List UInt8 × Nat × Int := if s.pg.length < 80 then ([], 0, 1) else if (loadedS s).2.2 < 0 then ([], 0, 9) else ((loadedS s).1, (loadedS s).2.1, 0)
/-- Pages erased one by one: n of them from k on, till one errs. -/
def erasesS (s : FS) (k : Nat) : Nat → FS × Int
  | 0 => (s, 0)
  | n + 1 => if (erasesS s k n).2 = 0 then (eraseS (erasesS s k n).1 ((k + n : Nat) : Int), eraseE (erasesS s k n).1 ((k + n : Nat) : Int)) else erasesS s k n
/-- The part of bytes for a page. -/
def partB (b : List UInt8) (i : Nat) : List UInt8 := (b.drop (i * 64)).take (min ((i + 1) * 64) b.length - i * 64)
/-- Pages programmed: the first one last; j of n. -/
def progsS (s : FS) (k n : Nat) (b : List UInt8) : Nat → FS × Int
  | 0 => (s, 0)
  | j + 1 => if (progsS s k n b j).2 = 0 then (progS (progsS s k n b j).1 ((k + (j + 1) % n : Nat) : Int) (partB b ((j + 1) % n)), progE (progsS s k n b j).1 ((k + (j + 1) % n : Nat) : Int) (partB b ((j + 1) % n))) else progsS s k n b j
def manyN (b : List UInt8) : Nat := (b.length + 63) / 64
def layS (s : FS) (k : Nat) (b : List UInt8) : FS × Int := if (erasesS s k (manyN b)).2 = 0 then progsS (erasesS s k (manyN b)).1 k (manyN b) b (manyN b) else erasesS s k (manyN b)
def slotAt (at_ : Int) : Nat := if at_ = 0 then 40 else 0
def saveS (s : FS) (b : List UInt8) : FS × Int := if s.pg.length < 80 then (s, 1) else if s.dead = true then (s, 11) else if 2500 < b.length then (s, 10) else if 1073741824 ≤ (loadedS s).2.1 then (s, 12) else layS s (slotAt (loadedS s).2.2) (packS (((loadedS s).2.1 : Int) + 1) b)
theorem erasesS_stuck (s : FS) (k : Nat) {i : Nat} (h : (erasesS s k i).2 ≠ 0) : ∀ j, i ≤ j → erasesS s k j = erasesS s k i := by
  intro j hj
  induction j with
  | zero => rw [show i = 0 by omega]
  | succ j ih =>
    by_cases e : i = j + 1
    · rw [e]
    · have := ih (by omega)
      rw [erasesS, this, if_neg h]
theorem progsS_stuck (s : FS) (k n : Nat) (b : List UInt8) {i : Nat} (h : (progsS s k n b i).2 ≠ 0) : ∀ j, i ≤ j → progsS s k n b j = progsS s k n b i := by
  intro j hj
  induction j with
  | zero => rw [show i = 0 by omega]
  | succ j ih =>
    by_cases e : i = j + 1
    · rw [e]
    · have := ih (by omega)
      rw [progsS, this, if_neg h]
end Go.Proofs.Ytpjnmijfmfgdpaa
