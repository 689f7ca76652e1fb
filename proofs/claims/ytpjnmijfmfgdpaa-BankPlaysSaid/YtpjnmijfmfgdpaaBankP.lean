/- Banks (chapter 13): plain. -/
import Derived.Test.YtpjnmijfmfgdpaaSlotL
namespace Go.Proofs.Ytpjnmijfmfgdpaa
set_option linter.unusedVariables false
set_option linter.unusedSimpArgs false
open Go.RowKit

/-- Which image runs: the fields. -/
structure BS where
  bank : Int
  size : Int
  sum : List UInt8
  counter : Int
  name : List UInt8
  mind : List UInt8
def zeroBS : BS := ⟨0, 0, List.replicate 32 0, 0, [], []⟩
/-- A state as bytes. -/
def recB (s : BS) : List UInt8 := encs [s.bank, s.size] ++ s.sum ++ encs [s.counter] ++ (enc (clamp s.name.length) ++ s.name ++ (enc (clamp s.mind.length) ++ s.mind))
/-- A hash of what was read: thirty-two bytes, or none. -/
def sum32 (r : List UInt8) : List UInt8 := r ++ List.replicate (32 - r.length) 0
/-- Bytes as a state; false: they are none. -/
def stateS (l : List UInt8) : BS × Bool :=
  let a := nNum l false
  let b := nNum a.2.1 a.2.2
  let c := nRaw 32 b.2.1 b.2.2
  let d := nNum c.2.1 c.2.2
  let e := nBytes d.2.1 d.2.2
  let f := nBytes e.2.1 e.2.2
  (⟨a.1, b.1, sum32 c.1, d.1, e.1, f.1⟩, (!f.2.2 && f.2.1.isEmpty) && decide (a.1 < 2) && decide (b.1 ≤ 512))
theorem stateS_recB (s : BS) (h0 : 0 ≤ s.bank) (h1 : s.bank ≤ 1) (h2 : 0 ≤ s.size) (h3 : s.size ≤ 512) (h4 : s.sum.length = 32) (h5 : 0 ≤ s.counter) (h6 : s.counter ≤ 1073741824) (h7 : s.name.length ≤ 1000000) (h8 : s.mind.length ≤ 1000000) : stateS (recB s) = (s, true) := by
  obtain ⟨bank, size, sum, counter, name, mind⟩ := s
  dsimp only at h0 h1 h2 h3 h4 h5 h6 h7 h8
  have c1 : clamp bank = bank.toNat := by unfold clamp; omega
  have c2 : clamp size = size.toNat := by unfold clamp; omega
  have c3 : clamp counter = counter.toNat := by unfold clamp; omega
  have e : recB ⟨bank, size, sum, counter, name, mind⟩ = enc (clamp bank) ++ (enc (clamp size) ++ (sum ++ (enc (clamp counter) ++ (enc (clamp name.length) ++ name ++ (enc (clamp mind.length) ++ mind ++ []))))) := by
    simp [recB, encs]
  have x1 := nNum_enc bank (enc (clamp size) ++ (sum ++ (enc (clamp counter) ++ (enc (clamp name.length) ++ name ++ (enc (clamp mind.length) ++ mind ++ []))))) false
  have x2 := nNum_enc size (sum ++ (enc (clamp counter) ++ (enc (clamp name.length) ++ name ++ (enc (clamp mind.length) ++ mind ++ [])))) false
  have x3 := nRaw_app sum (enc (clamp counter) ++ (enc (clamp name.length) ++ name ++ (enc (clamp mind.length) ++ mind ++ []))) false
  have x4 := nNum_enc counter (enc (clamp name.length) ++ name ++ (enc (clamp mind.length) ++ mind ++ [])) false
  have x5 := nBytes_enc name (enc (clamp mind.length) ++ mind ++ []) false (by omega)
  have x6 := nBytes_enc mind [] false (by omega)
  rw [h4] at x3
  unfold stateS
  rw [e, x1]
  dsimp only
  rw [x2]
  dsimp only
  rw [show ((32 : Nat) : Int) = 32 from rfl] at x3
  rw [x3]
  dsimp only
  rw [x4]
  dsimp only
  rw [x5]
  dsimp only
  rw [x6]
  have hs : sum32 sum = sum := by rw [sum32, h4]; simp
  rw [hs, c1, c2, c3, show ((bank.toNat : Nat) : Int) = bank by omega, show ((size.toNat : Nat) : Int) = size by omega, show ((counter.toNat : Nat) : Int) = counter by omega]
  simp
  omega
/-- What boots: the state, its image, the error. -/
def imageS (s : FS) (t : BS) : List UInt8 := (pagesB s (80 + t.bank.toNat * 8) 8).take t.size.toNat
def bootB (s : FS) : BS × List UInt8 × Int :=
  if s.pg.length < 96 then (zeroBS, [], 1)
  else if (loadS s).2.2 ≠ 0 then (zeroBS, [], (loadS s).2.2)
  else if (stateS (loadS s).1).2 = false then (zeroBS, [], 2)
  else if sha (imageS s (stateS (loadS s).1).1) = (stateS (loadS s).1).1.sum then ((stateS (loadS s).1).1, imageS s (stateS (loadS s).1).1, 0)
  else (zeroBS, [], 8)
/-- Pages programmed in order: j of them. -/
def progsB (s : FS) (k : Nat) (b : List UInt8) : Nat → FS × Int
  | 0 => (s, 0)
  | j + 1 => if (progsB s k b j).2 = 0 then (progS (progsB s k b j).1 ((k + j : Nat) : Int) (partB b j), progE (progsB s k b j).1 ((k + j : Nat) : Int) (partB b j)) else progsB s k b j
theorem progsB_stuck (s : FS) (k : Nat) (b : List UInt8) {i : Nat} (h : (progsB s k b i).2 ≠ 0) : ∀ j, i ≤ j → progsB s k b j = progsB s k b i := by
  intro j hj
  induction j with
  | zero => rw [show i = 0 by omega]
  | succ j ih =>
    by_cases e : i = j + 1
    · rw [e]
    · have := ih (by omega)
      rw [progsB, this, if_neg h]
def layB (s : FS) (k : Nat) (b : List UInt8) : FS × Int := if (erasesS s k (manyN b)).2 = 0 then progsB (erasesS s k (manyN b)).1 k b (manyN b) else erasesS s k (manyN b)
/-- Why an image may not be installed. -/
def askedS (s : FS) (name m : List UInt8) (counter : Int) (mind : List UInt8) : Int :=
  if s.pg.length < 96 then 1 else if s.dead = true then 11 else if 512 < m.length ∨ 12 < name.length ∨ 2000 < mind.length then 10 else if counter < 0 ∨ 1073741824 < counter then 1 else 0
def bankOf (t : BS × List UInt8 × Int) : Int := if t.2.2 = 0 then 1 - t.1.bank else 0
def nextB (bank : Int) (name m : List UInt8) (counter : Int) (mind : List UInt8) : BS := ⟨bank, m.length, sha m, counter, name, mind⟩
def installS (s : FS) (name m : List UInt8) (counter : Int) (mind : List UInt8) : FS × Int :=
  if askedS s name m counter mind ≠ 0 then (s, askedS s name m counter mind)
  else if (bootB s).2.2 = 0 ∧ counter < (bootB s).1.counter then (s, 5)
  else if (bootB s).2.2 ≠ 0 ∧ (bootB s).2.2 ≠ 9 then (s, (bootB s).2.2)
  else if (layB s (80 + (bankOf (bootB s)).toNat * 8) m).2 ≠ 0 then layB s (80 + (bankOf (bootB s)).toNat * 8) m
  else saveS (layB s (80 + (bankOf (bootB s)).toNat * 8) m).1 (recB (nextB (bankOf (bootB s)) name m counter mind))
def keepS (s : FS) (mind : List UInt8) : FS × Int :=
  if (bootB s).2.2 ≠ 0 then (s, (bootB s).2.2) else if 2000 < mind.length then (s, 10) else saveS s (recB { (bootB s).1 with mind := mind })
end Go.Proofs.Ytpjnmijfmfgdpaa
