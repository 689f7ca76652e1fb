/- What is known at once, of chapter 11. -/
import Derived.Test.YtpjnmijfmfgdpaaPage3
import Derived.Laws.IdiomStrings
import Derived.Laws.BytesArg
namespace Go.Proofs.Ytpjnmijfmfgdpaa
set_option linter.unusedVariables false
set_option linter.unusedSimpArgs false
open Go.RowKit

/-- string(b), b read. -/
theorem convBS {w : World} {o : Col} {c cap n : Nat} {A : Option Addr} {l : List UInt8} (h : RdB w o c (.slice A n cap) l) (hn : n = l.length) : (convert 22 9 (.slice A n cap)).run Try.prog w = .ok (.string ⟨l.toArray⟩) w := by
  subst hn
  cases A with
  | none =>
    have hl : l = [] := by
      cases l with
      | nil => rfl
      | cons x l =>
        obtain ⟨a, e, _⟩ := h.at_ (j := 0) (by simp)
        cases e
    subst hl
    exact run_convert_bytes_nil w 22 5 Try.underlying22 Try.underlying5 _ _ 9 Try.underlying9
  | some a =>
    refine run_convert_bytes_back w 22 9 5 a cap l Try.underlying22 Try.underlying5 Try.underlying9 (fun j hj => ?_)
    obtain ⟨a', e, hc⟩ := h.at_ hj
    injection e with e
    subst e
    exact hc
/-- One page, no fuse, the power on. -/
def one (q : List UInt8) : FS := ⟨[q], -1, 0, false⟩
theorem prog_one {q a : List UInt8} (h : a.length ≤ 64) : progS (one q) 0 a = one (andPage q a) ∧ progE (one q) 0 a = 0 := by
  have h1 : mayE (one q) 0 a.length = 0 := by
    simp [mayE, one, hasB]
    omega
  refine ⟨?_, ?_⟩
  · rw [progS, if_pos h1, bec, if_neg (by simp [one])]
    rfl
  · rw [progE, if_pos h1, becE, if_neg (by simp [one])]
theorem read_one (q : List UInt8) : readB (one q) 0 = q ∧ readE (one q) 0 = 0 := by
  refine ⟨?_, ?_⟩
  · rw [readB, if_pos (by rfl)]
    rfl
  · rw [readE, if_pos (by rfl)]

end Go.Proofs.Ytpjnmijfmfgdpaa
