/- An argument of bools, read as the walks want it. -/
import Derived.Test.YtcbecidcfbhkfaaReadP
import Derived.Deep.Grids
namespace Go.Proofs.Ytcbecidcfbhkfaa
set_option linter.unusedVariables false
set_option linter.unusedSimpArgs false
open Go.ChangeShapes Go.WideShapes Go.ChangeAt Go.RowKit Go.Deep

section
variable {H : Type} {enc : TypeId × Value → H} {W : World} {fuel : Nat} {v : Value} {x : DataW H × List MemPlace}
theorem read_bools (h : DataW.trod enc Try.prog W 0 (fun _ => true) true fuel 49 [v] = some x) : ∃ l : List Bool, Rd W (fun _ => 0) 0 1 v l.length (l.map .bool) := by
  rcases open_bools Try.underlying49 Try.underlying4 (by kernel_rfl) h with ⟨hcs, _⟩ | ⟨a, len, cap, B, hcs, _, hl, hm, _, hcell⟩
  · injection hcs with hcs
    subst hcs
    exact ⟨[], Rd.nil _ _ _ _⟩
  · injection hcs with hcs
    subst hcs
    simp only [maxLen] at hm
    refine ⟨(List.range len).map B, ⟨by simp, by simp; omega, fun u hu => by obtain ⟨_, _, rfl⟩ := List.mem_map.1 hu; rfl, some a, cap, by simp, by simp; omega, by simp, fun h0 => ⟨a, rfl, rfl, ?_, ?_⟩⟩⟩
    · have := hcell 0 (by simp at h0; omega)
      exact World.block_lt_of_cell? W a (by simpa [Addr.add] using this)
    · intro j u hu
      have hj := (List.getElem?_eq_some_iff.1 hu).1
      simp only [List.length_map, List.length_range] at hj
      rw [List.getElem?_map, List.getElem?_map, List.getElem?_range hj] at hu
      injection hu with hu
      subst hu
      exact hcell j (by omega)
end
end Go.Proofs.Ytcbecidcfbhkfaa
