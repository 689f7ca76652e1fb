/- Arguments that came in, read as the walks want them. -/
import Derived.Test.YtpjnmijfmfgdpaaOctet
import Derived.ProofKit
import Derived.OpenShut
import Derived.ShutString
import Derived.ChangeOld
import Derived.Below
import Derived.Deep.Slices
namespace Go.Proofs.Ytpjnmijfmfgdpaa
set_option linter.unusedVariables false
set_option linter.unusedSimpArgs false
open Go.ChangeShapes Go.WideShapes Go.ChangeAt Go.RowKit Go.Deep

section
variable {H : Type} {enc : TypeId × Value → H} {W : World} {fuel : Nat} {v : Value} {x : DataW H × List MemPlace}
theorem byte_wf {z : Int} (h : (Lit.int .u8 z).wf = true) : z = ((UInt8.ofNat z.toNat).toNat : Int) := by
  have h1 : IntKind.u8.min ≤ z ∧ z ≤ IntKind.u8.max := by simpa [Lit.wf] using h
  have h2 : IntKind.u8.min = 0 := rfl
  have h3 : IntKind.u8.max = 255 := rfl
  rw [h2, h3] at h1
  rw [UInt8.toNat_ofNat']
  omega
theorem read_bytes (h : DataW.trod enc Try.prog W 0 (fun _ => true) true fuel 22 [v] = some x) : ∃ l, RdB W (fun _ => 0) 0 v l := by
  rcases open_ints Try.underlying22 Try.underlying5 (by kernel_rfl) h with ⟨hcs, _⟩ | ⟨a, len, cap, zs, hcs, _, hl, hm, hz, _, hcell, hwz⟩
  · injection hcs with hcs
    subst hcs
    exact ⟨[], RdB.nil _ _ _⟩
  · injection hcs with hcs
    subst hcs
    simp only [if_true] at hz
    simp only [maxLen] at hm
    have hlen : ((zs.take len).map fun z => UInt8.ofNat z.toNat).length = len := by rw [List.length_map, List.length_take]; omega
    refine ⟨(zs.take len).map fun z => UInt8.ofNat z.toNat, ⟨by simp [vbs_length], by omega, vbs_one _, some a, cap, by rw [hlen], by omega, by simp, fun h0 => ⟨a, rfl, rfl, ?_, ?_⟩⟩⟩
    · have := hcell 0 (by omega)
      exact World.block_lt_of_cell? W a (by simpa [Addr.add] using this)
    · intro j u hu
      have hj := (List.getElem?_eq_some_iff.1 hu).1
      rw [vbs_length, hlen] at hj
      rw [vbs_at (by rw [hlen]; exact hj)] at hu
      injection hu with hu
      subst hu
      rw [hcell j (by omega)]
      have e1 : zs.getD j 0 = zs[j]'(by omega) := by simp [List.getD, show j < zs.length by omega]
      rw [e1]
      have e2 := byte_wf (hwz (zs[j]'(by omega)) (List.getElem_mem _))
      simp only [List.getElem_map, List.getElem_take]
      rw [← e2]
theorem read_ints (h : DataW.trod enc Try.prog W 0 (fun _ => true) true fuel 122 [v] = some x) : ∃ l : List Int, Rd W (fun _ => 0) 0 1 v l.length (l.map (.int .i64)) := by
  rcases open_ints Try.underlying122 Try.underlying3 (by kernel_rfl) h with ⟨hcs, _⟩ | ⟨a, len, cap, zs, hcs, _, hl, hm, hz, _, hcell, hwz⟩
  · injection hcs with hcs
    subst hcs
    exact ⟨[], Rd.nil _ _ _ _⟩
  · injection hcs with hcs
    subst hcs
    simp only [if_true] at hz
    simp only [maxLen] at hm
    have hlen : (zs.take len).length = len := by rw [List.length_take]; omega
    refine ⟨zs.take len, ⟨by simp, by omega, fun u hu => by obtain ⟨_, _, rfl⟩ := List.mem_map.1 hu; rfl, some a, cap, by rw [hlen], by omega, by simp, fun h0 => ⟨a, rfl, rfl, ?_, ?_⟩⟩⟩
    · have := hcell 0 (by omega)
      exact World.block_lt_of_cell? W a (by simpa [Addr.add] using this)
    · intro j u hu
      have hj := (List.getElem?_eq_some_iff.1 hu).1
      rw [List.length_map, hlen] at hj
      rw [List.getElem?_map, List.getElem?_take, if_pos hj, List.getElem?_eq_getElem (by omega)] at hu
      injection hu with hu
      subst hu
      rw [hcell j (by omega)]
      have e1 : zs.getD j 0 = zs[j]'(by omega) := by simp [List.getD, show j < zs.length by omega]
      rw [e1]
theorem read_rows (h : DataW.trod enc Try.prog W 0 (fun _ => true) true fuel 42 [v] = some x) : ∃ ls, RdRows W (fun _ => 0) 0 0 v ls := by
  rcases open_slice1 Try.underlying42 (by kernel_rfl) h with ⟨hcs, _⟩ | ⟨a, len, cap, m, n, V, D, Pl, hcs, _, hl, hm, hmm, _, hV⟩
  · injection hcs with hcs
    subst hcs
    exact ⟨[], [], rfl, Rd.nil _ _ _ _, fun j hj => by simp at hj⟩
  · injection hcs with hcs
    subst hcs
    simp only [if_true] at hmm
    subst hmm
    simp only [maxLen] at hm
    obtain ⟨f, hf⟩ : ∃ f : Nat → List UInt8, ∀ i, i < len → RdB W (fun _ => 0) 0 (V i) (f i) := choose_lt (p := fun i l => RdB W (fun _ => 0) 0 (V i) l) fun i hi => read_bytes (hV i (by omega)).2
    refine ⟨(List.range len).map f, (List.range len).map V, by simp, ?_, ?_⟩
    · refine ⟨by simp, by simp; omega, ?_, some a, m, by simp, by simp; omega, by simp, fun h0 => ⟨a, rfl, rfl, ?_, ?_⟩⟩
      · intro u hu
        obtain ⟨i, hi, rfl⟩ := List.mem_map.1 hu
        obtain ⟨A, cp, e, _⟩ := (hf i (List.mem_range.1 hi)).shape
        rw [e]; rfl
      · have hlen : 0 < len := by simpa using h0
        have := (hV 0 (by omega)).1
        exact World.block_lt_of_cell? W a (by simpa [Addr.add] using this)
      · intro j u hu
        have hj := (List.getElem?_eq_some_iff.1 hu).1
        simp only [List.length_map, List.length_range] at hj
        rw [List.getElem?_map, List.getElem?_range hj] at hu
        injection hu with hu
        subst hu
        exact (hV j (by omega)).1
    · intro j hj u hu
      simp only [List.length_map, List.length_range] at hj
      rw [List.getElem?_map, List.getElem?_range hj] at hu
      injection hu with hu
      subst hu
      simpa using hf j hj
end
end Go.Proofs.Ytpjnmijfmfgdpaa
