/- OctetCuts: plain laws. -/
import Derived.Test.YtollifmdoldacaaRowsW
namespace Go.Proofs.Ytollifmdoldacaa
set_option linter.unusedVariables false
set_option linter.unusedSimpArgs false
open Go.RowKit

/-! ### A row that is cut short -/
theorem rnumGo_cut (u : Nat) : ∀ (k i a : Nat), k < (enc u).length → rnumGo ((enc u).take k) i a = none := by
  induction u using Nat.strongRecOn with
  | _ u ih =>
    intro k i a hk
    cases k with
    | zero => rfl
    | succ k =>
      by_cases hs : u < 128
      · rw [enc_small hs] at hk
        simp at hk
      · have e1 : (UInt8.ofNat (u % 128 + 128)).toNat = u % 128 + 128 := by rw [UInt8.toNat_ofNat']; omega
        rw [enc_big (by omega)] at hk ⊢
        rw [List.take_succ_cons, rnumGo]
        split
        · rfl
        · rw [if_neg (by omega)]
          exact ih (u / 128) (by omega) k _ _ (by simpa using hk)
theorem nBytes_nil : nBytes [] true = ([], [], true) := rfl
theorem nBytes_cut (r : List UInt8) (k : Nat) (bad : Bool) (hk : k < (enc (clamp r.length) ++ r).length) (hr : r.length ≤ 4611686018427387904) : nBytes ((enc (clamp r.length) ++ r).take k) bad = ([], [], true) := by
  rw [List.take_append]
  by_cases h : k < (enc (clamp r.length)).length
  · rw [show k - (enc (clamp r.length)).length = 0 from by omega, List.take_zero, List.append_nil]
    have h1 : nNum ((enc (clamp r.length)).take k) bad = (0, [], true) := by
      unfold nNum rnum
      rw [rnumGo_cut _ k 0 0 h]
    unfold nBytes
    rw [h1]
    rfl
  · rw [List.take_of_length_le (by omega)]
    unfold nBytes
    rw [nNum_enc]
    simp only
    rw [clamp_len r hr]
    unfold nRaw
    rw [if_pos (.inr (by
      have hc := clamp_len r hr
      rw [hc] at hk h
      rw [List.length_append] at hk
      rw [List.length_take]
      omega))]
/-- How many bytes the first rows have. -/
def endAt (ls : List (List UInt8)) (j : Nat) : Nat := (encRows (ls.take j)).length
def cutL (ls : List (List UInt8)) (cut j : Nat) : List UInt8 := if endAt ls j ≤ cut then (encRows (ls.drop j)).take (cut - endAt ls j) else []
def cutE (ls : List (List UInt8)) (cut j : Nat) : Bool := decide (cut < endAt ls j)
theorem endAt_succ (ls : List (List UInt8)) (j : Nat) (h : j < ls.length) : endAt ls (j + 1) = endAt ls j + (enc (clamp ls[j].length) ++ ls[j]).length := by
  unfold endAt
  rw [List.take_succ_eq_append_getElem h, encRows_snoc, List.length_append]
theorem cut_step (ls : List (List UInt8)) (cut j : Nat) (h : j < ls.length) (r : List UInt8) (hr : ls[j] = r) (hrl : r.length ≤ 4000) :
    (endAt ls (j + 1) ≤ cut → nBytes (cutL ls cut j) (cutE ls cut j) = (r, cutL ls cut (j + 1), cutE ls cut (j + 1)) ∧ cutE ls cut (j + 1) = false) ∧
    (¬ endAt ls (j + 1) ≤ cut → nBytes (cutL ls cut j) (cutE ls cut j) = ([], [], true) ∧ cutL ls cut (j + 1) = [] ∧ cutE ls cut (j + 1) = true) := by
  have e1 := endAt_succ ls j h
  have e2 : encRows (ls.drop j) = (enc (clamp r.length) ++ r) ++ encRows (ls.drop (j + 1)) := by
    rw [List.drop_eq_getElem_cons h, hr]
    simp [encRows]
  rw [hr] at e1
  refine ⟨fun hle => ?_, fun hgt => ?_⟩
  · have b0 : cutE ls cut j = false := decide_eq_false (by omega)
    have b1 : cutE ls cut (j + 1) = false := decide_eq_false (by omega)
    rw [b0, b1, cutL, if_pos (by omega), cutL, if_pos hle, e2, List.take_append, List.take_of_length_le (by omega), show cut - endAt ls j - (enc (clamp r.length) ++ r).length = cut - endAt ls (j + 1) from by omega]
    exact ⟨nBytes_enc r _ false (by omega), rfl⟩
  · have b1 : cutE ls cut (j + 1) = true := decide_eq_true (by omega)
    have l1 : cutL ls cut (j + 1) = [] := by rw [cutL, if_neg hgt]
    refine ⟨?_, l1, b1⟩
    by_cases hj : endAt ls j ≤ cut
    · have b0 : cutE ls cut j = false := decide_eq_false (by omega)
      rw [b0, cutL, if_pos hj, e2, List.take_append, show cut - endAt ls j - (enc (clamp r.length) ++ r).length = 0 from by omega, List.take_zero, List.append_nil]
      exact nBytes_cut r _ false (by omega) (by omega)
    · have b0 : cutE ls cut j = true := decide_eq_true (by omega)
      rw [b0, cutL, if_neg hj]
      rfl
theorem cutL_le (ls : List (List UInt8)) (cut j : Nat) : (cutL ls cut j).length ≤ cut := by
  unfold cutL
  split
  · rw [List.length_take]; omega
  · simp
theorem slI : SlT Try.prog 30 3 1 8 (.int .i64 0) := ⟨Try.underlying30, info_parts (by kernel_rfl), by kernel_rfl, by omega⟩
def endsV (ls : List (List UInt8)) (k : Nat) : List Value := (List.range k).map fun i => .int .i64 (endAt ls (i + 1))
theorem endsV_succ (ls : List (List UInt8)) (k : Nat) : endsV ls (k + 1) = endsV ls k ++ [.int .i64 (endAt ls (k + 1))] := by simp [endsV, List.range_succ]
theorem endsV_len (ls : List (List UInt8)) (k : Nat) : (endsV ls k).length = k := by simp [endsV]
theorem endsV_at (ls : List (List UInt8)) (k j : Nat) (h : j < k) : (endsV ls k)[j]? = some (.int .i64 (endAt ls (j + 1))) := by simp [endsV, h]
end Go.Proofs.Ytollifmdoldacaa
