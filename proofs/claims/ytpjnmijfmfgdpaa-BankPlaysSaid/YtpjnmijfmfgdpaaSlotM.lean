/- Slots (chapter 12): plain: what is loaded behind a save that nothing cuts; a flash that is new. -/
import Derived.Test.YtpjnmijfmfgdpaaSlotL
namespace Go.Proofs.Ytpjnmijfmfgdpaa
set_option linter.unusedVariables false
set_option linter.unusedSimpArgs false
open Go.RowKit

theorem stepL_num (i : Nat) (a : Option (List UInt8 × Nat)) (y : List UInt8 × Nat × Int) : y.2.1 ≤ (stepL i a y).2.1 ∧ ∀ x, a = some x → x.2 ≤ (stepL i a y).2.1 := by
  cases a with
  | none => exact ⟨Nat.le_refl _, fun x h => by cases h⟩
  | some x =>
    rw [stepL]
    refine ⟨by
      split
      · dsimp only; omega
      · exact Nat.le_refl _, fun z h => ?_⟩
    injection h with h
    subst h
    split
    · exact Nat.le_refl _
    · omega
theorem loadGo_two (s : FS) : loadGo s 2 = stepL 1 (wholeS s 1) (stepL 0 (wholeS s 0) ([], 0, -1)) := rfl
/-- A save that nothing cuts. -/
theorem save_calm {s : FS} (h : Calm s) (h80 : 80 ≤ s.pg.length) {b : List UInt8} (hb : b.length ≤ 2500) (hN : (loadedS s).2.1 < 1073741824) :
    ∃ pg, saveS s b = (s.with_ pg, 0) ∧ pg.length = s.pg.length ∧ loadedS (s.with_ pg) = (b, (loadedS s).2.1 + 1, if (loadedS s).2.2 = 0 then 1 else 0) ∧ (∀ i, 80 ≤ i → pg[i]? = s.pg[i]?) ∧
      (∀ i, i < manyN (packS ((loadedS s).2.1 + 1 : Int) b) → pg[slotAt (loadedS s).2.2 + i]? = some (fillPage (partB (packS ((loadedS s).2.1 + 1 : Int) b) i))) ∧
      (∀ i, ¬ (slotAt (loadedS s).2.2 ≤ i ∧ i < slotAt (loadedS s).2.2 + 40) → pg[i]? = s.pg[i]?) := by
  obtain ⟨x, hx⟩ : ∃ x, loadedS s = x := ⟨_, rfl⟩
  obtain ⟨B, N, T⟩ := x
  have hbd := loadGo_bound s 2
  have h2 : loadGo s 2 = (B, N, T) := hx
  rw [h2] at hbd
  rw [hx] at hN ⊢
  dsimp only at hN hbd ⊢
  obtain ⟨PK, hPK⟩ : ∃ PK, packS ((N : Int) + 1) b = PK := ⟨_, rfl⟩
  have hpl := packS_len ((N : Int) + 1) b
  rw [hPK] at hpl
  have hmn : manyN PK ≤ 40 := by unfold manyN; omega
  have hsl : slotAt T + 40 ≤ 80 := by unfold slotAt; split <;> omega
  obtain ⟨pg, e1, e2, e3⟩ := lay_calm h (slotAt T) PK (by omega)
  have hs : saveS s b = (s.with_ pg, 0) := by
    rw [saveS, if_neg (by omega), if_neg (by rw [h.2]; simp), if_neg (by omega), hx]
    dsimp only
    rw [if_neg (by omega), hPK, e1]
  have hin : ∀ i, i < manyN PK → pg[slotAt T + i]? = some (fillPage (partB PK i)) := fun i hi => by rw [e3, if_pos (by omega), show slotAt T + i - slotAt T = i by omega]
  have hout : ∀ i, ¬ (slotAt T ≤ i ∧ i < slotAt T + 40) → pg[i]? = s.pg[i]? := fun i hi => by rw [e3, if_neg (by omega)]
  refine ⟨pg, hs, e2, ?_, fun i hi => hout i (by omega), by rw [hPK]; exact hin, hout⟩
  have hl2 : (s.with_ pg).pg.length = s.pg.length := e2
  have hw := loadGo_two s
  have hn0 := stepL_num 0 (wholeS s 0) ([], 0, -1)
  have hn1 := stepL_num 1 (wholeS s 1) (stepL 0 (wholeS s 0) ([], 0, -1))
  rw [← hw, h2] at hn1
  dsimp only at hn1
  show loadGo (s.with_ pg) 2 = _
  rw [loadGo_two]
  by_cases hT : T = 0
  · have hk : slotAt T = 1 * 40 := by rw [slotAt, if_pos hT]
    have w1 : wholeS (s.with_ pg) 1 = some (b, N + 1) := by
      have := whole_calm (s := s.with_ pg) (k := 1) (n := (N : Int) + 1) (b := b) (by omega) (by omega) hb (by rw [hPK, ← hk]; exact hin)
      rw [this]
      congr 2
    have w0 : wholeS (s.with_ pg) 0 = wholeS s 0 := wholeS_congr 0 (fun i _ hi => hout i (by rw [hk]; omega)) hl2
    rw [w1, w0, stepL, if_pos (by dsimp only; omega), if_pos hT]
    rfl
  · have hk : slotAt T = 0 * 40 := by rw [slotAt, if_neg hT]
    have w0 : wholeS (s.with_ pg) 0 = some (b, N + 1) := by
      have := whole_calm (s := s.with_ pg) (k := 0) (n := (N : Int) + 1) (b := b) (by omega) (by omega) hb (by rw [hPK, ← hk]; exact hin)
      rw [this]
      congr 2
    have w1 : wholeS (s.with_ pg) 1 = wholeS s 1 := wholeS_congr 1 (fun i hi _ => hout i (by rw [hk]; omega)) hl2
    rw [w0, w1, if_neg hT]
    have e0 : stepL 0 (some (b, N + 1)) ([], 0, -1) = (b, N + 1, 0) := by rw [stepL, if_pos (by dsimp only; omega)]; rfl
    rw [e0]
    cases hq : wholeS s 1 with
    | none => rfl
    | some x =>
      have := hn1.2 x hq
      rw [stepL, if_neg (by dsimp only; omega)]
theorem load_of {s : FS} (h80 : 80 ≤ s.pg.length) {b : List UInt8} {n : Nat} {t : Int} (h : loadedS s = (b, n, t)) (ht : 0 ≤ t) : loadS s = (b, n, 0) := by
  rw [loadS, if_neg (by omega), h]
  dsimp only
  rw [if_neg (by omega)]
theorem rnum_blank (r : List UInt8) : rnum (List.replicate 64 255 ++ r) = none := by rfl
theorem whole_blank {s : FS} {k : Nat} (h : s.pg[k * 40]? = some blankPage) : wholeS s k = none := by
  have e : pagesB s (k * 40) 40 = List.replicate 64 255 ++ pagesB s (k * 40 + 1) 39 := by
    rw [show (40 : Nat) = 1 + 39 from rfl, show k * (1 + 39) = k * 40 from rfl, pagesB_add]
    congr 1
    show [] ++ readB s ((k * 40 + 0 : Nat) : Int) = _
    rw [List.nil_append, Nat.add_zero, readB_get h]
    rfl
  have hx : nNum (pagesB s (k * 40) 40) false = (0, [], true) := by rw [e, nNum, rnum_blank]
  have hy : nBytes [] true = ([], [], true) := by rfl
  rw [wholeS, wholeP, hx]
  dsimp only
  rw [hy, if_pos (.inl rfl)]
/-- A flash that is new. -/
def newS (n : Nat) : FS := ⟨List.replicate n blankPage, -1, 0, false⟩
theorem newS_calm (n : Nat) : Calm (newS n) := ⟨rfl, rfl⟩
theorem newS_loaded {n : Nat} (h : 80 ≤ n) : loadedS (newS n) = ([], 0, -1) := by
  have w0 : wholeS (newS n) 0 = none := whole_blank (by rw [newS, List.getElem?_replicate, if_pos (by omega)])
  have w1 : wholeS (newS n) 1 = none := whole_blank (by rw [newS, List.getElem?_replicate, if_pos (by omega)])
  show loadGo (newS n) 2 = _
  rw [loadGo_two, w0, w1]
  rfl
end Go.Proofs.Ytpjnmijfmfgdpaa
