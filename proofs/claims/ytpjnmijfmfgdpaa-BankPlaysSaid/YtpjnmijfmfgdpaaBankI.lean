/- Banks (chapter 13): plain: an install that nothing cuts. -/
import Derived.Test.YtpjnmijfmfgdpaaBankP
import Derived.Test.YtpjnmijfmfgdpaaSlotM
namespace Go.Proofs.Ytpjnmijfmfgdpaa
set_option linter.unusedVariables false
set_option linter.unusedSimpArgs false
open Go.RowKit

theorem progsB_calm {s : FS} (h : Calm s) (k n : Nat) (b : List UInt8) (hn : k + n ≤ s.pg.length) (hb : ∀ i, i < n → s.pg[k + i]? = some blankPage) :
    ∀ j, j ≤ n → ∃ pg, progsB s k b j = (s.with_ pg, 0) ∧ pg.length = s.pg.length ∧ ∀ i, pg[i]? = if k ≤ i ∧ i < k + j then some (fillPage (partB b (i - k))) else s.pg[i]? := by
  intro j
  induction j with
  | zero =>
    intro _
    refine ⟨s.pg, rfl, rfl, fun i => ?_⟩
    rw [if_neg (by omega)]
  | succ j ih =>
    intro hj
    obtain ⟨pg, h1, h2, h3⟩ := ih (by omega)
    have hpl := partB_le b j
    have hp := prog_calm (h.with_ pg) (i := k + j) (show k + j < pg.length by omega) hpl
    have hq : pg.getD (k + j) [] = blankPage := by
      rw [List.getD_eq_getElem?_getD, h3, if_neg (by omega), hb j (by omega)]
      rfl
    rw [show (s.with_ pg).pg = pg from rfl, hq, and_blank hpl] at hp
    refine ⟨pg.set (k + j) (fillPage (partB b j)), ?_, by simp [h2], fun i => ?_⟩
    · rw [progsB, h1, if_pos rfl, hp.1, hp.2]
      rfl
    · rw [List.getElem?_set]
      by_cases hi : k + j = i
      · rw [if_pos hi, if_pos (by omega), if_pos (by omega), show i - k = j by omega]
      · rw [if_neg hi, h3]
        by_cases hc : k ≤ i ∧ i < k + j
        · rw [if_pos hc, if_pos (by omega)]
        · rw [if_neg hc, if_neg (by omega)]
theorem layB_calm {s : FS} (h : Calm s) (k : Nat) (b : List UInt8) (hn : k + manyN b ≤ s.pg.length) :
    ∃ pg, layB s k b = (s.with_ pg, 0) ∧ pg.length = s.pg.length ∧ ∀ i, pg[i]? = if k ≤ i ∧ i < k + manyN b then some (fillPage (partB b (i - k))) else s.pg[i]? := by
  obtain ⟨p1, h1, h2, h3⟩ := erases_calm h k (manyN b) hn
  obtain ⟨p2, h4, h5, h6⟩ := progsB_calm (h.with_ p1) k (manyN b) b (by rw [show (s.with_ p1).pg = p1 from rfl, h2]; exact hn) (fun i hi => by rw [show (s.with_ p1).pg = p1 from rfl, h3, if_pos (by omega)]) (manyN b) (Nat.le_refl _)
  refine ⟨p2, ?_, by rw [h5]; exact h2, fun i => ?_⟩
  · rw [layB, h1, if_pos rfl, h4]
    rfl
  · rw [h6, show (s.with_ p1).pg = p1 from rfl, h3]
    by_cases hc : k ≤ i ∧ i < k + manyN b
    · rw [if_pos hc, if_pos hc]
    · rw [if_neg hc, if_neg hc, if_neg hc]
theorem image_laid {s : FS} {k : Nat} {m : List UInt8} (hm : m.length ≤ 512) (h : ∀ i, i < manyN m → s.pg[k + i]? = some (fillPage (partB m i))) : (pagesB s k 8).take m.length = m := by
  obtain ⟨r, e, _⟩ := parts_join k m h (manyN m) (Nat.le_refl _)
  rw [List.take_of_length_le (by unfold manyN; omega)] at e
  have h8 : manyN m ≤ 8 := by unfold manyN; omega
  rw [show (8 : Nat) = manyN m + (8 - manyN m) by omega, pagesB_add, e, List.append_assoc, List.take_left]
/-- A calm flash of banks that boots: the state, its image, the record's number. -/
structure Boots (s : FS) (t : BS) (im : List UInt8) (n : Nat) : Prop where
  calm : Calm s
  len : s.pg.length = 96
  told : ∃ B T, loadedS s = (B, n, T)
  boot : bootB s = (t, im, 0)
/-- An image laid and its record saved. -/
theorem install_core {s : FS} (hc : Calm s) (h96 : s.pg.length = 96) {B : List UInt8} {n : Nat} {T : Int} (hld : loadedS s = (B, n, T)) (hn : n < 1000000) (bk : Int) (h0 : 0 ≤ bk) (h1 : bk ≤ 1) (name m mind : List UInt8) (counter : Int) (hm : m.length ≤ 512) (hnm : name.length ≤ 12) (hmd : mind.length ≤ 2000) (hct : 0 ≤ counter ∧ counter ≤ 1073741824) :
    ∃ s1 s', layB s (80 + bk.toNat * 8) m = (s1, 0) ∧ saveS s1 (recB (nextB bk name m counter mind)) = (s', 0) ∧ Boots s' (nextB bk name m counter mind) m (n + 1) ∧ (∀ i, 80 ≤ i → ¬ (80 + bk.toNat * 8 ≤ i ∧ i < 80 + bk.toNat * 8 + 8) → s'.pg[i]? = s.pg[i]?) ∧
      (∀ i, i < manyN m → s'.pg[80 + bk.toNat * 8 + i]? = some (fillPage (partB m i))) := by
  have hmn : manyN m ≤ 8 := by unfold manyN; omega
  obtain ⟨K, hK⟩ : ∃ K, 80 + bk.toNat * 8 = K := ⟨_, rfl⟩
  have hKb : 80 ≤ K ∧ K ≤ 88 := by omega
  rw [hK]
  obtain ⟨pg, l1, l2, l3⟩ := layB_calm hc K m (by omega)
  have hl1 : loadedS (s.with_ pg) = (B, n, T) := by
    rw [← hld]
    have w0 : wholeS (s.with_ pg) 0 = wholeS s 0 := wholeS_congr 0 (fun i _ hi => by show pg[i]? = _; rw [l3, if_neg (by omega)]) l2
    have w1 : wholeS (s.with_ pg) 1 = wholeS s 1 := wholeS_congr 1 (fun i _ hi => by show pg[i]? = _; rw [l3, if_neg (by omega)]) l2
    show loadGo (s.with_ pg) 2 = loadGo s 2
    rw [loadGo_two, loadGo_two, w0, w1]
  have hrl : (recB (nextB bk name m counter mind)).length ≤ 2500 := by
    have e1 := encs_len [bk, (m.length : Int)]
    have e2 := encs_len [counter]
    have e3 := enc_len9 name.length
    have e4 := enc_len9 mind.length
    have e5 := sha_len m
    simp [recB, nextB] at e1 e2 ⊢
    omega
  obtain ⟨NB, hNB⟩ : ∃ NB, nextB bk name m counter mind = NB := ⟨_, rfl⟩
  have hst : stateS (recB NB) = (NB, true) := by
    rw [← hNB]
    exact stateS_recB _ h0 h1 (by show (0 : Int) ≤ (m.length : Int); omega) (by show (m.length : Int) ≤ 512; omega) (sha_len m) hct.1 hct.2 (by show name.length ≤ _; omega) (by show mind.length ≤ _; omega)
  have hNb : NB.bank = bk := by rw [← hNB]; rfl
  have hNs : NB.size = (m.length : Int) := by rw [← hNB]; rfl
  have hNh : NB.sum = sha m := by rw [← hNB]; rfl
  rw [hNB] at hrl
  rw [hNB]
  obtain ⟨pg2, s1, s2, s3, s4, _, s6⟩ := save_calm (hc.with_ pg) (by show 80 ≤ pg.length; omega) (b := recB NB) hrl (by rw [hl1]; show n < _; omega)
  rw [hl1] at s3
  dsimp only at s3
  have hpl : pg2.length = 96 := by rw [s2]; show pg.length = 96; omega
  have hpg : ∀ i, 80 ≤ i → pg2[i]? = pg[i]? := s4
  have him : ∀ i, i < manyN m → pg2[K + i]? = some (fillPage (partB m i)) := fun i hi => by rw [hpg _ (by omega), l3, if_pos (by omega), show K + i - K = i by omega]
  obtain ⟨S2, hS2⟩ : ∃ S2, ((s.with_ pg).with_ pg2) = S2 := ⟨_, rfl⟩
  have hSp : S2.pg = pg2 := by rw [← hS2]; rfl
  rw [hS2] at s1 s3
  have hld2 : loadS S2 = (recB NB, n + 1, 0) := load_of (by rw [hSp]; omega) s3 (by split <;> omega)
  have hcS : Calm S2 := by rw [← hS2]; exact (hc.with_ pg).with_ pg2
  refine ⟨s.with_ pg, S2, l1, s1, ⟨hcS, by rw [hSp]; exact hpl, ⟨_, _, s3⟩, ?_⟩, fun i hi hni => ?_, fun i hi => by rw [hSp]; exact him i hi⟩
  · have hi2 : imageS S2 NB = m := by
      rw [imageS, hNb, hNs, hK, Int.toNat_natCast]
      exact image_laid hm (fun i hi => by rw [hSp]; exact him i hi)
    rw [bootB, if_neg (by rw [hSp]; omega), hld2]
    dsimp only
    rw [if_neg (by simp), hst]
    dsimp only
    rw [if_neg (by simp), hi2, hNh, if_pos rfl]
  · rw [hSp, hpg i hi, l3, if_neg (by omega)]
theorem asked_ok {s : FS} (hc : Calm s) (h96 : s.pg.length = 96) {name m mind : List UInt8} {counter : Int} (hm : m.length ≤ 512) (hnm : name.length ≤ 12) (hmd : mind.length ≤ 2000) (hct : 0 ≤ counter ∧ counter ≤ 1073741824) : askedS s name m counter mind = 0 := by
  rw [askedS, if_neg (by omega), if_neg (by rw [hc.2]; simp), if_neg (by omega), if_neg (by omega)]
/-- The first install. -/
theorem install_first (name m mind : List UInt8) (counter : Int) (hm : m.length ≤ 512) (hnm : name.length ≤ 12) (hmd : mind.length ≤ 2000) (hct : 0 ≤ counter ∧ counter ≤ 1073741824) :
    ∃ s', installS (newS 96) name m counter mind = (s', 0) ∧ Boots s' (nextB 0 name m counter mind) m 1 ∧ (∀ i, i < manyN m → s'.pg[80 + i]? = some (fillPage (partB m i))) := by
  have hl := newS_loaded (n := 96) (by omega)
  have hlen : (newS 96).pg.length = 96 := by simp [newS]
  obtain ⟨s1, s', e1, e2, e3, _, e5⟩ := install_core (newS_calm 96) hlen hl (by omega) 0 (by omega) (by omega) name m mind counter hm hnm hmd hct
  have hb : bootB (newS 96) = (zeroBS, [], 9) := by
    have hl2 : loadS (newS 96) = ([], 0, 9) := by rw [loadS, if_neg (by omega), hl]; rfl
    rw [bootB, if_neg (by omega), hl2]
    rfl
  refine ⟨s', ?_, e3, e5⟩
  rw [installS, asked_ok (newS_calm 96) hlen hm hnm hmd hct, hb, if_neg (by simp), if_neg (by simp), if_neg (by simp)]
  have hbk : bankOf (zeroBS, ([] : List UInt8), (9 : Int)) = 0 := rfl
  rw [hbk, e1]
  dsimp only
  rw [if_neg (by simp), e2]
theorem Boots.install {s : FS} {t : BS} {im : List UInt8} {n : Nat} (h : Boots s t im n) (hn : n < 1000000) (hb0 : 0 ≤ t.bank) (hb1 : t.bank ≤ 1) (name m mind : List UInt8) (counter : Int) (hm : m.length ≤ 512) (hnm : name.length ≤ 12) (hmd : mind.length ≤ 2000) (hct : 0 ≤ counter ∧ counter ≤ 1073741824) (hle : t.counter ≤ counter) :
    ∃ s', installS s name m counter mind = (s', 0) ∧ Boots s' (nextB (1 - t.bank) name m counter mind) m (n + 1) := by
  obtain ⟨B, T, hld⟩ := h.told
  obtain ⟨s1, s', e1, e2, e3, _, _⟩ := install_core h.calm h.len hld hn (1 - t.bank) (by omega) (by omega) name m mind counter hm hnm hmd hct
  refine ⟨s', ?_, e3⟩
  rw [installS, asked_ok h.calm h.len hm hnm hmd hct, h.boot, if_neg (by simp)]
  dsimp only
  rw [if_neg (by omega), if_neg (by simp)]
  have hbk : bankOf (t, im, (0 : Int)) = 1 - t.bank := rfl
  rw [hbk, e1]
  dsimp only
  rw [if_neg (by simp), e2]
end Go.Proofs.Ytpjnmijfmfgdpaa
