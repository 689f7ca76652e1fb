/- Banks (chapter 13): plain: another mind kept; a byte spoilt; an install that is cut. -/
import Derived.Test.YtpjnmijfmfgdpaaBankI
import Derived.Test.YtpjnmijfmfgdpaaSlotU
namespace Go.Proofs.Ytpjnmijfmfgdpaa
set_option linter.unusedVariables false
set_option linter.unusedSimpArgs false
open Go.RowKit

/-- A state that a record can hold. -/
structure OkBS (t : BS) : Prop where
  b0 : 0 ≤ t.bank
  b1 : t.bank ≤ 1
  s0 : 0 ≤ t.size
  s1 : t.size ≤ 512
  sum : t.sum.length = 32
  c0 : 0 ≤ t.counter
  c1 : t.counter ≤ 1073741824
  name : t.name.length ≤ 12
theorem nextB_ok {bk : Int} {name m mind : List UInt8} {counter : Int} (h0 : 0 ≤ bk) (h1 : bk ≤ 1) (hm : m.length ≤ 512) (hn : name.length ≤ 12) (hc : 0 ≤ counter ∧ counter ≤ 1073741824) : OkBS (nextB bk name m counter mind) :=
  ⟨h0, h1, by show (0 : Int) ≤ (m.length : Int); omega, by show (m.length : Int) ≤ 512; omega, sha_len m, hc.1, hc.2, hn⟩
theorem boot_inv {s : FS} {t : BS} {im : List UInt8} (h : bootB s = (t, im, 0)) : 96 ≤ s.pg.length ∧ (loadS s).2.2 = 0 ∧ stateS (loadS s).1 = (t, true) ∧ sha (imageS s t) = t.sum ∧ imageS s t = im := by
  unfold bootB at h
  split at h
  · simp at h
  rename_i h1
  split at h
  · rename_i h2
    simp only [Prod.mk.injEq] at h
    exact absurd h.2.2 h2
  rename_i h2
  split at h
  · simp at h
  rename_i h3
  split at h
  · rename_i h4
    simp only [Prod.mk.injEq] at h
    obtain ⟨rfl, rfl, -⟩ := h
    exact ⟨by omega, Decidable.of_not_not h2, Prod.ext rfl (by simpa using h3), h4, rfl⟩
  · simp at h
theorem image_congr {s s' : FS} (t : BS) (h0 : 0 ≤ t.bank) (h : ∀ i, 80 ≤ i → s'.pg[i]? = s.pg[i]?) (hl : s'.pg.length = s.pg.length) : imageS s' t = imageS s t := by
  rw [imageS, imageS, pagesB_congr (80 + t.bank.toNat * 8) 8 (fun i hi _ => h i (by omega)) hl]
/-- Another mind, kept. -/
theorem Boots.keep {s : FS} {t : BS} {im : List UInt8} {n : Nat} (h : Boots s t im n) (hn : n < 1000000) (ht : OkBS t) (mind : List UInt8) (hmd : mind.length ≤ 2000) :
    ∃ s', keepS s mind = (s', 0) ∧ Boots s' { t with mind := mind } im (n + 1) := by
  obtain ⟨B, T, hld⟩ := h.told
  have h96 := h.len
  obtain ⟨i1, i2, i3, i4, i5⟩ := boot_inv h.boot
  obtain ⟨t', ht'⟩ : ∃ t', ({ t with mind := mind } : BS) = t' := ⟨_, rfl⟩
  have hrl : (recB t').length ≤ 2500 := by
    have e1 := encs_len [t.bank, t.size]
    have e2 := encs_len [t.counter]
    have e3 := enc_len9 t.name.length
    have e4 := enc_len9 mind.length
    have e5 := ht.sum
    have e6 := ht.name
    rw [← ht']
    simp [recB] at e1 e2 ⊢
    omega
  have hst : stateS (recB t') = (t', true) := by
    have e6 := ht.name
    rw [← ht']
    exact stateS_recB _ ht.b0 ht.b1 ht.s0 ht.s1 ht.sum ht.c0 ht.c1 (by show t.name.length ≤ _; omega) (by show mind.length ≤ _; omega)
  have hb' : t'.bank = t.bank := by rw [← ht']
  have hs' : t'.size = t.size := by rw [← ht']
  have hh' : t'.sum = t.sum := by rw [← ht']
  obtain ⟨pg2, s1, s2, s3, s4, _, s6⟩ := save_calm h.calm (by omega) (b := recB t') hrl (by rw [hld]; show n < _; omega)
  rw [hld] at s3
  dsimp only at s3
  obtain ⟨S2, hS2⟩ : ∃ S2, s.with_ pg2 = S2 := ⟨_, rfl⟩
  have hSp : S2.pg = pg2 := by rw [← hS2]; rfl
  rw [hS2] at s1 s3
  have hld2 : loadS S2 = (recB t', n + 1, 0) := load_of (by rw [hSp]; omega) s3 (by split <;> omega)
  have hcS : Calm S2 := by rw [← hS2]; exact h.calm.with_ pg2
  have him : imageS S2 t' = im := by
    have e1 : imageS S2 t' = imageS S2 t := by rw [imageS, imageS, hb', hs']
    rw [e1, ← i5]
    exact image_congr t ht.b0 (fun i hi => by rw [hSp]; exact s4 i hi) (by rw [hSp]; exact s2)
  rw [ht']
  refine ⟨S2, ?_, hcS, by rw [hSp]; omega, ⟨_, _, s3⟩, ?_⟩
  · rw [keepS, h.boot, if_neg (by simp), if_neg (by omega)]
    dsimp only
    rw [ht', s1]
  · rw [bootB, if_neg (by rw [hSp]; omega), hld2]
    dsimp only
    rw [if_neg (by simp), hst]
    dsimp only
    rw [if_neg (by simp), him, hh', ← i4, i5, if_pos rfl]
theorem keep_none (mind : List UInt8) : keepS (newS 96) mind = (newS 96, 9) := by
  have hl := newS_loaded (n := 96) (by omega)
  have hlen : (newS 96).pg.length = 96 := by simp [newS]
  have hb : bootB (newS 96) = (zeroBS, [], 9) := by
    have hl2 : loadS (newS 96) = ([], 0, 9) := by rw [loadS, if_neg (by omega), hl]; rfl
    rw [bootB, if_neg (by omega), hl2]
    rfl
  rw [keepS, hb, if_pos (by simp)]
theorem Boots.keep_long {s : FS} {t : BS} {im : List UInt8} {n : Nat} (h : Boots s t im n) {mind : List UInt8} (hm : 2000 < mind.length) : keepS s mind = (s, 10) := by
  rw [keepS, h.boot, if_neg (by simp), if_pos hm]
theorem Boots.install_long {s : FS} {t : BS} {im : List UInt8} {n : Nat} (h : Boots s t im n) {name m mind : List UInt8} {counter : Int} (hm : 512 < m.length) : installS s name m counter mind = (s, 10) := by
  have e : askedS s name m counter mind = 10 := by
    rw [askedS, if_neg (by have := h.len; omega), if_neg (by rw [h.calm.2]; simp), if_pos (.inl hm)]
  rw [installS, e, if_pos (by simp)]
/-! ### A byte spoilt -/
theorem part_set (m : List UInt8) (k : Nat) (x : UInt8) (i : Nat) : partB (m.set k x) i = if i = k / 64 then (partB m i).set (k % 64) x else partB m i := by
  unfold partB
  rw [List.length_set, List.drop_set]
  by_cases h : i = k / 64
  · rw [if_pos h, if_neg (by omega), List.take_set, show k - i * 64 = k % 64 by omega]
  · rw [if_neg h]
    by_cases h2 : k < i * 64
    · rw [if_pos h2]
    · rw [if_neg h2, List.take_set, List.set_eq_of_length_le]
      rw [List.length_take, List.length_drop]
      omega
theorem fill_set (q : List UInt8) (k : Nat) (x : UInt8) (h : k < q.length) : fillPage (q.set k x) = (fillPage q).set k x := by
  rw [fillPage, fillPage, List.length_set, List.set_append_left _ _ h]
theorem fill_get (q : List UInt8) (k : Nat) (h : k < q.length) : (fillPage q)[k]? = q[k]? := by
  rw [fillPage, List.getElem?_append_left h]
theorem part_get (m : List UInt8) (k : Nat) (h : k < m.length) : (partB m (k / 64))[k % 64]? = m[k]? := by
  unfold partB
  rw [List.getElem?_take, if_pos (by omega), List.getElem?_drop, show k / 64 * 64 + k % 64 = k by omega]
theorem part_len (m : List UInt8) (k : Nat) (h : k < m.length) : k % 64 < (partB m (k / 64)).length := by
  unfold partB
  rw [List.length_take, List.length_drop]
  omega
/-- The image's page, laid anew with a byte spoilt: nothing boots. -/
theorem spoil_bank {s : FS} {m : List UInt8} {name mind : List UInt8} {counter : Int} {n : Nat} (h : Boots s (nextB 0 name m counter mind) m n) (hm : m.length ≤ 512) (hp : ∀ i, i < manyN m → s.pg[80 + i]? = some (fillPage (partB m i))) {k : Nat} (hk : k < m.length) {y : UInt8} (hne : sha (m.set k y) ≠ sha m) :
    ∃ q S2, s.pg[80 + k / 64]? = some q ∧ q.length = 64 ∧ q[k % 64]? = m[k]? ∧ 80 + k / 64 < s.pg.length ∧ eraseE s ((80 + k / 64 : Nat) : Int) = 0 ∧ progE (eraseS s ((80 + k / 64 : Nat) : Int)) ((80 + k / 64 : Nat) : Int) (q.set (k % 64) y) = 0 ∧ progS (eraseS s ((80 + k / 64 : Nat) : Int)) ((80 + k / 64 : Nat) : Int) (q.set (k % 64) y) = S2 ∧ bootB S2 = (zeroBS, [], 8) ∧ Calm S2 ∧ S2.pg.length = 96 := by
  have h96 := h.len
  have hkm : k / 64 < manyN m := by unfold manyN; omega
  have hpl := part_len m k hk
  have hle := partB_le m (k / 64)
  obtain ⟨q, hq⟩ : ∃ q, fillPage (partB m (k / 64)) = q := ⟨_, rfl⟩
  have hq64 : q.length = 64 := by rw [← hq, fillPage, List.length_append, List.length_replicate]; omega
  have hp0 := hp _ hkm
  rw [hq] at hp0
  have hset : q.set (k % 64) y = fillPage (partB (m.set k y) (k / 64)) := by
    rw [part_set, if_pos rfl, fill_set _ _ _ hpl, hq]
  obtain ⟨a1, a2, a3⟩ := anew h.calm (P := 80 + k / 64) (q' := q.set (k % 64) y) (by unfold manyN at hkm; omega) (by simpa using hq64)
  obtain ⟨S2, hS2⟩ : ∃ S2, s.with_ (s.pg.set (80 + k / 64) (q.set (k % 64) y)) = S2 := ⟨_, rfl⟩
  have hSp : S2.pg = s.pg.set (80 + k / 64) (q.set (k % 64) y) := by rw [← hS2]; rfl
  have hSl : S2.pg.length = 96 := by rw [hSp, List.length_set, h96]
  obtain ⟨i1, i2, i3, i4, i5⟩ := boot_inv h.boot
  have hld : loadS S2 = loadS s := by
    have w0 : wholeS S2 0 = wholeS s 0 := wholeS_congr 0 (fun i _ hi => by rw [hSp, List.getElem?_set_ne (by omega)]) (by omega)
    have w1 : wholeS S2 1 = wholeS s 1 := wholeS_congr 1 (fun i _ hi => by rw [hSp, List.getElem?_set_ne (by omega)]) (by omega)
    have : loadedS S2 = loadedS s := by
      show loadGo S2 2 = loadGo s 2
      rw [loadGo_two, loadGo_two, w0, w1]
    rw [loadS, loadS, this, hSl, h96]
  have him : imageS S2 (nextB 0 name m counter mind) = m.set k y := by
    have := image_laid (s := S2) (k := 80) (m := m.set k y) (by simpa using hm) (fun i hi => by
      have hi2 : i < manyN m := by simpa [manyN] using hi
      rw [hSp, List.getElem?_set]
      by_cases he : 80 + k / 64 = 80 + i
      · rw [if_pos he, if_pos (by unfold manyN at hkm; omega), hset, show i = k / 64 by omega]
      · rw [if_neg he, hp i hi2, part_set, if_neg (by omega)])
    rw [List.length_set] at this
    exact this
  refine ⟨q, S2, hp0, hq64, ?_, by unfold manyN at hkm; omega, a1, a2, a3.trans hS2, ?_, by rw [← hS2]; exact h.calm.with_ _, hSl⟩
  · rw [← hq, fill_get _ _ hpl, part_get m k hk]
  · rw [bootB, if_neg (by omega), hld, i3, if_neg (by rw [i2]; simp)]
    dsimp only
    rw [if_neg (by simp), him, if_neg (show ¬ sha (m.set k y) = (nextB 0 name m counter mind).sum from hne)]
theorem install_spoilt {s : FS} (hb : bootB s = (zeroBS, [], 8)) (hc : Calm s) (h96 : s.pg.length = 96) {name m mind : List UInt8} {counter : Int} (hm : m.length ≤ 512) (hnm : name.length ≤ 12) (hmd : mind.length ≤ 2000) (hct : 0 ≤ counter ∧ counter ≤ 1073741824) : installS s name m counter mind = (s, 8) := by
  rw [installS, asked_ok hc h96 hm hnm hmd hct, hb, if_neg (by simp), if_neg (by simp), if_pos (by simp)]
theorem keep_spoilt {s : FS} (hb : bootB s = (zeroBS, [], 8)) (mind : List UInt8) : keepS s mind = (s, 8) := by
  rw [keepS, hb, if_pos (by simp)]
/-! ### An install that is cut -/
theorem progsB_pg (s : FS) (k : Nat) (b : List UInt8) : ∀ j, (progsB s k b j).1.pg.length = s.pg.length ∧ ∀ i, ¬ (k ≤ i ∧ i < k + j) → (progsB s k b j).1.pg[i]? = s.pg[i]? := by
  intro j
  induction j with
  | zero => exact ⟨rfl, fun _ _ => rfl⟩
  | succ j ih =>
    rw [progsB]
    split
    · obtain ⟨h1, h2, _⟩ := prog_pg (progsB s k b j).1 (k + j) (partB b j)
      exact ⟨h1.trans ih.1, fun i hi => (h2 i (by omega)).trans (ih.2 i (by omega))⟩
    · exact ⟨ih.1, fun i hi => ih.2 i (by omega)⟩
theorem layB_pg (s : FS) (k : Nat) (b : List UInt8) : (layB s k b).1.pg.length = s.pg.length ∧ ∀ i, ¬ (k ≤ i ∧ i < k + manyN b) → (layB s k b).1.pg[i]? = s.pg[i]? := by
  obtain ⟨e1, e2, _⟩ := erases_pg s k (manyN b)
  rw [layB]
  split
  · obtain ⟨p1, p2⟩ := progsB_pg (erasesS s k (manyN b)).1 k b (manyN b)
    exact ⟨p1.trans e1, fun i hi => (p2 i hi).trans (e2 i hi)⟩
  · exact ⟨e1, e2⟩
theorem saveS_pg (s : FS) (b : List UInt8) : (saveS s b).1.pg.length = s.pg.length ∧ ∀ i, 80 ≤ i → (saveS s b).1.pg[i]? = s.pg[i]? := by
  rw [saveS]
  split
  · exact ⟨rfl, fun _ _ => rfl⟩
  split
  · exact ⟨rfl, fun _ _ => rfl⟩
  split
  · exact ⟨rfl, fun _ _ => rfl⟩
  split
  · exact ⟨rfl, fun _ _ => rfl⟩
  · have hl := packS_len (((loadedS s).2.1 : Int) + 1) b
    obtain ⟨P, hP⟩ : ∃ P, packS (((loadedS s).2.1 : Int) + 1) b = P := ⟨_, rfl⟩
    rw [hP] at hl ⊢
    have hm : manyN P ≤ 40 := by unfold manyN; omega
    have hs : slotAt (loadedS s).2.2 ≤ 40 := by unfold slotAt; split <;> omega
    obtain ⟨p1, p2, _⟩ := lay_pg s (slotAt (loadedS s).2.2) P (by omega) (by omega)
    exact ⟨p1, fun i hi => p2 i (by omega)⟩
/-- The bank that runs is not touched. -/
theorem install_other (s : FS) (h : (bootB s).2.2 = 0 → (bootB s).1.bank = 0) (h2 : (bootB s).2.2 = 0 ∨ (bootB s).2.2 ≠ 9) (name m mind : List UInt8) (counter : Int) : (installS s name m counter mind).1.pg.length = s.pg.length ∧ ∀ i, 80 ≤ i → i < 88 → (installS s name m counter mind).1.pg[i]? = s.pg[i]? := by
  rw [installS]
  split
  · exact ⟨rfl, fun _ _ _ => rfl⟩
  split
  · exact ⟨rfl, fun _ _ _ => rfl⟩
  split
  · exact ⟨rfl, fun _ _ _ => rfl⟩
  rename_i h3
  have h0 : (bootB s).2.2 = 0 := by omega
  have hk : 80 + (bankOf (bootB s)).toNat * 8 = 88 := by rw [bankOf, if_pos h0, h h0]; rfl
  rw [hk]
  obtain ⟨l1, l2⟩ := layB_pg s 88 m
  split
  · exact ⟨l1, fun i _ hi => l2 i (by omega)⟩
  · obtain ⟨v1, v2⟩ := saveS_pg (layB s 88 m).1 (recB (nextB (bankOf (bootB s)) name m counter mind))
    exact ⟨v1.trans l1, fun i h8 hi => (v2 i h8).trans (l2 i (by omega))⟩
theorem bootB_congr {s t : FS} (h : s.pg = t.pg) : bootB s = bootB t := by
  have e : ∀ u, imageS s u = imageS t u := fun u => by rw [imageS, imageS, pagesB_congr (s := s) (t := t) (80 + u.bank.toNat * 8) 8 (fun i _ _ => by rw [h]) (by rw [h])]
  rw [bootB, bootB, loadS_congr h, h, e]
end Go.Proofs.Ytpjnmijfmfgdpaa
