/- Slots (chapter 12): plain: a save that is cut. -/
import Derived.Test.YtpjnmijfmfgdpaaSlotM
namespace Go.Proofs.Ytpjnmijfmfgdpaa
set_option linter.unusedVariables false
set_option linter.unusedSimpArgs false
open Go.RowKit

theorem bec_pg (s : FS) (i : Nat) (to : List UInt8) : (bec s i to).pg.length = s.pg.length ∧ (∀ j, j ≠ i → (bec s i to).pg[j]? = s.pg[j]?) ∧ (becE s = 0 → (bec s i to).pg = s.pg.set i to) ∧
    (i < s.pg.length → (bec s i to).pg[i]? = some to ∨ ∃ m, (bec s i to).pg[i]? = some (to.take m ++ (s.pg.getD i []).drop m)) := by
  by_cases h : s.fuse = 0
  · rw [bec, becE, if_pos h, if_pos h]
    refine ⟨by simp, fun j hj => by simp [List.getElem?_set_ne (Ne.symm hj)], fun h => by simp at h, fun hi => .inr ⟨s.tear.toNat, by simp [hi]⟩⟩
  · rw [bec, if_neg h]
    exact ⟨by simp, fun j hj => by simp [List.getElem?_set_ne (Ne.symm hj)], fun _ => rfl, fun hi => .inl (by simp [hi])⟩
theorem erase_pg (s : FS) (i : Nat) : (eraseS s (i : Int)).pg.length = s.pg.length ∧ (∀ j, j ≠ i → (eraseS s (i : Int)).pg[j]? = s.pg[j]?) ∧ (eraseE s (i : Int) = 0 → (eraseS s (i : Int)).pg = s.pg.set i blankPage) ∧
    (s.pg[i]? = some blankPage → (eraseS s (i : Int)).pg[i]? = some blankPage) := by
  by_cases h : mayE s (i : Int) 0 = 0
  · obtain ⟨h1, h2, h3, h4⟩ := bec_pg s i blankPage
    rw [eraseS, eraseE, if_pos h, if_pos h, Int.toNat_natCast]
    refine ⟨h1, h2, h3, fun hb => ?_⟩
    have hi := (List.getElem?_eq_some_iff.1 hb).1
    have hd : s.pg.getD i [] = blankPage := by rw [List.getD_eq_getElem?_getD, hb]; rfl
    rcases h4 hi with e | ⟨m, e⟩
    · exact e
    · rw [e, hd, List.take_append_drop]
  · rw [eraseS, eraseE, if_neg h, if_neg h]
    exact ⟨rfl, fun _ _ => rfl, fun e => absurd e h, fun hb => hb⟩
theorem prog_pg (s : FS) (i : Nat) (b : List UInt8) : (progS s (i : Int) b).pg.length = s.pg.length ∧ (∀ j, j ≠ i → (progS s (i : Int) b).pg[j]? = s.pg[j]?) ∧ (progE s (i : Int) b = 0 → (progS s (i : Int) b).pg = s.pg.set i (andPage (s.pg.getD i []) b)) ∧
    (s.pg[i]? = some blankPage → b.length ≤ 64 → 0 < b.length → (progS s (i : Int) b).pg[i]? = some blankPage ∨ ∃ r, (progS s (i : Int) b).pg[i]? = some (b.headD 0 :: r)) := by
  by_cases h : mayE s (i : Int) b.length = 0
  · obtain ⟨h1, h2, h3, h4⟩ := bec_pg s i (andPage (s.pg.getD i []) b)
    rw [progS, progE, if_pos h, if_pos h, Int.toNat_natCast]
    refine ⟨h1, h2, h3, fun hb hl h0 => ?_⟩
    have hi := (List.getElem?_eq_some_iff.1 hb).1
    have hd : s.pg.getD i [] = blankPage := by rw [List.getD_eq_getElem?_getD, hb]; rfl
    rw [hd, and_blank hl] at h4
    rw [hd, and_blank hl]
    obtain ⟨x, t, rfl⟩ : ∃ x t, b = x :: t := by
      cases b with
      | nil => simp at h0
      | cons x t => exact ⟨x, t, rfl⟩
    rcases h4 hi with e | ⟨m, e⟩
    · exact .inr ⟨_, by rw [e]; rfl⟩
    · cases m with
      | zero => exact .inl (by rw [e]; simp)
      | succ m => exact .inr ⟨_, by rw [e, fillPage, List.cons_append, List.take_succ_cons, List.cons_append]; rfl⟩
  · rw [progS, progE, if_neg h, if_neg h]
    exact ⟨rfl, fun _ _ => rfl, fun e => absurd e h, fun hb _ _ => .inl hb⟩

theorem erases_pg (s : FS) (k n : Nat) : (erasesS s k n).1.pg.length = s.pg.length ∧ (∀ i, ¬ (k ≤ i ∧ i < k + n) → (erasesS s k n).1.pg[i]? = s.pg[i]?) ∧
    (s.pg[k]? = some blankPage → (erasesS s k n).1.pg[k]? = some blankPage) ∧ ((erasesS s k n).2 = 0 → ∀ i, k ≤ i → i < k + n → i < s.pg.length → (erasesS s k n).1.pg[i]? = some blankPage) := by
  induction n with
  | zero => exact ⟨rfl, fun _ _ => rfl, fun h => h, fun _ i h1 h2 => by omega⟩
  | succ n ih =>
    obtain ⟨h1, h2, h3, h4⟩ := ih
    by_cases h : (erasesS s k n).2 = 0
    · obtain ⟨e1, e2, e3, e4⟩ := erase_pg (erasesS s k n).1 (k + n)
      have hst : erasesS s k (n + 1) = (eraseS (erasesS s k n).1 ((k + n : Nat) : Int), eraseE (erasesS s k n).1 ((k + n : Nat) : Int)) := by rw [erasesS, if_pos h]
      rw [hst]
      refine ⟨e1.trans h1, fun i hi => (e2 i (by omega)).trans (h2 i (by omega)), fun hb => ?_, fun h0 i hk hi hl => ?_⟩
      · by_cases hn : n = 0
        · subst hn
          exact e4 (h3 hb)
        · rw [e2 k (by omega)]
          exact h3 hb
      · by_cases he : i = k + n
        · subst he
          show (eraseS (erasesS s k n).1 ((k + n : Nat) : Int)).pg[k + n]? = _
          rw [e3 h0]
          simp [h1, hl]
        · show (eraseS (erasesS s k n).1 ((k + n : Nat) : Int)).pg[i]? = _
          rw [e2 i he]
          exact h4 h i hk (by omega) hl
    · have hst : erasesS s k (n + 1) = erasesS s k n := by rw [erasesS, if_neg h]
      rw [hst]
      exact ⟨h1, fun i hi => h2 i (by omega), h3, fun h0 => absurd h0 h⟩
theorem progs_pg (s : FS) (k n : Nat) (b : List UInt8) (hb : 0 < b.length) (hn : 0 < n) : ∀ j, j ≤ n → (progsS s k n b j).1.pg.length = s.pg.length ∧ (∀ i, ¬ (k ≤ i ∧ i < k + n) → (progsS s k n b j).1.pg[i]? = s.pg[i]?) ∧
    (s.pg[k]? = some blankPage → (j < n → (progsS s k n b j).1.pg[k]? = some blankPage) ∧ ((progsS s k n b j).1.pg[k]? = some blankPage ∨ ∃ r, (progsS s k n b j).1.pg[k]? = some (b.headD 0 :: r))) := by
  intro j
  induction j with
  | zero => exact fun _ => ⟨rfl, fun _ _ => rfl, fun h => ⟨fun _ => h, .inl h⟩⟩
  | succ j ih =>
    intro hj
    obtain ⟨h1, h2, h3⟩ := ih (by omega)
    by_cases h : (progsS s k n b j).2 = 0
    · obtain ⟨m, hm⟩ : ∃ m, (j + 1) % n = m := ⟨_, rfl⟩
      have hm2 : (j + 1 < n ∧ m = j + 1) ∨ (j + 1 = n ∧ m = 0) := by
        by_cases hlt : j + 1 < n
        · exact .inl ⟨hlt, by rw [← hm, Nat.mod_eq_of_lt hlt]⟩
        · have : j + 1 = n := by omega
          exact .inr ⟨this, by rw [← hm, this, Nat.mod_self]⟩
      obtain ⟨e1, e2, e3, e4⟩ := prog_pg (progsS s k n b j).1 (k + m) (partB b m)
      have hst : progsS s k n b (j + 1) = (progS (progsS s k n b j).1 ((k + m : Nat) : Int) (partB b m), progE (progsS s k n b j).1 ((k + m : Nat) : Int) (partB b m)) := by rw [progsS, if_pos h, hm]
      rw [hst]
      refine ⟨e1.trans h1, fun i hi => (e2 i (by omega)).trans (h2 i (by omega)), fun hbk => ?_⟩
      obtain ⟨h5, h6⟩ := h3 hbk
      rcases hm2 with ⟨hlt, rfl⟩ | ⟨hlt, rfl⟩
      · have : (progS (progsS s k n b j).1 ((k + (j + 1) : Nat) : Int) (partB b (j + 1))).pg[k]? = some blankPage := by rw [e2 k (by omega)]; exact h5 (by omega)
        exact ⟨fun _ => this, .inl this⟩
      · refine ⟨fun hx => by omega, ?_⟩
        rw [Nat.add_zero] at e4 ⊢
        have hp0 : partB b 0 = b.take 64 := by
          rw [partB, Nat.zero_mul, List.drop_zero, List.take_eq_take_iff]
          omega
        have hh : (partB b 0).headD 0 = b.headD 0 := by
          rw [hp0]
          cases b with
          | nil => rfl
          | cons x t => rfl
        have := e4 (h5 (by omega)) (partB_le b 0) (by rw [hp0, List.length_take]; omega)
        rwa [hh] at this
    · have hst : progsS s k n b (j + 1) = progsS s k n b j := by rw [progsS, if_neg h]
      rw [hst]
      exact ⟨h1, h2, fun hbk => ⟨fun hx => (h3 hbk).1 (by omega), (h3 hbk).2⟩⟩
theorem progs_ok (s : FS) (k n : Nat) (b : List UInt8) (hn : k + n ≤ s.pg.length) (hb : ∀ i, i < n → s.pg[k + i]? = some blankPage) :
    ∀ j, j ≤ n → (progsS s k n b j).2 = 0 → (progsS s k n b j).1.pg.length = s.pg.length ∧ ∀ i, (progsS s k n b j).1.pg[i]? = if (k < i ∧ i < k + n ∧ i ≤ k + j) ∨ (i = k ∧ 0 < n ∧ j = n) then some (fillPage (partB b (i - k))) else s.pg[i]? := by
  intro j
  induction j with
  | zero =>
    intro _ _
    exact ⟨rfl, fun i => by rw [if_neg (by omega)]; rfl⟩
  | succ j ih =>
    intro hj h0
    have h : (progsS s k n b j).2 = 0 := by
      by_cases h : (progsS s k n b j).2 = 0
      · exact h
      · have hst : progsS s k n b (j + 1) = progsS s k n b j := by rw [progsS, if_neg h]
        rw [hst] at h0
        exact h0
    obtain ⟨h2, h3⟩ := ih (by omega) h
    obtain ⟨m, hm⟩ : ∃ m, (j + 1) % n = m := ⟨_, rfl⟩
    have hm2 : (j + 1 < n ∧ m = j + 1) ∨ (j + 1 = n ∧ m = 0) := by
      by_cases hlt : j + 1 < n
      · exact .inl ⟨hlt, by rw [← hm, Nat.mod_eq_of_lt hlt]⟩
      · have : j + 1 = n := by omega
        exact .inr ⟨this, by rw [← hm, this, Nat.mod_self]⟩
    have hpl := partB_le b m
    obtain ⟨e1, _, e3, _⟩ := prog_pg (progsS s k n b j).1 (k + m) (partB b m)
    have hst : progsS s k n b (j + 1) = (progS (progsS s k n b j).1 ((k + m : Nat) : Int) (partB b m), progE (progsS s k n b j).1 ((k + m : Nat) : Int) (partB b m)) := by rw [progsS, if_pos h, hm]
    rw [hst] at h0 ⊢
    have e5 := e3 h0
    have hq : (progsS s k n b j).1.pg.getD (k + m) [] = blankPage := by
      rw [List.getD_eq_getElem?_getD, h3, if_neg (by omega), hb m (by omega)]
      rfl
    rw [hq, and_blank hpl] at e5
    refine ⟨e1.trans h2, fun i => ?_⟩
    show (progS (progsS s k n b j).1 ((k + m : Nat) : Int) (partB b m)).pg[i]? = _
    rw [e5, List.getElem?_set]
    by_cases hi : k + m = i
    · rw [if_pos hi, if_pos (by omega), if_pos (by omega), show i - k = m by omega]
    · rw [if_neg hi, h3]
      by_cases hc : (k < i ∧ i < k + n ∧ i ≤ k + j) ∨ (i = k ∧ 0 < n ∧ j = n)
      · rw [if_pos hc, if_pos (by omega)]
      · rw [if_neg hc, if_neg (by omega)]
/-- Bytes laid, whatever cuts it. -/
theorem lay_pg (s : FS) (k : Nat) (b : List UInt8) (hb : 0 < b.length) (hn : k + manyN b ≤ s.pg.length) :
    (layS s k b).1.pg.length = s.pg.length ∧ (∀ i, ¬ (k ≤ i ∧ i < k + manyN b) → (layS s k b).1.pg[i]? = s.pg[i]?) ∧
    (s.pg[k]? = some blankPage → (layS s k b).1.pg[k]? = some blankPage ∨ ∃ r, (layS s k b).1.pg[k]? = some (b.headD 0 :: r)) ∧
    ((layS s k b).2 = 0 → ∀ i, i < manyN b → (layS s k b).1.pg[k + i]? = some (fillPage (partB b i))) := by
  have hm : 0 < manyN b := by unfold manyN; omega
  obtain ⟨e1, e2, e3, e4⟩ := erases_pg s k (manyN b)
  by_cases h : (erasesS s k (manyN b)).2 = 0
  · have hst : layS s k b = progsS (erasesS s k (manyN b)).1 k (manyN b) b (manyN b) := by rw [layS, if_pos h]
    obtain ⟨p1, p2, p3⟩ := progs_pg (erasesS s k (manyN b)).1 k (manyN b) b hb hm (manyN b) (Nat.le_refl _)
    rw [hst]
    refine ⟨p1.trans e1, fun i hi => (p2 i hi).trans (e2 i hi), fun hbk => (p3 (e3 hbk)).2, fun h0 i hi => ?_⟩
    have := (progs_ok (erasesS s k (manyN b)).1 k (manyN b) b (by rw [e1]; exact hn) (fun i hi => e4 h _ (by omega) (by omega) (by omega)) (manyN b) (Nat.le_refl _) h0).2 (k + i)
    rw [this, if_pos (by omega), show k + i - k = i by omega]
  · have hst : layS s k b = erasesS s k (manyN b) := by rw [layS, if_neg h]
    rw [hst]
    exact ⟨e1, e2, fun hbk => .inl (e3 hbk), fun h0 => absurd h0 h⟩
theorem enc2 : enc 2 = [2] := by
  rw [enc, if_pos (by omega)]
  rfl
theorem packS_head (b : List UInt8) : (packS 2 b).headD 0 = 2 := by
  rw [packS, packB, show clamp 2 = 2 from rfl, enc2]
  rfl
/-- A slot whose first byte is a number below 128: no other number is told. -/
theorem whole_head {s : FS} {k : Nat} {r : List UInt8} (h : s.pg[k * 40]? = some (2 :: r)) : wholeS s k = none ∨ ∃ b, wholeS s k = some (b, 2) := by
  have e : pagesB s (k * 40) 40 = (2 :: r) ++ pagesB s (k * 40 + 1) 39 := by
    rw [show (40 : Nat) = 1 + 39 from rfl, show k * (1 + 39) = k * 40 from rfl, pagesB_add]
    congr 1
    show [] ++ readB s ((k * 40 + 0 : Nat) : Int) = _
    rw [List.nil_append, Nat.add_zero, readB_get h]
  have hx : nNum (pagesB s (k * 40) 40) false = (2, r ++ pagesB s (k * 40 + 1) 39, false) := by
    rw [e, show (2 :: r) ++ pagesB s (k * 40 + 1) 39 = enc (clamp 2) ++ (r ++ pagesB s (k * 40 + 1) 39) from by rw [show clamp 2 = 2 from rfl, enc2]; rfl, nNum_enc]
    rfl
  rw [wholeS, wholeP, hx]
  dsimp only
  split
  · exact .inl rfl
  · exact .inr ⟨_, rfl⟩
theorem loadedS_congr {s t : FS} (h : s.pg = t.pg) : loadedS s = loadedS t := by
  have w0 : wholeS s 0 = wholeS t 0 := wholeS_congr 0 (fun _ _ _ => by rw [h]) (by rw [h])
  have w1 : wholeS s 1 = wholeS t 1 := wholeS_congr 1 (fun _ _ _ => by rw [h]) (by rw [h])
  show loadGo s 2 = loadGo t 2
  rw [loadGo_two, loadGo_two, w0, w1]
/-- What SlotEach plays on a flash, in plain. -/
theorem each_plain (a b : List UInt8) (n tear : Int) (ha : a.length ≤ 400) (hb : b.length ≤ 400) :
    ∃ (Sa S1 : FS) (E1 : Int) (y : List UInt8) (N : Nat) (T : Int), saveS (newS 80) a = (Sa, 0) ∧ saveS (fuseS Sa n tear) b = (S1, E1) ∧ Calm (bootS S1) ∧ 80 ≤ (bootS S1).pg.length ∧ loadedS (bootS S1) = (y, N, T) ∧ 0 ≤ T ∧ N ≤ 2 ∧ (E1 = 0 → y = b) := by
  have h0 := newS_loaded (n := 80) (by omega)
  obtain ⟨pg, e1, e2, e3, _, e5, e6⟩ := save_calm (newS_calm 80) (by simp [newS]) (b := a) (by omega) (by rw [h0]; decide)
  rw [h0] at e3 e5 e6
  have hk : slotAt (-1) = 0 := rfl
  dsimp only at e3 e5 e6
  rw [hk] at e5 e6
  rw [if_neg (by omega)] at e3
  have hlen : pg.length = 80 := by rw [e2]; simp [newS]
  obtain ⟨Sa, hSa⟩ : ∃ Sa, (newS 80).with_ pg = Sa := ⟨_, rfl⟩
  have hSpg : Sa.pg = pg := by rw [← hSa]; rfl
  have hSd : Sa.dead = false := by rw [← hSa]; rfl
  rw [hSa] at e1 e3
  have hb40 : (fuseS Sa n tear).pg[40]? = some blankPage := by
    show Sa.pg[40]? = _
    rw [hSpg, e6 40 (by omega), newS, List.getElem?_replicate, if_pos (by omega)]
  have hw0 : wholeS (fuseS Sa n tear) 0 = some (a, 1) := by
    have := whole_calm (s := fuseS Sa n tear) (k := 0) (n := 1) (b := a) (by omega) (by omega) (by omega) (fun i hi => by
      show Sa.pg[0 * 40 + i]? = _
      rw [hSpg, Nat.zero_mul]
      have := e5 i (by simpa using hi)
      simpa using this)
    rw [this]
    rfl
  have hlf : loadedS (fuseS Sa n tear) = (a, 1, 0) := (loadedS_congr rfl).trans e3
  have hlF : (fuseS Sa n tear).pg.length = 80 := by show Sa.pg.length = 80; rw [hSpg, hlen]
  obtain ⟨SF, hSF⟩ : ∃ SF, fuseS Sa n tear = SF := ⟨_, rfl⟩
  have hSFd : SF.dead = false := by rw [← hSF]; exact hSd
  rw [hSF] at hb40 hw0 hlf hlF
  have hsv : saveS SF b = layS SF 40 (packS 2 b) := by
    rw [saveS, if_neg (by omega), if_neg (by rw [hSFd]; simp), if_neg (by omega), hlf]
    dsimp only
    rw [if_neg (by omega)]
    rfl
  have hpl := packS_len 2 b
  have hmn : manyN (packS 2 b) ≤ 40 := by unfold manyN; omega
  obtain ⟨p1, p2, p3, p4⟩ := lay_pg SF 40 (packS 2 b) (by omega) (by omega)
  obtain ⟨S1, hS1⟩ : ∃ S1, (layS SF 40 (packS 2 b)).1 = S1 := ⟨_, rfl⟩
  obtain ⟨E1, hE1⟩ : ∃ E1, (layS SF 40 (packS 2 b)).2 = E1 := ⟨_, rfl⟩
  rw [hS1] at p1 p2 p3 p4
  rw [hE1] at p4
  have hlay : layS SF 40 (packS 2 b) = (S1, E1) := by rw [← hS1, ← hE1]
  have q0 : wholeS (bootS S1) 0 = some (a, 1) := by
    rw [← hw0]
    exact wholeS_congr 0 (fun i _ hi => p2 i (by omega)) p1
  have q1 : wholeS (bootS S1) 1 = none ∨ ∃ b', wholeS (bootS S1) 1 = some (b', 2) := by
    rcases p3 hb40 with h | ⟨r, h⟩
    · exact .inl (whole_blank (k := 1) h)
    · rw [packS_head] at h
      exact whole_head (k := 1) h
  have q2 : E1 = 0 → wholeS (bootS S1) 1 = some (b, 2) := fun h => whole_calm (s := bootS S1) (k := 1) (n := 2) (b := b) (by omega) (by omega) (by omega) (fun i hi => p4 h i hi)
  have hl2 : loadedS (bootS S1) = stepL 1 (wholeS (bootS S1) 1) (stepL 0 (wholeS (bootS S1) 0) ([], 0, -1)) := rfl
  have e0 : stepL 0 (some (a, 1)) ([], 0, -1) = (a, 1, 0) := rfl
  rw [q0, e0] at hl2
  have hc : Calm (bootS S1) := ⟨rfl, rfl⟩
  have h80 : 80 ≤ (bootS S1).pg.length := by show 80 ≤ S1.pg.length; omega
  rcases q1 with h | ⟨b', h⟩
  · rw [h] at hl2
    exact ⟨Sa, S1, E1, a, 1, 0, e1, by rw [hSF, hsv, hlay], hc, h80, hl2, by omega, by omega, fun hz => by rw [q2 hz] at h; cases h⟩
  · rw [h] at hl2
    have e4 : stepL 1 (some (b', 2)) (a, 1, 0) = (b', 2, 1) := rfl
    rw [e4] at hl2
    refine ⟨Sa, S1, E1, b', 2, 1, e1, by rw [hSF, hsv, hlay], hc, h80, hl2, by omega, by omega, fun hz => ?_⟩
    rw [q2 hz] at h
    exact (congrArg Prod.fst (Option.some.inj h)).symm
end Go.Proofs.Ytpjnmijfmfgdpaa
