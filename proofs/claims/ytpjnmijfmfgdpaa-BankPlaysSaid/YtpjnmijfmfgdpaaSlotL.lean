/- Slots (chapter 12): plain laws of a save that nothing cuts. -/
import Derived.Test.YtpjnmijfmfgdpaaSlotP
namespace Go.Proofs.Ytpjnmijfmfgdpaa
set_option linter.unusedVariables false
set_option linter.unusedSimpArgs false
open Go.RowKit

/-- The power is on, and there is no fuse. -/
def Calm (s : FS) : Prop := s.fuse = -1 ∧ s.dead = false
/-- A state whose pages are others. -/
def FS.with_ (s : FS) (pg : List (List UInt8)) : FS := { s with pg := pg }
theorem Calm.with_ {s : FS} (h : Calm s) (pg : List (List UInt8)) : Calm (s.with_ pg) := h
theorem may_calm {s : FS} (h : Calm s) {i n : Nat} (hi : i < s.pg.length) (hn : n ≤ 64) : mayE s (i : Int) n = 0 := by
  rw [mayE, if_neg (by rw [h.2]; simp), if_neg (by simp [hasB]; omega)]
theorem bec_calm {s : FS} (h : Calm s) (i : Nat) (to : List UInt8) : bec s i to = s.with_ (s.pg.set i to) ∧ becE s = 0 := by
  refine ⟨?_, by rw [becE, if_neg (by rw [h.1]; omega)]⟩
  rw [bec, if_neg (by rw [h.1]; omega), h.1]
  rw [show max ((-1 : Int) - 1) (-1) = -1 by omega, ← h.1]
  rfl
theorem erase_calm {s : FS} (h : Calm s) {i : Nat} (hi : i < s.pg.length) : eraseS s (i : Int) = s.with_ (s.pg.set i blankPage) ∧ eraseE s (i : Int) = 0 := by
  have hm := may_calm h hi (n := 0) (by omega)
  rw [eraseS, eraseE, if_pos hm, if_pos hm, Int.toNat_natCast]
  exact bec_calm h i blankPage
theorem prog_calm {s : FS} (h : Calm s) {i : Nat} (hi : i < s.pg.length) {b : List UInt8} (hb : b.length ≤ 64) : progS s (i : Int) b = s.with_ (s.pg.set i (andPage (s.pg.getD i []) b)) ∧ progE s (i : Int) b = 0 := by
  have hm := may_calm h hi hb
  rw [progS, progE, if_pos hm, if_pos hm, Int.toNat_natCast]
  exact bec_calm h i _
/-- A page that bytes were laid into. -/
def fillPage (q : List UInt8) : List UInt8 := q ++ List.replicate (64 - q.length) 255
theorem and255 (x : UInt8) : (255 : UInt8) &&& x = x := by
  have h : ∀ a, a < 256 → (255 : UInt8) &&& UInt8.ofNat a = UInt8.ofNat a := by decide +kernel
  have := h x.toNat x.toNat_lt
  rwa [UInt8.ofNat_toNat] at this
theorem and_blank {q : List UInt8} (h : q.length ≤ 64) : andPage blankPage q = fillPage q := by
  unfold andPage fillPage blankPage
  rw [List.drop_replicate]
  congr 1
  have : ∀ (q : List UInt8) (n : Nat), q.length ≤ n → List.zipWith (· &&& ·) (List.replicate n (255 : UInt8)) q = q := by
    intro q
    induction q with
    | nil => intro n _; simp
    | cons x q ih =>
      intro n hn
      obtain ⟨m, rfl⟩ : ∃ m, n = m + 1 := ⟨n - 1, by simp at hn; omega⟩
      rw [List.replicate_succ, List.zipWith_cons_cons, ih m (by simpa using hn), and255]
  exact this q 64 h
/-- What the pages are behind so many erasures. -/
theorem erases_calm {s : FS} (h : Calm s) (k : Nat) : ∀ n, k + n ≤ s.pg.length → ∃ pg, erasesS s k n = (s.with_ pg, 0) ∧ pg.length = s.pg.length ∧ ∀ i, pg[i]? = if k ≤ i ∧ i < k + n then some blankPage else s.pg[i]? := by
  intro n
  induction n with
  | zero => intro _; exact ⟨s.pg, rfl, rfl, fun i => by rw [if_neg (by omega)]⟩
  | succ n ih =>
    intro hn
    obtain ⟨pg, h1, h2, h3⟩ := ih (by omega)
    have he := erase_calm (h.with_ pg) (i := k + n) (show k + n < pg.length by omega)
    refine ⟨pg.set (k + n) blankPage, ?_, by simp [h2], fun i => ?_⟩
    · rw [erasesS, h1, if_pos rfl, he.1, he.2]
      rfl
    · rw [List.getElem?_set]
      by_cases hi : k + n = i
      · subst hi
        rw [if_pos rfl, if_pos (by omega), if_pos (by omega)]
      · rw [if_neg hi, h3]
        by_cases hj : k ≤ i ∧ i < k + n
        · rw [if_pos hj, if_pos (by omega)]
        · rw [if_neg hj, if_neg (by omega)]
theorem partB_le (b : List UInt8) (i : Nat) : (partB b i).length ≤ 64 := by
  unfold partB
  rw [List.length_take, List.length_drop]
  omega
/-- What the pages are behind so many of the programmings: j of n, the first page last. -/
theorem progs_calm {s : FS} (h : Calm s) (k n : Nat) (b : List UInt8) (hn : k + n ≤ s.pg.length) (hb : ∀ i, i < n → s.pg[k + i]? = some blankPage) :
    ∀ j, j ≤ n → ∃ pg, progsS s k n b j = (s.with_ pg, 0) ∧ pg.length = s.pg.length ∧ ∀ i, pg[i]? = if (k < i ∧ i < k + n ∧ i ≤ k + j) ∨ (i = k ∧ 0 < n ∧ j = n) then some (fillPage (partB b (i - k))) else s.pg[i]? := by
  intro j
  induction j with
  | zero =>
    intro _
    refine ⟨s.pg, rfl, rfl, fun i => ?_⟩
    rw [if_neg (by omega)]
  | succ j ih =>
    intro hj
    obtain ⟨pg, h1, h2, h3⟩ := ih (by omega)
    obtain ⟨m, hm⟩ : ∃ m, (j + 1) % n = m := ⟨_, rfl⟩
    have hm2 : (j + 1 < n ∧ m = j + 1) ∨ (j + 1 = n ∧ m = 0) := by
      by_cases hlt : j + 1 < n
      · exact .inl ⟨hlt, by rw [← hm, Nat.mod_eq_of_lt hlt]⟩
      · have : j + 1 = n := by omega
        exact .inr ⟨this, by rw [← hm, this, Nat.mod_self]⟩
    have hpl := partB_le b m
    have hp := prog_calm (h.with_ pg) (i := k + m) (show k + m < pg.length by omega) hpl
    have hq : pg.getD (k + m) [] = blankPage := by
      rw [List.getD_eq_getElem?_getD, h3, if_neg (by omega), hb m (by omega)]
      rfl
    rw [show (s.with_ pg).pg = pg from rfl, hq, and_blank hpl] at hp
    refine ⟨pg.set (k + m) (fillPage (partB b m)), ?_, by simp [h2], fun i => ?_⟩
    · rw [progsS, h1, if_pos rfl, hm, hp.1, hp.2]
      rfl
    · rw [List.getElem?_set]
      by_cases hi : k + m = i
      · rw [if_pos hi, if_pos (by omega), if_pos (by omega), show i - k = m by omega]
      · rw [if_neg hi, h3]
        by_cases hc : (k < i ∧ i < k + n ∧ i ≤ k + j) ∨ (i = k ∧ 0 < n ∧ j = n)
        · rw [if_pos hc, if_pos (by omega)]
        · rw [if_neg hc, if_neg (by omega)]
/-- Bytes laid. -/
theorem lay_calm {s : FS} (h : Calm s) (k : Nat) (b : List UInt8) (hn : k + manyN b ≤ s.pg.length) :
    ∃ pg, layS s k b = (s.with_ pg, 0) ∧ pg.length = s.pg.length ∧ ∀ i, pg[i]? = if k ≤ i ∧ i < k + manyN b then some (fillPage (partB b (i - k))) else s.pg[i]? := by
  obtain ⟨p1, h1, h2, h3⟩ := erases_calm h k (manyN b) hn
  obtain ⟨p2, h4, h5, h6⟩ := progs_calm (h.with_ p1) k (manyN b) b (by rw [show (s.with_ p1).pg = p1 from rfl, h2]; exact hn) (fun i hi => by rw [show (s.with_ p1).pg = p1 from rfl, h3, if_pos (by omega)]) (manyN b) (Nat.le_refl _)
  refine ⟨p2, ?_, by rw [h5]; exact h2, fun i => ?_⟩
  · rw [layS, h1, if_pos rfl, h4]
    rfl
  · rw [h6, show (s.with_ p1).pg = p1 from rfl, h3]
    by_cases hc : k ≤ i ∧ i < k + manyN b
    · rw [if_pos (show (k < i ∧ i < k + manyN b ∧ i ≤ k + manyN b) ∨ (i = k ∧ 0 < manyN b ∧ manyN b = manyN b) by omega), if_pos hc]
    · rw [if_neg (show ¬ ((k < i ∧ i < k + manyN b ∧ i ≤ k + manyN b) ∨ (i = k ∧ 0 < manyN b ∧ manyN b = manyN b)) by omega), if_neg hc, if_neg hc]
/-! ### What a slot tells behind it -/
theorem readB_get {s : FS} {i : Nat} {q : List UInt8} (h : s.pg[i]? = some q) : readB s (i : Int) = q := by
  have hi := (List.getElem?_eq_some_iff.1 h).1
  rw [readB, if_pos (by simp [hasB]; omega), Int.toNat_natCast, List.getD_eq_getElem?_getD, h]
  rfl
theorem readB_congr {s t : FS} {i : Nat} (h : s.pg[i]? = t.pg[i]?) (hl : s.pg.length = t.pg.length) : readB s (i : Int) = readB t (i : Int) := by
  unfold readB hasB
  rw [hl, Int.toNat_natCast, List.getD_eq_getElem?_getD, List.getD_eq_getElem?_getD, h]
theorem pagesB_congr {s t : FS} (k n : Nat) (h : ∀ i, k ≤ i → i < k + n → s.pg[i]? = t.pg[i]?) (hl : s.pg.length = t.pg.length) : pagesB s k n = pagesB t k n := by
  induction n with
  | zero => rfl
  | succ n ih =>
    rw [pagesB, pagesB, ih (fun i h1 h2 => h i h1 (by omega)), readB_congr (h (k + n) (by omega) (by omega)) hl]
theorem wholeS_congr {s t : FS} (k : Nat) (h : ∀ i, k * 40 ≤ i → i < k * 40 + 40 → s.pg[i]? = t.pg[i]?) (hl : s.pg.length = t.pg.length) : wholeS s k = wholeS t k := by
  rw [wholeS, wholeS, pagesB_congr (k * 40) 40 h hl]
theorem pagesB_add (s : FS) (k a b : Nat) : pagesB s k (a + b) = pagesB s k a ++ pagesB s (k + a) b := by
  induction b with
  | zero => simp [pagesB]
  | succ b ih =>
    show pagesB s k (a + b) ++ readB s ((k + (a + b) : Nat) : Int) = _
    rw [ih, pagesB, List.append_assoc, show k + (a + b) = k + a + b by omega]
/-- The parts, laid one behind the other: bytes, and then what is left of the last page. -/
theorem parts_join {s : FS} (k : Nat) (b : List UInt8) (h : ∀ i, i < manyN b → s.pg[k + i]? = some (fillPage (partB b i))) : ∀ n, n ≤ manyN b → ∃ r, pagesB s k n = b.take (n * 64) ++ r ∧ (n < manyN b → r = []) := by
  intro n
  induction n with
  | zero => intro _; exact ⟨[], by simp [pagesB], fun _ => rfl⟩
  | succ n ih =>
    intro hn
    obtain ⟨r, h1, h2⟩ := ih (by omega)
    have hr := h2 (by omega)
    subst hr
    have hb : n * 64 < b.length := by unfold manyN at hn; omega
    refine ⟨List.replicate (64 - (partB b n).length) 255, ?_, fun hlt => ?_⟩
    · rw [pagesB, h1, List.append_nil, readB_get (h n (by omega)), fillPage, ← List.append_assoc]
      congr 1
      rw [partB, show (n + 1) * 64 = n * 64 + 64 by omega, List.take_add]
      congr 1
      rw [List.take_eq_take_iff, List.length_drop]
      omega
    · have hl : (partB b n).length = 64 := by
        unfold partB
        rw [List.length_take, List.length_drop]
        unfold manyN at hlt
        omega
      rw [hl]
      rfl
theorem whole_pack (n : Int) (b r : List UInt8) (h1 : 1 ≤ n) (h2 : n ≤ 1073741824) (hb : b.length ≤ 2500) : wholeP (packS n b ++ r) = some (b, n.toNat) := by
  have hc : clamp n = n.toNat := by unfold clamp; omega
  have e1 : packS n b ++ r = enc (clamp n) ++ (enc (clamp b.length) ++ b ++ (sha (packB n b) ++ r)) := by
    rw [packS]
    conv => lhs; rw [packB]
    simp only [List.append_assoc]
    rw [packB]
  have hx : nNum (packS n b ++ r) false = (clamp n, enc (clamp b.length) ++ b ++ (sha (packB n b) ++ r), false) := by rw [e1, nNum_enc]
  have hy : nBytes (enc (clamp b.length) ++ b ++ (sha (packB n b) ++ r)) false = (b, sha (packB n b) ++ r, false) := nBytes_enc b _ false (by omega)
  have hp : prefB (packS n b ++ r) (packS ((clamp n : Nat) : Int) b) = true := by
    rw [hc, show ((n.toNat : Nat) : Int) = n by omega]
    unfold prefB
    rw [decide_eq_true (by rw [List.length_append]; omega), List.take_left]
    simp
  unfold wholeP
  rw [hx]
  dsimp only
  rw [hy]
  dsimp only
  rw [hp, if_neg (by simp; omega), hc]
/-- A slot behind a save. -/
theorem whole_calm {s : FS} {k : Nat} {n : Int} {b : List UInt8} (h1 : 1 ≤ n) (h2 : n ≤ 1073741824) (hb : b.length ≤ 2500) (h : ∀ i, i < manyN (packS n b) → s.pg[k * 40 + i]? = some (fillPage (partB (packS n b) i))) : wholeS s k = some (b, n.toNat) := by
  have hl := packS_len n b
  obtain ⟨r, e, _⟩ := parts_join (k * 40) (packS n b) h (manyN (packS n b)) (Nat.le_refl _)
  rw [List.take_of_length_le (by unfold manyN; omega)] at e
  have hm : manyN (packS n b) ≤ 40 := by unfold manyN; omega
  rw [wholeS, show (40 : Nat) = manyN (packS n b) + (40 - manyN (packS n b)) by omega]
  rw [show k * (manyN (packS n b) + (40 - manyN (packS n b))) = k * 40 by congr 1; omega, pagesB_add, e, List.append_assoc]
  exact whole_pack n b _ h1 h2 hb
end Go.Proofs.Ytpjnmijfmfgdpaa
