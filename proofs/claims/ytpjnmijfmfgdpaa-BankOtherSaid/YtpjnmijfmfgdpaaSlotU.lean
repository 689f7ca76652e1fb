/- Slots (chapter 12): plain: a byte that is spoilt. -/
import Derived.Test.YtpjnmijfmfgdpaaSlotT
import Derived.Test.YtpjnmijfmfgdpaaXSlotC
namespace Go.Proofs.Ytpjnmijfmfgdpaa
set_option linter.unusedVariables false
set_option linter.unusedSimpArgs false
open Go.RowKit

theorem fill_full {q : List UInt8} (h : q.length = 64) : fillPage q = q := by rw [fillPage, h]; simp
theorem loadS_congr {s t : FS} (h : s.pg = t.pg) : loadS s = loadS t := by rw [loadS, loadS, loadedS_congr h, h]
/-- A page is laid anew. -/
theorem anew {s : FS} (h : Calm s) {P : Nat} {q' : List UInt8} (hP : P < s.pg.length) (hl : q'.length = 64) :
    eraseE s (P : Int) = 0 ∧ progE (eraseS s (P : Int)) (P : Int) q' = 0 ∧ progS (eraseS s (P : Int)) (P : Int) q' = s.with_ (s.pg.set P q') := by
  obtain ⟨e1, e2⟩ := erase_calm h hP
  rw [e1]
  obtain ⟨p1, p2⟩ := prog_calm (h.with_ (s.pg.set P blankPage)) (i := P) (b := q') (by show P < (s.pg.set P blankPage).length; simpa using hP) (by omega)
  refine ⟨e2, p2, ?_⟩
  rw [p1]
  have hd : (s.with_ (s.pg.set P blankPage)).pg.getD P [] = blankPage := by
    show (s.pg.set P blankPage).getD P [] = _
    simp [hP]
  rw [hd, and_blank (by omega), fill_full hl]
  show ({ s with pg := (s.pg.set P blankPage).set P q' } : FS) = _
  rw [List.set_set]
  rfl
/-- The first i pages as those of another flash, the others blank. -/
def spX (pg : List (List UInt8)) (i : Nat) : FS := ⟨pg.take i ++ List.replicate (80 - i) blankPage, -1, 0, false⟩
theorem spX_zero (pg : List (List UInt8)) : spX pg 0 = newS 80 := rfl
theorem spX_step {pg : List (List UInt8)} (hl : pg.length = 80) {i : Nat} (hi : i < 80) {q : List UInt8} (hq : pg[i]? = some q) (h64 : q.length = 64) : progS (spX pg i) (i : Int) q = spX pg (i + 1) := by
  have hlen : (spX pg i).pg.length = 80 := by show (pg.take i ++ List.replicate (80 - i) blankPage).length = 80; simp; omega
  have hc : Calm (spX pg i) := ⟨rfl, rfl⟩
  rw [(prog_calm hc (i := i) (b := q) (by omega) (by omega)).1]
  have hd : (spX pg i).pg.getD i [] = blankPage := by
    show (pg.take i ++ List.replicate (80 - i) blankPage).getD i [] = _
    rw [List.getD_eq_getElem?_getD, List.getElem?_append_right (by simp; omega), List.getElem?_replicate, if_pos (by simp; omega)]
    rfl
  rw [hd, and_blank (by omega), fill_full h64]
  show (⟨(pg.take i ++ List.replicate (80 - i) blankPage).set i q, -1, 0, false⟩ : FS) = ⟨pg.take (i + 1) ++ List.replicate (80 - (i + 1)) blankPage, -1, 0, false⟩
  congr 1
  rw [List.set_append_right _ _ (by simp; omega), show i - (pg.take i).length = 0 by simp; omega, show 80 - i = (80 - (i + 1)) + 1 by omega, List.replicate_succ, List.set_cons_zero, List.take_add_one, hq]
  simp
theorem spX_end {pg : List (List UInt8)} (hl : pg.length = 80) : (spX pg 80).pg = pg := by
  show pg.take 80 ++ List.replicate (80 - 80) blankPage = pg
  rw [List.take_of_length_le (by omega)]
  simp
theorem told_zero {s : FS} (h80 : 80 ≤ s.pg.length) (h : (loadS s).2.1 = 0) : loadS s = ([], 0, 9) := by
  obtain ⟨n, hn⟩ : ∃ n, wholeN (wholeS s 0) = n := ⟨_, rfl⟩
  obtain ⟨m, hm⟩ : ∃ m, wholeN (wholeS s 1) = m := ⟨_, rfl⟩
  rcases loaded2 s n m hn hm with ⟨_, _, hv⟩ | ⟨h1, _, hv⟩ | ⟨h1, hv⟩
  · rw [loadS, if_neg (by omega), hv]
    rfl
  · rw [load_of h80 hv (by omega)] at h
    dsimp only at h
    omega
  · rw [load_of h80 hv (by omega)] at h
    dsimp only at h
    omega
theorem told_one {s : FS} {a : List UInt8} (h80 : 80 ≤ s.pg.length) (h0 : wholeS s 0 = some (a, 1)) (h : (loadS s).2.1 = 1) : loadS s = (a, 1, 0) := by
  obtain ⟨m, hm⟩ : ∃ m, wholeN (wholeS s 1) = m := ⟨_, rfl⟩
  have hn : wholeN (wholeS s 0) = 1 := by rw [h0]; rfl
  rcases loaded2 s 1 m hn hm with ⟨h1, _, hv⟩ | ⟨_, _, hv⟩ | ⟨h1, hv⟩
  · omega
  · rw [load_of h80 hv (by omega), h0]
    rfl
  · rw [load_of h80 hv (by omega)] at h
    dsimp only at h
    omega
/-- One save; two. -/
theorem spoil_plain (a b : List UInt8) (ha : a.length ≤ 300) (hb : b.length ≤ 300) :
    ∃ (Sa Sb : FS), saveS (newS 80) a = (Sa, 0) ∧ saveS Sa b = (Sb, 0) ∧ Calm Sa ∧ Calm Sb ∧ Sa.pg.length = 80 ∧ Sb.pg.length = 80 ∧ wholeS Sb 0 = some (a, 1) := by
  have h0 := newS_loaded (n := 80) (by omega)
  obtain ⟨pg, e1, e2, e3, _, e5, e6⟩ := save_calm (newS_calm 80) (by simp [newS]) (b := a) (by omega) (by rw [h0]; decide)
  rw [h0] at e3 e5 e6
  dsimp only at e3 e5 e6
  rw [show slotAt (-1) = 0 from rfl] at e5 e6
  rw [if_neg (by omega)] at e3
  have hlen : pg.length = 80 := by rw [e2]; simp [newS]
  obtain ⟨Sa, hSa⟩ : ∃ Sa, (newS 80).with_ pg = Sa := ⟨_, rfl⟩
  have hSpg : Sa.pg = pg := by rw [← hSa]; rfl
  have hca : Calm Sa := by rw [← hSa]; exact (newS_calm 80).with_ pg
  rw [hSa] at e1 e3
  have hw0 : wholeS Sa 0 = some (a, 1) := by
    have := whole_calm (s := Sa) (k := 0) (n := 1) (b := a) (by omega) (by omega) (by omega) (fun i hi => by
      rw [hSpg, Nat.zero_mul]
      have := e5 i (by simpa using hi)
      simpa using this)
    rw [this]
    rfl
  obtain ⟨pg2, f1, f2, _, _, _, f6⟩ := save_calm hca (by rw [hSpg]; omega) (b := b) (by omega) (by rw [e3]; show (0 + 1 : Nat) < 1073741824; omega)
  rw [e3] at f6
  dsimp only at f6
  rw [show slotAt 0 = 40 from rfl] at f6
  refine ⟨Sa, Sa.with_ pg2, e1, f1, hca, hca.with_ pg2, by rw [hSpg, hlen], by show pg2.length = 80; rw [f2, hSpg, hlen], ?_⟩
  rw [← hw0]
  exact wholeS_congr 0 (fun i _ hi => f6 i (by omega)) f2
end Go.Proofs.Ytpjnmijfmfgdpaa
