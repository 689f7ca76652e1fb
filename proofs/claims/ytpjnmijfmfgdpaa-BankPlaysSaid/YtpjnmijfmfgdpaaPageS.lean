/- A flash whose power is on and that has no fuse. -/
import Derived.Test.YtpjnmijfmfgdpaaKnown11
namespace Go.Proofs.Ytpjnmijfmfgdpaa
set_option linter.unusedVariables false
set_option linter.unusedSimpArgs false
open Go.RowKit

def st (pg : List (List UInt8)) : FS := ⟨pg, -1, 0, false⟩
theorem may_st {pg : List (List UInt8)} (i : Int) (k : Nat) (n : Nat) (hi : i = k) (hk : k < pg.length) (hn : n ≤ 64) : mayE (st pg) i n = 0 := by
  subst hi
  simp [mayE, st, hasB]
  omega
theorem may_st_bad {pg : List (List UInt8)} (i : Int) (n : Nat) (hi : i < 0 ∨ (pg.length : Int) ≤ i ∨ 64 < n) : mayE (st pg) i n = 1 := by
  rw [mayE, if_neg (by simp [st]), if_pos]
  by_cases hn : 64 < n
  · exact .inr hn
  · left
    cases h : hasB (st pg) i with
    | false => rfl
    | true =>
      obtain ⟨k, rfl, hk⟩ := hasB_nat h
      have hk' : k < pg.length := hk
      omega
theorem prog_st {pg : List (List UInt8)} (i : Int) (k : Nat) (q a : List UInt8) (pg' : List (List UInt8)) (hi : i = k) (hq : pg[k]? = some q) (ha : a.length ≤ 64) (hp : pg.set k (andPage q a) = pg') : progS (st pg) i a = st pg' ∧ progE (st pg) i a = 0 := by
  have hm := may_st (pg := pg) i k a.length hi (List.getElem?_eq_some_iff.1 hq).1 ha
  subst hi
  refine ⟨?_, ?_⟩
  · rw [progS, if_pos hm, bec, if_neg (by simp [st]), Int.toNat_natCast, List.getD_eq_getElem?_getD, show (st pg).pg = pg from rfl, hq, Option.getD_some, hp]
    rfl
  · rw [progE, if_pos hm, becE, if_neg (by simp [st])]
theorem prog_st_bad {pg : List (List UInt8)} (i : Int) (a : List UInt8) (hi : i < 0 ∨ (pg.length : Int) ≤ i ∨ 64 < a.length) : progS (st pg) i a = st pg ∧ progE (st pg) i a = 1 := by
  have hm := may_st_bad (pg := pg) i a.length hi
  refine ⟨?_, ?_⟩
  · rw [progS, hm, if_neg (by omega)]
  · rw [progE, hm, if_neg (by omega)]
theorem erase_st {pg : List (List UInt8)} (i : Int) (k : Nat) (pg' : List (List UInt8)) (hi : i = k) (hk : k < pg.length) (hp : pg.set k blankPage = pg') : eraseS (st pg) i = st pg' ∧ eraseE (st pg) i = 0 := by
  have hm := may_st (pg := pg) i k 0 hi hk (by omega)
  subst hi
  refine ⟨?_, ?_⟩
  · rw [eraseS, if_pos hm, bec, if_neg (by simp [st]), Int.toNat_natCast, show (st pg).pg = pg from rfl, hp]
    rfl
  · rw [eraseE, if_pos hm, becE, if_neg (by simp [st])]
theorem read_st {pg : List (List UInt8)} (i : Int) (k : Nat) (q : List UInt8) (hi : i = k) (hq : pg[k]? = some q) : readB (st pg) i = q ∧ readE (st pg) i = 0 := by
  have hk := (List.getElem?_eq_some_iff.1 hq).1
  subst hi
  have hb : hasB (st pg) k = true := by simp [hasB, st]; omega
  refine ⟨?_, ?_⟩
  · rw [readB, if_pos hb, Int.toNat_natCast, List.getD_eq_getElem?_getD, show (st pg).pg = pg from rfl, hq]
    rfl
  · rw [readE, if_pos hb]
theorem blank_at {j : Nat} (h : j < blankPage.length) : blankPage[j] = 255 := List.getElem_replicate ..
/-- What a loop that only reads keeps. -/
def RoR (w0 : World) (o0 : Col) (n : Nat) (x : Value) (wr : World) : Prop := ∃ (k : Nat) (o' : Col), x = .int .i64 k ∧ k ≤ n ∧ Stp [] w0 o0 wr o'

end Go.Proofs.Ytpjnmijfmfgdpaa
