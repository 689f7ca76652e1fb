/- Numbers as bytes: plain. -/
namespace Go.Proofs.Ytpjnmijfmfgdpaa
set_option linter.unusedVariables false
set_option linter.unusedSimpArgs false

/-- A number held within 0 and 2^62. -/
def clamp (x : Int) : Nat := (max 0 (min x 4611686018427387904)).toNat
theorem clamp_le (x : Int) : clamp x ≤ 4611686018427387904 := by unfold clamp; omega
/-- A number's bytes. -/
def enc (u : Nat) : List UInt8 := if u < 128 then [UInt8.ofNat u] else UInt8.ofNat (u % 128 + 128) :: enc (u / 128)
termination_by u
decreasing_by omega
theorem enc_small {u : Nat} (h : u < 128) : enc u = [UInt8.ofNat u] := by rw [enc, if_pos h]
theorem enc_big {u : Nat} (h : 128 ≤ u) : enc u = UInt8.ofNat (u % 128 + 128) :: enc (u / 128) := by rw [enc, if_neg (by omega)]
def encs (ns : List Int) : List UInt8 := ns.flatMap fun x => enc (clamp x)
theorem encs_snoc (ns : List Int) (x : Int) : encs (ns ++ [x]) = encs ns ++ enc (clamp x) := by simp [encs]
theorem enc_len (u : Nat) : ∀ d, u < 128 ^ (d + 1) → (enc u).length ≤ d + 1 := by
  intro d
  induction d generalizing u with
  | zero => intro h; rw [enc_small (by simpa using h)]; simp
  | succ d ih =>
    intro h
    by_cases hu : u < 128
    · rw [enc_small hu]; simp
    · rw [enc_big (by omega), List.length_cons]
      have := ih (u / 128) (by rw [Nat.div_lt_iff_lt_mul (by omega)]; rw [Nat.pow_succ] at h; exact h)
      omega
theorem enc_len9 (x : Int) : (enc (clamp x)).length ≤ 9 := enc_len _ 8 (by have := clamp_le x; simp only [Nat.reduceAdd, Nat.reducePow]; omega)
theorem enc_pos (u : Nat) : 0 < (enc u).length := by rw [enc]; split <;> simp
theorem encs_len (ns : List Int) : (encs ns).length ≤ 9 * ns.length := by
  induction ns with
  | nil => simp [encs]
  | cons x ns ih =>
    have h : encs (x :: ns) = enc (clamp x) ++ encs ns := by simp [encs]
    rw [h, List.length_append, List.length_cons]
    have := enc_len9 x
    omega
theorem enc_count (x : Nat) (h : 0 < x) : (enc x).length = 1 + (if x / 128 = 0 then 0 else (enc (x / 128)).length) := by
  by_cases hx : x < 128
  · rw [enc_small hx, if_pos (by omega)]; rfl
  · rw [enc_big (by omega), if_neg (by omega), List.length_cons]; omega
theorem enc_last (u : Nat) : ∀ (h : u ≠ 0), (enc u).getLast? ≠ some 0 := by
  induction u using Nat.strongRecOn with
  | _ u ih =>
    intro h
    by_cases hu : u < 128
    · rw [enc_small hu]
      intro e
      have e1 : UInt8.ofNat u = 0 := by simpa using e
      have e2 := congrArg UInt8.toNat e1
      rw [UInt8.toNat_ofNat'] at e2
      simp at e2
      omega
    · rw [enc_big (by omega)]
      have := ih (u / 128) (by omega) (by omega)
      have hp := enc_pos (u / 128)
      rw [List.getLast?_cons]
      intro e
      cases hl : (enc (u / 128)).getLast? with
      | none => rw [List.getLast?_eq_none_iff] at hl; rw [hl] at hp; simp at hp
      | some y => rw [hl] at e; exact this (by rw [hl]; exact e)

/-! ### A number taken -/
def rnumGo : List UInt8 → Nat → Nat → Option (Nat × List UInt8)
  | [], _, _ => none
  | c :: r, i, u => if 9 ≤ i ∨ (0 < i ∧ c.toNat = 0) then none else if c.toNat < 128 then (if 4611686018427387904 < u + c.toNat * 128 ^ i then none else some (u + c.toNat * 128 ^ i, r)) else rnumGo r (i + 1) (u + (c.toNat - 128) * 128 ^ i)
def rnum (l : List UInt8) : Option (Nat × List UInt8) := rnumGo l 0 0
/-- A number, what is left, whether it erred. -/
def nNum (l : List UInt8) (bad : Bool) : Nat × List UInt8 × Bool := match rnum l with
  | some (u, r) => (u, r, bad)
  | none => (0, [], true)
/-- So many bytes, what is left, whether it erred. -/
def nRaw (n : Int) (l : List UInt8) (bad : Bool) : List UInt8 × List UInt8 × Bool := if n < 0 ∨ (l.length : Int) < n then ([], [], true) else (l.take n.toNat, l.drop n.toNat, bad)
/-! ### What was laid is taken -/
theorem rnumGo_enc (u : Nat) : ∀ (i a : Nat) (r : List UInt8), i ≤ 8 → u < 128 ^ (9 - i) → (i = 0 ∨ 0 < u) → a + u * 128 ^ i ≤ 4611686018427387904 → rnumGo (enc u ++ r) i a = some (a + u * 128 ^ i, r) := by
  induction u using Nat.strongRecOn with
  | _ u ih =>
    intro i a r hi hu h0 hle
    by_cases hs : u < 128
    · have e1 : (UInt8.ofNat u).toNat = u := by rw [UInt8.toNat_ofNat']; omega
      rw [enc_small hs, List.singleton_append, rnumGo, e1, if_neg (by omega), if_pos hs, if_neg (by omega)]
    · have e1 : (UInt8.ofNat (u % 128 + 128)).toNat = u % 128 + 128 := by rw [UInt8.toNat_ofNat']; omega
      have h8 : i < 8 := by
        rcases Nat.lt_or_ge i 8 with h | h
        · exact h
        · have : i = 8 := by omega
          subst this
          simp at hu
          omega
      have hp : u / 128 * 128 ^ (i + 1) + u % 128 * 128 ^ i = u * 128 ^ i := by
        rw [Nat.pow_succ, Nat.mul_comm (128 ^ i) 128, ← Nat.mul_assoc, ← Nat.add_mul]
        congr 1
        omega
      rw [enc_big (by omega), List.cons_append, rnumGo, e1, if_neg (by omega), if_neg (by omega)]
      rw [show u % 128 + 128 - 128 = u % 128 by omega]
      rw [ih (u / 128) (by omega) (i + 1) (a + u % 128 * 128 ^ i) r (by omega) ?_ (.inr (by omega)) (by omega)]
      · congr 2
        omega
      · rw [Nat.div_lt_iff_lt_mul (by omega), ← Nat.pow_succ]
        rw [show (9 - (i + 1)).succ = 9 - i by omega]
        exact hu
theorem rnum_enc (x : Int) (r : List UInt8) : rnum (enc (clamp x) ++ r) = some (clamp x, r) := by
  have h := clamp_le x
  have := rnumGo_enc (clamp x) 0 0 r (by omega) (by simp only [Nat.sub_zero, Nat.reducePow]; omega) (.inl rfl) (by simpa using h)
  simpa [rnum] using this
theorem nNum_enc (x : Int) (r : List UInt8) (bad : Bool) : nNum (enc (clamp x) ++ r) bad = (clamp x, r, bad) := by
  unfold nNum
  rw [rnum_enc]
theorem nRaw_app (l r : List UInt8) (bad : Bool) : nRaw (l.length : Int) (l ++ r) bad = (l, r, bad) := by
  unfold nRaw
  rw [if_neg (by simp; omega)]
  simp
theorem clamp_len (l : List UInt8) (h : l.length ≤ 4611686018427387904) : clamp (l.length : Int) = l.length := by unfold clamp; omega
/-- A row with its length, what is left, whether it erred. -/
def nBytes (l : List UInt8) (bad : Bool) : List UInt8 × List UInt8 × Bool := nRaw ((nNum l bad).1 : Int) (nNum l bad).2.1 (nNum l bad).2.2
theorem rnumGo_le : ∀ (l : List UInt8) (i u n : Nat) (r : List UInt8), rnumGo l i u = some (n, r) → r.length ≤ l.length ∧ n ≤ 4611686018427387904
  | [], i, u, n, r, h => by rw [rnumGo] at h; cases h
  | c :: l, i, u, n, r, h => by
    rw [rnumGo] at h
    split at h
    · cases h
    · split at h
      · split at h
        · cases h
        · injection h with h
          injection h with h1 h2
          subst h2
          simp only [List.length_cons]
          omega
      · have := rnumGo_le l _ _ _ _ h
        simp only [List.length_cons]
        omega
theorem nNum_le (l : List UInt8) (bad : Bool) : (nNum l bad).2.1.length ≤ l.length ∧ (nNum l bad).1 ≤ 4611686018427387904 := by
  unfold nNum
  cases h : rnum l with
  | none => simp
  | some x =>
    obtain ⟨n, r⟩ := x
    exact rnumGo_le l 0 0 n r h
theorem nRaw_le (n : Int) (l : List UInt8) (bad : Bool) : (nRaw n l bad).1.length ≤ l.length ∧ (nRaw n l bad).2.1.length ≤ l.length := by
  unfold nRaw
  split
  · simp
  · simp; omega
theorem nBytes_le (l : List UInt8) (bad : Bool) : (nBytes l bad).1.length ≤ l.length ∧ (nBytes l bad).2.1.length ≤ l.length := by
  have h1 := nNum_le l bad
  have h2 := nRaw_le ((nNum l bad).1 : Int) (nNum l bad).2.1 (nNum l bad).2.2
  unfold nBytes
  omega
theorem nBytes_enc (p r : List UInt8) (bad : Bool) (hp : p.length ≤ 4611686018427387904) : nBytes (enc (clamp p.length) ++ p ++ r) bad = (p, r, bad) := by
  unfold nBytes
  rw [List.append_assoc, nNum_enc]
  simp only
  rw [clamp_len p hp]
  exact nRaw_app p r bad
end Go.Proofs.Ytpjnmijfmfgdpaa
