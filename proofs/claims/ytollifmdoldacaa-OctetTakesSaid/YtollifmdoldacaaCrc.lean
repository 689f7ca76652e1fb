/- The check sum: plain. -/
namespace Go.Proofs.Ytollifmdoldacaa
set_option linter.unusedVariables false
set_option linter.unusedSimpArgs false

/-- A round. -/
def crcStep (x : Nat) : Nat := x / 2 ^^^ (if x % 2 = 1 then 3988292384 else 0)
def crcRounds : Nat → Nat → Nat
  | 0, x => x
  | n + 1, x => crcRounds n (crcStep x)
def crcByte (x : Nat) (b : UInt8) : Nat := crcRounds 8 (x ^^^ b.toNat)
def crcGo (x : Nat) (l : List UInt8) : Nat := l.foldl crcByte x
def crc (l : List UInt8) : Nat := 4294967295 - crcGo 4294967295 l

theorem crcStep_lt {x : Nat} (h : x < 4294967296) : crcStep x < 4294967296 := by
  unfold crcStep
  exact Nat.xor_lt_two_pow (n := 32) (by omega) (by split <;> omega)
theorem crcRounds_lt (n : Nat) : ∀ x, x < 4294967296 → crcRounds n x < 4294967296 := by
  induction n with
  | zero => exact fun _ h => h
  | succ n ih => exact fun x h => ih _ (crcStep_lt h)
theorem xor_lt {x y : Nat} (h : x < 4294967296) (h2 : y < 4294967296) : x ^^^ y < 4294967296 := Nat.xor_lt_two_pow (n := 32) h h2
theorem crcByte_lt {x : Nat} (b : UInt8) (h : x < 4294967296) : crcByte x b < 4294967296 := crcRounds_lt _ _ (xor_lt h (by have := b.toNat_lt; omega))
theorem crcGo_lt (l : List UInt8) : ∀ x, x < 4294967296 → crcGo x l < 4294967296 := by
  induction l with
  | nil => exact fun _ h => h
  | cons b l ih => exact fun x h => ih _ (crcByte_lt b h)
theorem crcGo_append (x : Nat) (l m : List UInt8) : crcGo x (l ++ m) = crcGo (crcGo x l) m := by simp [crcGo]

theorem xor_inj {a b c : Nat} (h : a ^^^ c = b ^^^ c) : a = b := by
  have := congrArg (· ^^^ c) h
  simpa [Nat.xor_assoc] using this
/-- A round loses nothing: its top bit tells the bit that fell out. -/
theorem crcStep_inj {x y : Nat} (hx : x < 4294967296) (hy : y < 4294967296) (h : crcStep x = crcStep y) : x = y := by
  have top : ∀ z, z < 4294967296 → (crcStep z).testBit 31 = decide (z % 2 = 1) := by
    intro z hz
    unfold crcStep
    rw [Nat.testBit_xor]
    have h1 : (z / 2).testBit 31 = false := Nat.testBit_lt_two_pow (by omega)
    rw [h1]
    split
    · rename_i h; simp [h]; decide
    · rename_i h; simp [h]
  have hm : x % 2 = y % 2 := by
    have h1 := top x hx
    rw [h, top y hy] at h1
    by_cases a : x % 2 = 1 <;> by_cases b : y % 2 = 1 <;> simp [a, b] at h1 <;> omega
  unfold crcStep at h
  rw [hm] at h
  have := xor_inj h
  omega
theorem crcRounds_inj (n : Nat) : ∀ x y, x < 4294967296 → y < 4294967296 → crcRounds n x = crcRounds n y → x = y := by
  induction n with
  | zero => exact fun _ _ _ _ h => h
  | succ n ih => exact fun x y hx hy h => crcStep_inj hx hy (ih _ _ (crcStep_lt hx) (crcStep_lt hy) h)
theorem crcByte_inj_l {x y : Nat} (b : UInt8) (hx : x < 4294967296) (hy : y < 4294967296) (h : crcByte x b = crcByte y b) : x = y := by
  have hb : b.toNat < 4294967296 := by have := b.toNat_lt; omega
  exact xor_inj (crcRounds_inj 8 _ _ (xor_lt hx hb) (xor_lt hy hb) h)
theorem crcByte_inj_r {x : Nat} {a b : UInt8} (hx : x < 4294967296) (h : crcByte x a = crcByte x b) : a = b := by
  have ha : a.toNat < 4294967296 := by have := a.toNat_lt; omega
  have hb : b.toNat < 4294967296 := by have := b.toNat_lt; omega
  have := crcRounds_inj 8 _ _ (xor_lt hx ha) (xor_lt hx hb) h
  rw [Nat.xor_comm x, Nat.xor_comm x] at this
  exact UInt8.toNat_inj.1 (xor_inj this)
theorem crcGo_inj (l : List UInt8) : ∀ x y, x < 4294967296 → y < 4294967296 → crcGo x l = crcGo y l → x = y := by
  induction l with
  | nil => exact fun _ _ _ _ h => h
  | cons b l ih => exact fun x y hx hy h => crcByte_inj_l b hx hy (ih _ _ (crcByte_lt b hx) (crcByte_lt b hy) h)
/-- A byte that is another one has another sum. -/
theorem crc_one (l m : List UInt8) (a b : UInt8) (h : crc (l ++ a :: m) = crc (l ++ b :: m)) : a = b := by
  have h1 : ∀ (c : UInt8), crcGo 4294967295 (l ++ c :: m) < 4294967296 := fun c => crcGo_lt _ _ (by omega)
  have h2 : crcGo 4294967295 (l ++ a :: m) = crcGo 4294967295 (l ++ b :: m) := by
    have ha := h1 a
    have hb := h1 b
    unfold crc at h
    omega
  rw [crcGo_append, crcGo_append] at h2
  have hl : crcGo 4294967295 l < 4294967296 := crcGo_lt _ _ (by omega)
  have h3 := crcGo_inj m _ _ (crcByte_lt a hl) (crcByte_lt b hl) h2
  exact crcByte_inj_r hl h3
theorem crc_lt (l : List UInt8) : crc l < 4294967296 := by unfold crc; omega
theorem crc_known : crc [49, 50, 51, 52, 53, 54, 55, 56, 57] = 3421780262 := by decide +kernel
end Go.Proofs.Ytollifmdoldacaa
