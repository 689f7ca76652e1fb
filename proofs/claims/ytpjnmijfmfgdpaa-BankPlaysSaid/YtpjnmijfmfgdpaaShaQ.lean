/- SHA-256: what a digest is, plain; padding. -/
import Derived.Test.YtpjnmijfmfgdpaaShaK
namespace Go.Proofs.Ytpjnmijfmfgdpaa
set_option linter.unusedVariables false
set_option linter.unusedSimpArgs false
open Go.RowKit

theorem loadI_congr {b b' : List UInt8} (h : ∀ j, j < 64 → byI b j = byI b' j) : ∀ n, n ≤ 16 → loadI b n = loadI b' n := by
  intro n
  induction n with
  | zero => intro _; rfl
  | succ n ih =>
    intro hn
    rw [loadI, loadI, ih (by omega), h _ (by omega), h _ (by omega), h _ (by omega), h _ (by omega)]
theorem blockI_congr (K s : List Int) {b b' : List UInt8} (h : ∀ j, j < 64 → byI b j = byI b' j) : blockI K s b = blockI K s b' := by
  rw [blockI, blockI, loadI_congr h 16 (by omega)]
/-- n blocks taken in. -/
def blocksI (s : List Int) (m : List UInt8) : Nat → List Int
  | 0 => s
  | n + 1 => blockI kI (blocksI s m n) (m.drop (64 * n))
theorem blocksI_len {s : List Int} (m : List UInt8) (h : s.length = 8) (n : Nat) : (blocksI s m n).length = 8 := by
  induction n with
  | zero => exact h
  | succ n ih => exact blockI_len _ ih
theorem blocksI_U {s : List Int} (m : List UInt8) (h : ∀ x ∈ s, U x) (n : Nat) : ∀ x ∈ blocksI s m n, U x := by
  induction n with
  | zero => exact h
  | succ n ih => exact blockI_U _ ih
theorem byI_drop (m : List UInt8) (k j : Nat) : byI (m.drop k) j = byI m (k + j) := by
  rw [byI, byI, List.getD_eq_getElem?_getD, List.getD_eq_getElem?_getD, List.getElem?_drop]
theorem blocksI_congr (s : List Int) {m m' : List UInt8} {n : Nat} (h : ∀ j, j < 64 * n → byI m j = byI m' j) : blocksI s m n = blocksI s m' n := by
  induction n with
  | zero => rfl
  | succ n ih =>
    rw [blocksI, blocksI, ih (fun j hj => h j (by omega))]
    exact blockI_congr _ _ (fun j hj => by rw [byI_drop, byI_drop]; exact h _ (by omega))
theorem blocksI_add (s : List Int) (m : List UInt8) (a b : Nat) : blocksI s m (a + b) = blocksI (blocksI s m a) (m.drop (64 * a)) b := by
  induction b with
  | zero => rfl
  | succ b ih =>
    show blockI kI (blocksI s m (a + b)) (m.drop (64 * (a + b))) = blockI kI (blocksI (blocksI s m a) (m.drop (64 * a)) b) ((m.drop (64 * a)).drop (64 * b))
    rw [ih, List.drop_drop, show 64 * a + 64 * b = 64 * (a + b) by omega]
/-- The bytes of a length, in bits; the last of them first. -/
def lenB (n : Nat) (i : Nat) : UInt8 := UInt8.ofNat (n * 8 / 2 ^ (8 * i) % 256)
def lenBs (n : Nat) : List UInt8 := [lenB n 7, lenB n 6, lenB n 5, lenB n 4, lenB n 3, lenB n 2, lenB n 1, lenB n 0]
/-- How many bytes the last blocks are, for so many bytes that are left. -/
def endN (r : Nat) : Nat := if 56 ≤ r then 128 else 64
/-- The last blocks, for the bytes that are left, and the length of all. -/
def lastB (r : List UInt8) (n : Nat) : List UInt8 := r ++ 128 :: (List.replicate (endN r.length - 9 - r.length) 0 ++ lenBs n)
/-- The length's eight bytes, i of them laid. -/
def midB (n : Nat) : Nat → List UInt8
  | 0 => List.replicate 8 0
  | i + 1 => (midB n i).set (7 - i) (lenB n i)
theorem midB_len (n i : Nat) : (midB n i).length = 8 := by
  induction i with
  | zero => rfl
  | succ i ih => rw [midB, List.length_set, ih]
theorem midB_eight (n : Nat) : midB n 8 = lenBs n := rfl
theorem lenB_val (n i : Nat) : ((lenB n i).toNat : Int) = (n : Int) * 8 / 2 ^ (8 * i) % 256 := by
  have h : (lenB n i).toNat = n * 8 / 2 ^ (8 * i) % 256 := by
    rw [lenB, UInt8.toNat_ofNat']
    omega
  rw [h, Int.natCast_emod, Int.natCast_ediv, Int.natCast_mul, Int.natCast_pow]
  rfl
theorem lastB_eq (r : List UInt8) (n : Nat) : lastB r n = (r ++ 128 :: List.replicate (endN r.length - 9 - r.length) 0) ++ midB n 8 := by
  rw [midB_eight, lastB, List.append_assoc, List.cons_append]
theorem lastB_len {r : List UInt8} (n : Nat) (h : r.length < 64) : (lastB r n).length = endN r.length := by
  unfold lastB endN
  simp only [List.length_append, List.length_cons, List.length_replicate, lenBs, List.length_nil]
  split <;> omega
def padI (p : List UInt8) : List UInt8 := p.take (64 * (p.length / 64)) ++ lastB (p.drop (64 * (p.length / 64))) p.length
def shaI (p : List UInt8) : List Int := blocksI ivI (padI p) (p.length / 64 + endN (p.length % 64) / 64)
theorem shaI_len (p : List UInt8) : (shaI p).length = 8 := blocksI_len _ rfl _
theorem shaI_U (p : List UInt8) : ∀ x ∈ shaI p, U x := blocksI_U _ ivI_U _
/-- The bytes of words. -/
def wordB (x : Int) (j : Nat) : UInt8 := UInt8.ofNat (x.toNat / 2 ^ (24 - 8 * j) % 256)
def bytesI (l : List Int) : List UInt8 := l.flatMap fun x => [wordB x 0, wordB x 1, wordB x 2, wordB x 3]
/-- A digest. -/
def sha (p : List UInt8) : List UInt8 := bytesI (shaI p)
theorem bytesI_len (l : List Int) : (bytesI l).length = 4 * l.length := by
  induction l with
  | nil => rfl
  | cons x l ih =>
    rw [bytesI, List.flatMap_cons, ← bytesI, List.length_append, ih, List.length_cons]
    simp
    omega
theorem sha_len (p : List UInt8) : (sha p).length = 32 := by rw [sha, bytesI_len, shaI_len]
/-- As the program goes: whole blocks, then the last ones. -/
theorem shaI_eq (p : List UInt8) : shaI p = blocksI (blocksI ivI p (p.length / 64)) (lastB (p.drop (64 * (p.length / 64))) p.length) (endN (p.length % 64) / 64) := by
  have hl : (p.take (64 * (p.length / 64))).length = 64 * (p.length / 64) := by rw [List.length_take]; omega
  rw [shaI, blocksI_add]
  have h1 : blocksI ivI (padI p) (p.length / 64) = blocksI ivI p (p.length / 64) := blocksI_congr _ fun j hj => by
    rw [byI, byI, padI, List.getD_eq_getElem?_getD, List.getD_eq_getElem?_getD, List.getElem?_append_left (by rw [hl]; exact hj), List.getElem?_take_of_lt hj]
  have h2 : (padI p).drop (64 * (p.length / 64)) = lastB (p.drop (64 * (p.length / 64))) p.length := by
    rw [padI, List.drop_append_of_le_length (by rw [hl]; exact Nat.le_refl _), List.drop_of_length_le (by rw [hl]; exact Nat.le_refl _), List.nil_append]
  rw [h1, h2]

/-- What lies ahead of the length's bytes, where E bytes are taken. -/
def preB (r : List UInt8) (E : Nat) : List UInt8 := r ++ 128 :: List.replicate (E - 9 - r.length) 0
theorem preB_len {r : List UInt8} {E : Nat} (h : r.length + 9 ≤ E) : (preB r E).length = E - 8 := by
  unfold preB
  rw [List.length_append, List.length_cons, List.length_replicate]
  omega
theorem markB {r : List UInt8} {m : Nat} (hr : r.length = m) {E : Nat} (h : m + 9 ≤ E) (hE : E ≤ 128) (n : Nat) : (r ++ List.replicate (128 - m) 0).set m 128 = preB r E ++ (midB n 0 ++ List.replicate (128 - E) 0) := by
  subst hr
  obtain ⟨z, hz⟩ : ∃ z, 128 - r.length = z + 1 := ⟨127 - r.length, by omega⟩
  rw [hz, List.replicate_succ, List.set_append_right _ _ (Nat.le_refl _), Nat.sub_self, List.set_cons_zero, preB, midB, List.append_assoc, List.cons_append, List.replicate_append_replicate, List.replicate_append_replicate]
  congr 3
  omega
theorem midB_set (pre post : List UInt8) (n : Nat) {i j : Nat} (hi : i < 8) (hj : pre.length + 7 = i + j) : (pre ++ (midB n i ++ post)).set j (lenB n i) = pre ++ (midB n (i + 1) ++ post) := by
  obtain ⟨t, rfl⟩ : ∃ t, j = pre.length + t := ⟨j - pre.length, by omega⟩
  rw [List.set_append_right _ _ (by omega), show pre.length + t - pre.length = t by omega, List.set_append_left _ _ (by rw [midB_len]; omega), midB, show 7 - i = t by omega]
theorem lastB_pre {r : List UInt8} (n : Nat) {E : Nat} (hE : endN r.length = E) : preB r E ++ (midB n 8 ++ List.replicate (128 - E) 0) = lastB r n ++ List.replicate (128 - E) 0 := by
  rw [lastB_eq, hE, preB, List.append_assoc _ (midB n 8)]
theorem blocksI_last (s : List Int) (r : List UInt8) (n z k : Nat) (h : (lastB r n).length = 64 * k) : blocksI s (lastB r n ++ List.replicate z 0) k = blocksI s (lastB r n) k :=
  blocksI_congr _ fun j hj => by rw [byI, byI, List.getD_eq_getElem?_getD, List.getD_eq_getElem?_getD, List.getElem?_append_left (by omega)]
theorem wordB_0 {x : Int} (h : U x) : x / 16777216 = ((wordB x 0).toNat : Int) := by
  obtain ⟨h0, h1⟩ := h
  rw [wordB, UInt8.toNat_ofNat']
  omega
theorem wordB_1 {x : Int} (h : U x) : x / 65536 % 256 = ((wordB x 1).toNat : Int) := by
  obtain ⟨h0, h1⟩ := h
  rw [wordB, UInt8.toNat_ofNat']
  omega
theorem wordB_2 {x : Int} (h : U x) : x / 256 % 256 = ((wordB x 2).toNat : Int) := by
  obtain ⟨h0, h1⟩ := h
  rw [wordB, UInt8.toNat_ofNat']
  omega
theorem wordB_3 {x : Int} (h : U x) : x % 256 = ((wordB x 3).toNat : Int) := by
  obtain ⟨h0, h1⟩ := h
  rw [wordB, UInt8.toNat_ofNat']
  omega
theorem bytesI_step {l : List Int} (h8 : l.length = 8) {y : Nat} (hy : y < 8) : bytesI (l.take (y + 1)) ++ List.replicate (32 - 4 * (y + 1)) 0 =
    ((((bytesI (l.take y) ++ List.replicate (32 - 4 * y) 0).set (4 * y) (wordB (l.getD y 0) 0)).set (4 * y + 1) (wordB (l.getD y 0) 1)).set (4 * y + 2) (wordB (l.getD y 0) 2)).set (4 * y + 3) (wordB (l.getD y 0) 3) := by
  have hP : (bytesI (l.take y)).length = 4 * y := by rw [bytesI_len, List.length_take]; omega
  have ht : l.take (y + 1) = l.take y ++ [l.getD y 0] := by
    rw [List.take_add_one, List.getD_eq_getElem?_getD, List.getElem?_eq_getElem (by omega)]
    rfl
  have hb : bytesI (l.take (y + 1)) = bytesI (l.take y) ++ [wordB (l.getD y 0) 0, wordB (l.getD y 0) 1, wordB (l.getD y 0) 2, wordB (l.getD y 0) 3] := by
    rw [ht, bytesI, List.flatMap_append]
    simp [bytesI]
  have hr : List.replicate (32 - 4 * y) (0 : UInt8) = [0, 0, 0, 0] ++ List.replicate (32 - 4 * (y + 1)) 0 := by
    rw [show 32 - 4 * y = (32 - 4 * (y + 1)) + 4 by omega]
    rfl
  obtain ⟨P, hPP⟩ : ∃ P, bytesI (l.take y) = P := ⟨_, rfl⟩
  rw [hPP] at hP
  rw [hb, hr, hPP]
  rw [show 4 * y = P.length + 0 by omega, List.set_append_right _ _ (by omega), show P.length + 0 - P.length = 0 by omega, show P.length + 0 + 1 = P.length + 1 by omega, List.set_append_right _ _ (by omega), show P.length + 1 - P.length = 1 by omega,
    show P.length + 0 + 2 = P.length + 2 by omega, List.set_append_right _ _ (by omega), show P.length + 2 - P.length = 2 by omega, show P.length + 0 + 3 = P.length + 3 by omega, List.set_append_right _ _ (by omega), show P.length + 3 - P.length = 3 by omega, List.append_assoc]
  rfl
/-- How many zeros stand between the mark and the length. -/
def zerosN (n : Nat) : Nat := endN (n % 64) - 9 - n % 64
theorem padI_eq (p : List UInt8) : padI p = p ++ 128 :: (List.replicate (zerosN p.length) 0 ++ lenBs p.length) := by
  have hr : (p.drop (64 * (p.length / 64))).length = p.length % 64 := by rw [List.length_drop]; omega
  rw [padI, lastB, hr, ← List.append_assoc, List.take_append_drop, zerosN]
theorem padI_len (p : List UInt8) : (padI p).length = 64 * (p.length / 64 + endN (p.length % 64) / 64) := by
  rw [padI_eq]
  simp only [List.length_append, List.length_cons, List.length_replicate, lenBs, List.length_nil, zerosN, endN]
  split <;> omega
theorem zerosN_stop (n j : Nat) (hj : j ≤ zerosN n) : (n + 1 + j) % 64 = 56 ↔ j = zerosN n := by
  unfold zerosN endN at *
  by_cases h : 56 ≤ n % 64
  · rw [if_pos h] at *; omega
  · rw [if_neg h] at *; omega
theorem bytesI_get {l : List Int} {i : Nat} (hi : i < 4 * l.length) : (bytesI l)[i]? = some (wordB (l.getD (i / 4) 0) (i % 4)) := by
  induction l generalizing i with
  | nil => simp at hi
  | cons x l ih =>
    rw [bytesI, List.flatMap_cons, ← bytesI]
    by_cases h : i < 4
    · rw [List.getElem?_append_left (by simpa using h), show i / 4 = 0 by omega, show i % 4 = i by omega]
      match i, h with
      | 0, _ => rfl
      | 1, _ => rfl
      | 2, _ => rfl
      | 3, _ => rfl
    · rw [List.getElem?_append_right (by simp; omega), List.length_cons] at *
      simp only [List.length_cons, List.length_nil] at *
      rw [ih (by omega), show (i - (0 + 1 + 1 + 1 + 1)) / 4 = i / 4 - 1 by omega, show (i - (0 + 1 + 1 + 1 + 1)) % 4 = i % 4 by omega]
      obtain ⟨q, hq⟩ : ∃ q, i / 4 = q + 1 := ⟨i / 4 - 1, by omega⟩
      rw [hq]
      rfl
theorem take_fill {l : List UInt8} {i : Nat} {x : UInt8} (h : l[i]? = some x) (N : Nat) (hl : l.length = N) : (l.take i ++ List.replicate (N - i) 0).set i x = l.take (i + 1) ++ List.replicate (N - (i + 1)) 0 := by
  have hi := (List.getElem?_eq_some_iff.1 h).1
  have ht : (l.take i).length = i := by rw [List.length_take]; omega
  obtain ⟨z, hz⟩ : ∃ z, N - i = z + 1 := ⟨N - i - 1, by omega⟩
  rw [hz, List.replicate_succ, List.set_append_right _ _ (by omega), ht, Nat.sub_self, List.set_cons_zero, List.take_add_one, h, show N - (i + 1) = z by omega, List.append_assoc]
  rfl
theorem wordB_at {x : Int} (h : U x) {j t : Nat} (ht : t = 24 - 8 * j) : x / 2 ^ t % 256 = ((wordB x j).toNat : Int) := by
  subst ht
  obtain ⟨n, rfl⟩ := Int.eq_ofNat_of_zero_le h.1
  have e : (wordB (n : Int) j).toNat = n / 2 ^ (24 - 8 * j) % 256 := by
    rw [wordB, UInt8.toNat_ofNat', Int.toNat_natCast]
    omega
  rw [e, Int.natCast_emod, Int.natCast_ediv, Int.natCast_pow]
  rfl
theorem cutRow (r : List UInt8) (N : Nat) : List.take 0 (vbs (List.replicate N 0)) ++ (vbs r ++ List.drop (0 + r.length) (vbs (List.replicate N 0))) = vbs (r ++ List.replicate (N - r.length) 0) := by
  rw [List.take_zero, List.nil_append, Nat.zero_add, vbs_append, show List.drop r.length (vbs (List.replicate N 0)) = vbs ((List.replicate N 0).drop r.length) by simp only [vbs, List.map_drop], List.drop_replicate]
theorem vbs_all (l : List UInt8) : (vbs l).toArray.all (·.oneCell') = true := by
  rw [Array.all_eq_true']
  intro x hx
  exact vbs_one l x (by simpa using hx)
theorem us_all (l : List Int) : (us l).toArray.all (·.oneCell') = true := by
  rw [Array.all_eq_true']
  intro x hx
  simp only [us, List.mem_toArray, List.mem_map] at hx
  obtain ⟨y, _, rfl⟩ := hx
  rfl
/-! ### In memory -/
/-- Bytes in a block. -/
structure Bk (w : World) (o : Col) (c p t : Nat) (l : List UInt8) : Prop where
  blk : w.heap[p]? = some (.cells (vbs l).toArray t (0, 0))
  col : o p = c
theorem Bk.stp {C : List Nat} {w w1 : World} {o o1 : Col} {c p t : Nat} {l : List UInt8} (h : Bk w o c p t l) (hs : Stp C w o w1 o1) (hn : c ∉ C) : Bk w1 o1 c p t l :=
  ⟨hs.blk h.blk (by rw [h.col]; exact hn), (hs.colb h.blk).trans h.col⟩
theorem Bk.cell {w : World} {o : Col} {c p t : Nat} {l : List UInt8} (h : Bk w o c p t l) {i : Nat} (hi : i < l.length) : w.cell? ⟨p, i, none⟩ = some (.int .u8 ((l.getD i 0).toNat : Int)) := by
  rw [blk_cell h.blk]
  simp [vbs, List.getElem?_eq_getElem hi]
theorem Bk.free {w : World} {o : Col} {c p t : Nat} {l : List UInt8} (h : Bk w o c p t l) (i : Nat) : w.frozen? ⟨p, i, none⟩ = false := blk_free h.blk i
theorem Bk.set {w : World} {o : Col} {c p t : Nat} {l : List UInt8} (h : Bk w o c p t l) (i : Nat) (x : UInt8) : Bk (w.setCell ⟨p, i, none⟩ (.int .u8 (x.toNat : Int))) o c p t (l.set i x) ∧ Stp [c] w o (w.setCell ⟨p, i, none⟩ (.int .u8 (x.toNat : Int))) o := by
  refine ⟨⟨?_, h.col⟩, (Stp.refl [c] w o).setCell (fun _ => by simp [h.col]) _⟩
  have := blk_set (j := i) h.blk (.int .u8 (x.toNat : Int))
  rw [this]
  simp [vbs, List.map_set]
theorem Bk.new (w : World) (o : Col) (c t : Nat) (l : List UInt8) : Bk (w.alloc (.cells (vbs l).toArray t)) (paint o w.heap.size c) c w.heap.size t l := ⟨heap_alloc_new _ _, paint_at _ _ _⟩
/-- The bytes of a block from a place on, as a slice that is read. -/
theorem Bk.rd {w : World} {o : Col} {c p t : Nat} {l : List UInt8} (h : Bk w o c p t l) (i : Nat) (hi : i < l.length) (hb : l.length ≤ 9223372036854775807) {n : Nat} (hn : n = l.length - i) : RdB w o c (.slice (some ⟨p, i, none⟩) n n) (l.drop i) := by
  subst hn
  have hlen : (l.drop i).length = l.length - i := List.length_drop
  unfold RdB
  rw [hlen]
  refine ⟨by rw [vbs_length, hlen]; omega, by omega, vbs_one _, some ⟨p, i, none⟩, l.length - i, rfl, Nat.le_refl _, by simp, fun _ => ⟨_, rfl, h.col, (Array.getElem?_eq_some_iff.1 h.blk).1, fun j u hu => ?_⟩⟩
  rw [Addr.add_lit, blk_cell h.blk]
  rw [show vbs (l.drop i) = (vbs l).drop i by simp [vbs, List.map_drop], List.getElem?_drop] at hu
  simpa using hu
theorem two32 (w : World) (o : Col) (c g : Nat) : ∃ wA oA, (w.alloc (.cells (vbs (List.replicate 32 0)).toArray 57)).alloc (.cells (us ivI).toArray 123) = wA ∧
    Stp [] w o wA oA ∧ Bk wA oA g w.heap.size 57 (List.replicate 32 0) ∧ Wd wA oA c (w.heap.size + 1) 123 ivI := by
  have R0 := Bk.new w o g 57 (List.replicate 32 0)
  have a0 : Stp [] w o (w.alloc (.cells (vbs (List.replicate 32 0)).toArray 57)) (paint o w.heap.size g) := (Stp.refl [] w o).alloc _ g
  have z0 : (w.alloc (.cells (vbs (List.replicate 32 0)).toArray 57)).heap.size = w.heap.size + 1 := World.size_alloc _ _
  obtain ⟨w1, e1⟩ : ∃ w1, w.alloc (.cells (vbs (List.replicate 32 0)).toArray 57) = w1 := ⟨_, rfl⟩
  obtain ⟨o1, f1⟩ : ∃ o1, paint o w.heap.size g = o1 := ⟨_, rfl⟩
  rw [e1, f1] at R0 a0
  rw [e1] at z0 ⊢
  have S0 := Wd.new w1 o1 c 123 ivI ivI_U
  have a1 : Stp [] w1 o1 (w1.alloc (.cells (us ivI).toArray 123)) (paint o1 w1.heap.size c) := (Stp.refl [] w1 o1).alloc _ c
  rw [z0] at S0
  exact ⟨_, _, rfl, a0.trans a1, R0.stp a1 (by simp), by rw [← z0] at *; exact S0⟩
/-- An element of a state that is a value. -/
theorem run_index_us (l : List Int) (h8 : l.length = 8) (y : Nat) (hy : y < 8) (w : World) : (Instr.index 123 (.agg (us l).toArray) (.int .i64 (y:Int))).run Try.prog w = .ok (.int .u32 (l.getD y 0)) w := by
  have hsz : (Try.prog.info? 110).map (·.size) = some 1 := by kernel_rfl
  cases hq : Try.prog.info? 110 with
  | none => simp [hq] at hsz
  | some i =>
    have hs : i.size = 1 := by simpa [hq] using hsz
    have hg : (us l)[y]? = some (.int .u32 (l.getD y 0)) := by simp [us, List.getElem?_eq_getElem (show y < l.length by omega)]
    rw [List.getD_eq_getElem?_getD] at hg ⊢
    simp [Instr.index, run_underlying Try.underlying123, asIntOf, hy, part, sizeOf, typeInfo, hq, hs, go_sem, hg]
theorem wp_index_us {w : World} {ops : Array Oper} {rest : List Oper} {op : Oper} {a : Act} {Q : Exit → Act → World → Prop} (hgd : op.guard = none) (x i : Operand) (ho : op.op = .index 123 x i) (l : List Int) (h8 : l.length = 8) (y : Nat) (hy : y < 8) (hx : a.eval x = .agg (us l).toArray) (hi : a.eval i = .int .i64 (y : Int))
    (h : wpList Try.prog ops Q rest (a.put op.dst (.int .u32 (l.getD y 0))) w) : wpList Try.prog ops Q (op :: rest) a w := by
  refine wpList_plain hgd fun K hK => ?_
  unfold Oper.wp execOp
  simp only [ho, hx, hi, Sem.run_bind, run_index_us l h8 y hy, Result.andThen_ok, Sem.run_pure]
  exact hK _ _ h
end Go.Proofs.Ytpjnmijfmfgdpaa
