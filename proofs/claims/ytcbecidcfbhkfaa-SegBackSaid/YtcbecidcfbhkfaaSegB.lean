/- A message's frames, taken one behind the other (chapter 15): plain laws. -/
import Derived.Test.YtcbecidcfbhkfaaSegL
import Derived.Test.YtcbecidcfbhkfaaFewW
namespace Go.Proofs.Ytcbecidcfbhkfaa
set_option linter.unusedVariables false
set_option linter.unusedSimpArgs false
open Go.RowKit Go.ChangeMaps

/-- How many frames. -/
def nF (m : List UInt8) : Nat := if m.length ≤ 7 then 1 else 1 + m.length / 7
/-- What is open when k frames have come, the last one then. -/
def opened (m : List UInt8) (k : Nat) (last : Int) : OE := ⟨m.take (6 + 7 * (k - 1)), m.length, k, last⟩
def stM (m : List UInt8) (k : Nat) (last : Int) : Option OE := if k = 0 ∨ nF m ≤ k then none else some (opened m k last)
theorem u8_nat (n : Nat) (h : n < 256) : (UInt8.ofNat n).toNat = n := by rw [UInt8.toNat_ofNat']; omega

theorem take_one (s : JS) (id : Int) (m : List UInt8) (now : Int) (h0 : 0 < m.length) (h7 : m.length ≤ 7) : takeJ s id (oneF m) now = (dropJ (lateJ s id now) id, some m) := by
  have hh : (oneF m).headD 0 = UInt8.ofNat m.length := rfl
  have hk : kindN (oneF m) = 0 := by rw [kindN, hh, u8_nat _ (by omega)]; omega
  have hl : lowN (oneF m) = m.length := by rw [lowN, hh, u8_nat _ (by omega)]; omega
  have hlen : (oneF m).length = 1 + m.length := by simp [oneF]; omega
  rw [takeJ, if_neg (by omega), if_pos hk, singleJ, hl, if_neg (by omega)]
  rfl
theorem take_first (s : JS) (id : Int) (m : List UInt8) (now : Int) (h7 : 7 < m.length) (hm : m.length ≤ 600) : takeJ s id (firstF m) now = ((dropJ (lateJ s id now) id).put id (opened m 1 now), none) := by
  have hh : (firstF m).headD 0 = UInt8.ofNat (16 + m.length / 256) := rfl
  have hk : kindN (firstF m) = 1 := by rw [kindN, hh, u8_nat _ (by omega)]; omega
  have hl : lowN (firstF m) = m.length / 256 := by rw [lowN, hh, u8_nat _ (by omega)]; omega
  have hb : begN (firstF m) = m.length := by
    have : (firstF m).tail.headD 0 = UInt8.ofNat (m.length % 256) := rfl
    rw [begN, hl, this, u8_nat _ (by omega)]
    omega
  have hlen : (firstF m).length = 8 := by simp [firstF]; omega
  rw [takeJ, if_neg (by omega), if_neg (by omega), if_pos hk, beginJ, hb, if_neg (by omega)]
  rfl
theorem take_cont (s : JS) (id : Int) (m : List UInt8) (k : Nat) (last now : Int) (hm : m.length ≤ 600) (hk : 1 ≤ k) (hlt : 6 + 7 * (k - 1) < m.length) (hf : s.f id = some (opened m k last)) (hn1 : last ≤ now) (hn2 : now - last ≤ 10) :
    takeJ s id (contF m (k - 1)) now = if 6 + 7 * k < m.length then (s.set id (opened m (k + 1) now), none) else ((s.set id (opened m (k + 1) now)).del id, some m) := by
  have hla : lateJ s id now = s := by
    unfold lateJ
    rw [hf]
    show (if now < last ∨ 10 < now - last then _ else _) = _
    rw [if_neg (by omega)]
  have hh : (contF m (k - 1)).headD 0 = UInt8.ofNat (32 + k % 16) := by rw [contF, show k - 1 + 1 = k from by omega]; rfl
  have hkd : kindN (contF m (k - 1)) = 2 := by rw [kindN, hh, u8_nat _ (by omega)]; omega
  have hl : lowN (contF m (k - 1)) = k % 16 := by rw [lowN, hh, u8_nat _ (by omega)]; omega
  have htl : (contF m (k - 1)).tail = (m.drop (6 + 7 * (k - 1))).take 7 := rfl
  have hlen : (contF m (k - 1)).length = 1 + min 7 (m.length - (6 + 7 * (k - 1))) := by simp [contF]; omega
  have hml : (m.take (6 + 7 * (k - 1))).length = 6 + 7 * (k - 1) := by rw [List.length_take]; omega
  have hgr : m.take (6 + 7 * (k - 1)) ++ (m.drop (6 + 7 * (k - 1))).take 7 = m.take (6 + 7 * k) := by
    rw [show 6 + 7 * k = (6 + 7 * (k - 1)) + 7 from by omega]
    exact List.take_add.symm
  rw [takeJ, if_neg (by omega), if_neg (by omega), if_neg (by omega), if_pos hkd, hla, goesJ, hf]
  show (if lowN (contF m (k - 1)) ≠ k % 16 ∨ (contF m (k - 1)).length ≠ 1 + min 7 (m.length - (m.take (6 + 7 * (k - 1))).length) then _ else if (m.take (6 + 7 * (k - 1))).length + ((contF m (k - 1)).length - 1) < m.length then _ else _) = _
  rw [hl, hlen, hml, if_neg (by omega)]
  have hg : grownE (opened m k last) (contF m (k - 1)) now = opened m (k + 1) now := by
    show (⟨m.take (6 + 7 * (k - 1)) ++ (contF m (k - 1)).tail, m.length, k + 1, now⟩ : OE) = ⟨m.take (6 + 7 * (k + 1 - 1)), m.length, k + 1, now⟩
    rw [htl, hgr, show k + 1 - 1 = k from by omega]
  rw [hg]
  by_cases hmore : 6 + 7 * k < m.length
  · rw [if_pos (by omega), if_pos hmore]
  · rw [if_neg (by omega), if_neg hmore]
    show (_, some (m.take (6 + 7 * (k - 1)) ++ (contF m (k - 1)).tail)) = _
    rw [htl, hgr, List.take_of_length_le (by omega)]
/-- A frame of another number, or of nothing. -/
theorem take_wrong (s : JS) (id : Int) (m : List UInt8) (i : Nat) (now : Int) (h : lateJ s id now = s) (hn : s.f id = none ∨ ∃ e, s.f id = some e ∧ (i + 1) % 16 ≠ e.n % 16) :
    (takeJ s id (contF m i) now).2 = none ∧ (takeJ s id (contF m i) now).1.f id = none := by
  have hh : (contF m i).headD 0 = UInt8.ofNat (32 + (i + 1) % 16) := rfl
  have hkd : kindN (contF m i) = 2 := by rw [kindN, hh, u8_nat _ (by omega)]; omega
  have hl : lowN (contF m i) = (i + 1) % 16 := by rw [lowN, hh, u8_nat _ (by omega)]; omega
  have hlen : 0 < (contF m i).length := by simp [contF]
  rw [takeJ, if_neg (by omega), if_neg (by omega), if_neg (by omega), if_pos hkd, h, goesJ]
  rcases hn with hn | ⟨e, hn, hne⟩
  · rw [hn]
    exact ⟨rfl, hn⟩
  · rw [hn]
    dsimp only
    rw [hl, if_pos (.inl hne)]
    exact ⟨rfl, dropJ_none s id⟩
/-- .. one that comes too late. -/
theorem take_late (s : JS) (id : Int) (m : List UInt8) (i : Nat) (now : Int) (e : OE) (he : s.f id = some e) (hl : 10 < now - e.last) : (takeJ s id (contF m i) now).2 = none ∧ (takeJ s id (contF m i) now).1.f id = none := by
  have hla : lateJ s id now = dropJ s id := by
    unfold lateJ
    rw [he]
    dsimp only
    rw [if_pos (.inr hl)]
  have hd := dropJ_none s id
  have hh : (contF m i).headD 0 = UInt8.ofNat (32 + (i + 1) % 16) := rfl
  have hkd : kindN (contF m i) = 2 := by rw [kindN, hh, u8_nat _ (by omega)]; omega
  have hlen : 0 < (contF m i).length := by simp [contF]
  rw [takeJ, if_neg (by omega), if_neg (by omega), if_neg (by omega), if_pos hkd, hla, goesJ, hd]
  exact ⟨rfl, hd⟩
theorem nF_len (m : List UInt8) : (splitF m).length = nF m := splitF_len m
theorem split_at (m : List UInt8) (k : Nat) (h : k < nF m) : (splitF m)[k]? = some (if m.length ≤ 7 then oneF m else if k = 0 then firstF m else contF m (k - 1)) := by
  unfold nF at h
  unfold splitF
  by_cases h7 : m.length ≤ 7
  · rw [if_pos h7, if_pos h7]
    rw [if_pos h7] at h
    have : k = 0 := by omega
    subst this
    rfl
  · rw [if_neg h7, if_neg h7]
    rw [if_neg h7] at h
    cases k with
    | zero => rfl
    | succ k =>
      rw [if_neg (by omega), List.getElem?_cons_succ, List.getElem?_map, List.getElem?_range (by omega)]
      rfl
/-- The next frame of a message whose frames have come in order, none late. -/
theorem take_next (s : JS) (id : Int) (m : List UInt8) (k : Nat) (last now : Int) (h0 : 0 < m.length) (hm : m.length ≤ 600) (hk : k < nF m) (hf : s.f id = stM m k last) (hn1 : last ≤ now) (hn2 : now - last ≤ 10) (q : List UInt8) (hq : (splitF m)[k]? = some q) :
    (takeJ s id q now).1.f = upd s.f id (stM m (k + 1) now) ∧ (takeJ s id q now).1.err = s.err ∧ (takeJ s id q now).1.cnt = (s.cnt + (if (stM m (k + 1) now).isSome then 1 else 0)) - (if (stM m k last).isSome then 1 else 0) ∧ (takeJ s id q now).2 = if k + 1 = nF m then some m else none := by
  rw [split_at m k hk] at hq
  injection hq with hq
  subst hq
  have upd_self : s.f id = none → upd s.f id none = s.f := fun h => by
    funext i
    by_cases hi : i = id
    · subst hi; rw [upd_same, h]
    · rw [upd_other _ _ hi]
  have late0 : s.f id = none → lateJ s id now = s ∧ dropJ s id = s := fun h => by
    unfold lateJ dropJ
    rw [h]
    exact ⟨rfl, rfl⟩
  by_cases h7 : m.length ≤ 7
  · have hn : nF m = 1 := by rw [nF, if_pos h7]
    have hk0 : k = 0 := by omega
    subst hk0
    rw [stM, if_pos (.inl rfl)] at hf
    obtain ⟨l1, l2⟩ := late0 hf
    have e1 : stM m (0 + 1) now = none := by rw [stM, if_pos (.inr (by omega))]
    have e0 : stM m 0 last = none := by rw [stM, if_pos (.inl rfl)]
    rw [if_pos h7, take_one s id m now h0 h7, l1, l2, e1, e0]
    exact ⟨(upd_self hf).symm, rfl, by simp, by rw [if_pos (by omega)]⟩
  · have hn : nF m = 1 + m.length / 7 := by rw [nF, if_neg h7]
    rw [if_neg h7]
    by_cases hk0 : k = 0
    · subst hk0
      rw [stM, if_pos (.inl rfl)] at hf
      obtain ⟨l1, l2⟩ := late0 hf
      have e0 : stM m 0 last = none := by rw [stM, if_pos (.inl rfl)]
      have e1 : stM m (0 + 1) now = some (opened m 1 now) := by rw [stM, if_neg (by omega)]
      rw [if_pos rfl, take_first s id m now (by omega) hm, l1, l2, e0, e1]
      exact ⟨rfl, rfl, rfl, by rw [if_neg (by omega)]⟩
    · have e0 : stM m k last = some (opened m k last) := by rw [stM, if_neg (by omega)]
      rw [e0] at hf
      rw [if_neg hk0, take_cont s id m k last now hm (by omega) (by omega) hf hn1 hn2, e0]
      by_cases hmore : 6 + 7 * k < m.length
      · have e1 : stM m (k + 1) now = some (opened m (k + 1) now) := by rw [stM, if_neg (by omega)]
        rw [if_pos hmore, e1]
        refine ⟨rfl, rfl, ?_, by rw [if_neg (by omega)]⟩
        show s.cnt = s.cnt + 1 - 1
        omega
      · have e1 : stM m (k + 1) now = none := by rw [stM, if_pos (.inr (by omega))]
        rw [if_neg hmore, e1]
        refine ⟨?_, rfl, ?_, by rw [if_pos (by omega)]⟩
        · funext i
          show upd (upd s.f id _) id none i = _
          by_cases hi : i = id
          · subst hi; rw [upd_same, upd_same]
          · rw [upd_other _ _ hi, upd_other _ _ hi, upd_other _ _ hi]
        · show s.cnt - 1 = s.cnt + 0 - 1
          omega

/-! ### A frame is lost, or comes too late -/
def lostS (a : List UInt8) (late : Bool) (k i : Nat) : Option OE :=
  if i ≤ k ∨ (late = true ∧ k = 0) then stM a i 0 else if late = false ∧ 0 < k ∧ i = k + 1 then some (opened a k 0) else none
def lostT (late : Bool) (k i : Nat) : Int := if late = true ∧ 0 < k ∧ k < i then 11 else 0
theorem lateJ_none {s : JS} {id : Int} (h : s.f id = none) (now : Int) : lateJ s id now = s := by
  unfold lateJ
  rw [h]
theorem lostS_true (a : List UInt8) (k i : Nat) : lostS a true k i = if i ≤ k ∨ k = 0 then stM a i 0 else none := by simp [lostS]
theorem lostS_false (a : List UInt8) (k i : Nat) : lostS a false k i = if i ≤ k then stM a i 0 else if 0 < k ∧ i = k + 1 then some (opened a k 0) else none := by simp [lostS]
theorem lostT_true (k i : Nat) : lostT true k i = if 0 < k ∧ k < i then 11 else 0 := by simp [lostT]
theorem lostT_false (k i : Nat) : lostT false k i = 0 := by simp [lostT]
theorem lost_skip (a : List UInt8) (k : Nat) (h : k < nF a) : lostS a false k (k + 1) = lostS a false k k := by
  rw [lostS_false, lostS_false, if_neg (by omega), if_pos (Nat.le_refl _), stM]
  by_cases h0 : 0 < k
  · rw [if_pos ⟨h0, rfl⟩, if_neg (by omega)]
  · rw [if_neg (by omega), if_pos (by omega)]
theorem lost_norm (s : JS) (a : List UInt8) (i : Nat) (hm : a.length ≤ 600) (h9 : 9 ≤ a.length) (hi : i < nF a) (hf : s.f 3 = stM a i 0) (q : List UInt8) (hq : (splitF a)[i]? = some q) :
    (takeJ s 3 q 0).1.f 3 = stM a (i + 1) 0 ∧ (takeJ s 3 q 0).2 = if i + 1 = nF a then some a else none := by
  obtain ⟨t1, _, _, t4⟩ := take_next s 3 a i 0 0 (by omega) hm hi hf (by omega) (by omega) q hq
  exact ⟨by rw [t1, upd_same], t4⟩
theorem frame_at (a : List UInt8) (i : Nat) (h9 : 9 ≤ a.length) (hi : i < nF a) (h0 : i ≠ 0) (q : List UInt8) (hq : (splitF a)[i]? = some q) : q = contF a (i - 1) := by
  rw [split_at a i hi, if_neg (by omega), if_neg h0] at hq
  injection hq with hq
  exact hq.symm
theorem lost_true (s : JS) (a : List UInt8) (k i : Nat) (h9 : 9 ≤ a.length) (hm : a.length ≤ 600) (hi : i < nF a) (hk : k < nF a) (hf : s.f 3 = lostS a true k i) (q : List UInt8) (hq : (splitF a)[i]? = some q) :
    (takeJ s 3 q (lostT true k (i + 1))).1.f 3 = lostS a true k (i + 1) ∧ ((takeJ s 3 q (lostT true k (i + 1))).2 = none ∨ k = 0) := by
  rw [lostS_true] at hf ⊢
  rw [lostT_true]
  by_cases hn : i < k ∨ k = 0
  · rw [if_pos (by omega)] at hf
    obtain ⟨t1, t4⟩ := lost_norm s a i hm h9 hi hf q hq
    rw [if_neg (show ¬ (0 < k ∧ k < i + 1) by omega)]
    refine ⟨by rw [t1, if_pos (by omega)], ?_⟩
    by_cases hk0 : k = 0
    · exact .inr hk0
    · left
      rw [t4, if_neg (by omega)]
  · rw [if_pos (show 0 < k ∧ k < i + 1 by omega), if_neg (show ¬ (i + 1 ≤ k ∨ k = 0) by omega), frame_at a i h9 hi (by omega) q hq]
    by_cases hik : i = k
    · subst hik
      rw [if_pos (by omega), stM, if_neg (by omega)] at hf
      obtain ⟨r1, r2⟩ := take_late s 3 a (i - 1) 11 _ hf (by show (10 : Int) < 11 - 0; omega)
      exact ⟨r2, .inl r1⟩
    · rw [if_neg (by omega)] at hf
      obtain ⟨r1, r2⟩ := take_wrong s 3 a (i - 1) 11 (lateJ_none hf _) (.inl hf)
      exact ⟨r2, .inl r1⟩
theorem lost_false (s : JS) (a : List UInt8) (k i : Nat) (h9 : 9 ≤ a.length) (hm : a.length ≤ 600) (hi : i < nF a) (hk : k < nF a) (hf : s.f 3 = lostS a false k i) (hn : i ≠ k) (q : List UInt8) (hq : (splitF a)[i]? = some q) :
    (takeJ s 3 q 0).1.f 3 = lostS a false k (i + 1) ∧ (takeJ s 3 q 0).2 = none := by
  rw [lostS_false] at hf ⊢
  by_cases hik : i < k
  · rw [if_pos (by omega)] at hf
    obtain ⟨t1, t4⟩ := lost_norm s a i hm h9 hi hf q hq
    exact ⟨by rw [t1, if_pos (by omega)], by rw [t4, if_neg (by omega)]⟩
  · rw [if_neg (by omega)] at hf
    rw [if_neg (show ¬ i + 1 ≤ k by omega), if_neg (show ¬ (0 < k ∧ i + 1 = k + 1) by omega), frame_at a i h9 hi (by omega) q hq]
    by_cases hx : 0 < k ∧ i = k + 1
    · rw [if_pos hx] at hf
      have hla : lateJ s 3 0 = s := by
        unfold lateJ
        rw [hf]
        show (if (0 : Int) < 0 ∨ (10 : Int) < 0 - 0 then _ else _) = _
        rw [if_neg (by omega)]
      obtain ⟨r1, r2⟩ := take_wrong s 3 a (i - 1) 0 hla (.inr ⟨_, hf, by show (i - 1 + 1) % 16 ≠ k % 16; omega⟩)
      exact ⟨r2, r1⟩
    · rw [if_neg hx] at hf
      obtain ⟨r1, r2⟩ := take_wrong s 3 a (i - 1) 0 (lateJ_none hf _) (.inl hf)
      exact ⟨r2, r1⟩
/-- The next message is told whole, whatever was open. -/
theorem whole_step (s : JS) (b : List UInt8) (j : Nat) (T : Int) (h0 : 0 < b.length) (hm : b.length ≤ 600) (hj : j < nF b) (hf : j = 0 ∨ s.f 3 = stM b j T) (q : List UInt8) (hq : (splitF b)[j]? = some q) :
    (takeJ s 3 q T).1.f 3 = stM b (j + 1) T ∧ (takeJ s 3 q T).2 = if j + 1 = nF b then some b else none := by
  by_cases hj0 : j = 0
  · subst hj0
    rw [split_at b 0 hj] at hq
    injection hq with hq
    subst hq
    by_cases h7 : b.length ≤ 7
    · have hn : nF b = 1 := by rw [nF, if_pos h7]
      rw [if_pos h7, take_one s 3 b T h0 h7, if_pos (by omega)]
      refine ⟨?_, rfl⟩
      show (dropJ (lateJ s 3 T) 3).f 3 = _
      rw [dropJ_none, stM, if_pos (.inr (by omega))]
    · have hn : nF b = 1 + b.length / 7 := by rw [nF, if_neg h7]
      rw [if_neg h7, if_pos rfl, take_first s 3 b T (by omega) hm, if_neg (by omega)]
      refine ⟨?_, rfl⟩
      show upd (dropJ (lateJ s 3 T) 3).f 3 (some (opened b 1 T)) 3 = _
      rw [upd_same, stM, if_neg (by omega)]
  · have hf2 : s.f 3 = stM b j T := by
      rcases hf with h | h
      · exact absurd h hj0
      · exact h
    obtain ⟨t1, _, _, t4⟩ := take_next s 3 b j T T h0 hm hj hf2 (Int.le_refl _) (by omega) q hq
    exact ⟨by rw [t1, upd_same], t4⟩

end Go.Proofs.Ytcbecidcfbhkfaa
