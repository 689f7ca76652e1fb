/- Messages in frames (chapter 15): what a message's frames are; rows of frames; Split's walk. -/
import Derived.Test.YtcbecidcfbhkfaaClone
namespace Go.Proofs.Ytcbecidcfbhkfaa
set_option linter.unusedVariables false
set_option linter.unusedSimpArgs false
open Go.RowKit

/-! ### Plain -/
def oneF (m : List UInt8) : List UInt8 := UInt8.ofNat m.length :: m
def firstF (m : List UInt8) : List UInt8 := UInt8.ofNat (16 + m.length / 256) :: UInt8.ofNat (m.length % 256) :: m.take 6
def contF (m : List UInt8) (i : Nat) : List UInt8 := UInt8.ofNat (32 + (i + 1) % 16) :: (m.drop (6 + 7 * i)).take 7
def splitF (m : List UInt8) : List (List UInt8) := if m.length ≤ 7 then [oneF m] else firstF m :: (List.range (m.length / 7)).map (contF m)
/-- Why a message is not split (0: it is). -/
def splitE (id : Int) (m : List UInt8) : Int := if id < 0 ∨ 2047 < id ∨ m.length = 0 then 1 else if 600 < m.length then 10 else 0
def splitL (id : Int) (m : List UInt8) : List (List UInt8) := if splitE id m = 0 then splitF m else []

theorem or16 (a : Nat) (h : a < 16) : bits BinOp.or IntKind.u8 16 (a : Int) = ((UInt8.ofNat (16 + a)).toNat : Int) := by
  have : ∀ a, a < 16 → bits BinOp.or IntKind.u8 16 ((a : Nat) : Int) = ((UInt8.ofNat (16 + a)).toNat : Int) := by decide +kernel
  exact this a h
theorem or32 (a : Nat) (h : a < 16) : bits BinOp.or IntKind.u8 32 (a : Int) = ((UInt8.ofNat (32 + a)).toNat : Int) := by
  have : ∀ a, a < 16 → bits BinOp.or IntKind.u8 32 ((a : Nat) : Int) = ((UInt8.ofNat (32 + a)).toNat : Int) := by decide +kernel
  exact this a h

/-! ### Rows of frames -/
def frCells (id : Int) (vs : List Value) : List Value := vs.flatMap fun v => [.int .i64 id, v]
theorem frCells_len (id : Int) (vs : List Value) : (frCells id vs).length = vs.length * 2 := by
  induction vs with
  | nil => rfl
  | cons v vs ih => rw [frCells, List.flatMap_cons, ← frCells, List.length_append, ih, List.length_cons]; simp; omega
theorem frCells_at (id : Int) : ∀ (vs : List Value) (k : Nat) (v : Value), vs[k]? = some v → (frCells id vs)[k * 2]? = some (.int .i64 id) ∧ (frCells id vs)[k * 2 + 1]? = some v
  | [], k, v, h => by simp at h
  | x :: vs, 0, v, h => by
    simp only [List.getElem?_cons_zero, Option.some.injEq] at h
    subst h
    exact ⟨rfl, rfl⟩
  | x :: vs, k + 1, v, h => by
    have := frCells_at id vs k v (by simpa using h)
    rw [frCells, List.flatMap_cons, ← frCells]
    refine ⟨?_, ?_⟩
    · rw [List.getElem?_append_right (by simp; omega)]
      simpa [show (k + 1) * 2 - 2 = k * 2 from by omega] using this.1
    · rw [List.getElem?_append_right (by simp; omega)]
      simpa [show (k + 1) * 2 + 1 - 2 = k * 2 + 1 from by omega] using this.2
/-- Frames that are read: colour c. -/
structure Frs (w : World) (o : Col) (c : Nat) (v : Value) (l : List (Int × List UInt8)) : Prop where
  is : ∃ A cap, v = .slice A l.length cap ∧ l.length ≤ cap ∧ l.length ≤ 9223372036854775807 ∧ ∀ (k : Nat) (x : Int × List UInt8), l[k]? = some x → ∃ a vd, A = some a ∧ o a.block = c ∧ w.cell? (a.add (k * 2)) = some (.int .i64 x.1) ∧ w.cell? (a.add (k * 2 + 1)) = some vd ∧ RdB w o c vd x.2
theorem Frs.stp {C : List Nat} {w w1 : World} {o o1 : Col} {c : Nat} {v : Value} {l : List (Int × List UInt8)} (h : Frs w o c v l) (hs : Stp C w o w1 o1) (hn : c ∉ C) : Frs w1 o1 c v l := by
  obtain ⟨A, cap, h1, h2, h3, h4⟩ := h
  refine ⟨A, cap, h1, h2, h3, fun k x hx => ?_⟩
  obtain ⟨a, vd, e, ha, c1, c2, hr⟩ := h4 k x hx
  have hb := (hs.colc c1)
  rw [add_block] at hb
  exact ⟨a, vd, e, hb.trans ha, hs.cell c1 (by rw [add_block, ha]; exact hn), hs.cell c2 (by rw [add_block, ha]; exact hn), hr.stp hs hn⟩
/-- Frames of one ID, of the call's own: their row of colour e, their bytes of colour d. -/
structure FrO (w : World) (o : Col) (e d : Nat) (id : Int) (v : Value) (vs : List Value) (l : List (List UInt8)) : Prop where
  own : Own w o e 37 2 v vs.length (frCells id vs)
  len : vs.length = l.length
  row : ∀ (i : Nat) (u : Value) (q : List UInt8), vs[i]? = some u → l[i]? = some q → RdB w o d u q
theorem Rd.fresh {C : List Nat} {w w1 : World} {o o1 : Col} {d sz n : Nat} {v : Value} {vals : List Value} (h : Rd w1 o1 d sz v n vals) (hs : Stp C w o w1 o1) (hd : ∀ k, k < w.heap.size → o k ≠ d) (c : Nat) : Rd w1 (paint o w.heap.size c) c sz v n vals := by
  obtain ⟨h1, h2, h3, A, cap, h4, h5, h6, h7⟩ := h
  refine ⟨h1, h2, h3, A, cap, h4, h5, h6, fun h0 => ?_⟩
  obtain ⟨a, e, ha, hlt, hc⟩ := h7 h0
  refine ⟨a, e, paint_ge (Nat.le_of_not_lt fun hx => ?_), hlt, hc⟩
  rw [hs.col _ hx] at ha
  exact hd _ hx ha
theorem FrO.out {C : List Nat} {w w1 : World} {o o1 : Col} {e d : Nat} {id : Int} {v : Value} {vs : List Value} {l : List (List UInt8)} (h : FrO w1 o1 e d id v vs l) (hs : Stp C w o w1 o1) (hd : ∀ k, k < w.heap.size → o k ≠ d) (he : ∀ k, k < w.heap.size → o k ≠ e) (c : Nat) :
    Frs w1 (paint o w.heap.size c) c v (l.map fun q => (id, q)) := by
  have hr := Rd.fresh h.own.rd hs he c
  obtain ⟨_, hb, _, A, cap, h4, h5, _, h7⟩ := hr
  refine ⟨A, cap, by rw [List.length_map, ← h.len]; exact h4, by rw [List.length_map, ← h.len]; exact h5, by rw [List.length_map, ← h.len]; exact hb, fun k x hx => ?_⟩
  rw [List.getElem?_map] at hx
  cases hq : l[k]? with
  | none => rw [hq] at hx; cases hx
  | some q =>
    rw [hq] at hx
    injection hx with hx
    subst hx
    have hk := (List.getElem?_eq_some_iff.1 hq).1
    obtain ⟨u, hu⟩ : ∃ u, vs[k]? = some u := ⟨vs[k]'(by rw [h.len]; exact hk), by simp [h.len, hk]⟩
    obtain ⟨a, ea, ha, _, hc⟩ := h7 (by rw [h.len]; omega)
    obtain ⟨g1, g2⟩ := frCells_at id vs k u hu
    exact ⟨a, u, ea, ha, hc _ _ g1, hc _ _ g2, Rd.fresh (h.row k u q hu hq) hs hd c⟩
theorem frCells_snoc (id : Int) (vs : List Value) (u : Value) : frCells id (vs ++ [u]) = frCells id vs ++ [.int .i64 id, u] := by simp [frCells]
/-- A frame is laid behind the frames. -/
theorem FrO.push {w w' : World} {o o' : Col} {e d : Nat} {id : Int} {v v' u : Value} {vs : List Value} {l : List (List UInt8)} {q : List UInt8} (h : FrO w o e d id v vs l) (hs : Stp [e] w o w' o') (hde : d ≠ e) (hr : RdB w o d u q)
    (ho : Own w' o' e 37 2 v' (vs.length + 1) (frCells id vs ++ [.int .i64 id, u])) : FrO w' o' e d id v' (vs ++ [u]) (l ++ [q]) := by
  refine ⟨by rw [frCells_snoc, List.length_append]; exact ho, by simp [h.len], fun i u' q' h1 h2 => ?_⟩
  have key : RdB w o d u' q' := by
    by_cases hi : i < vs.length
    · rw [List.getElem?_append_left hi] at h1
      rw [List.getElem?_append_left (by rw [← h.len]; exact hi)] at h2
      exact h.row i u' q' h1 h2
    · rw [List.getElem?_append_right (by omega)] at h1
      rw [List.getElem?_append_right (by rw [← h.len]; omega)] at h2
      have e0 : i - vs.length = 0 := by
        have := (List.getElem?_eq_some_iff.1 h1).1
        simp at this
        omega
      rw [e0] at h1
      rw [← h.len, e0] at h2
      simp only [List.getElem?_cons_zero, Option.some.injEq] at h1 h2
      subst h1
      subst h2
      exact hr
  exact key.stp hs (by simpa using hde)
theorem FrO.stp {C : List Nat} {w w1 : World} {o o1 : Col} {e d : Nat} {id : Int} {v : Value} {vs : List Value} {l : List (List UInt8)} (h : FrO w o e d id v vs l) (hs : Stp C w o w1 o1) (he : e ∉ C) (hd : d ∉ C) : FrO w1 o1 e d id v vs l :=
  ⟨h.own.stp hs he, h.len, fun i u q h1 h2 => (h.row i u q h1 h2).stp hs hd⟩
theorem FrO.nil (w : World) (o : Col) (e d : Nat) (id : Int) : FrO w o e d id (.slice none 0 0) [] [] := ⟨Own.nil _ _ _ _ _, rfl, by simp⟩
/-- A new block of cells, all of them read, sz to an element. -/
theorem Rd.newS (w : World) (o : Col) (c sz : Nat) (cs : Array Value) (vals : List Value) (h : cs.toList = vals) (n : Nat) (hn : vals.length = n * sz) (hb : n ≤ 9223372036854775807) (h1 : ∀ u ∈ vals, u.oneCell' = true) (e k : Nat) (hk : w.heap.size = k) : Rd (w.alloc (.cells cs e)) (paint o w.heap.size c) c sz (.slice (some ⟨k, 0, none⟩) n n) n vals := by
  subst hk
  refine ⟨hn, hb, h1, some ⟨w.heap.size, 0, none⟩, n, rfl, Nat.le_refl _, by simp, fun _ => ⟨_, rfl, paint_at _ _ _, by simp, fun j u hu => ?_⟩⟩
  rw [Addr.add_lit, Nat.zero_add, cell_of_row _ w.heap.size j cs e (0, 0) (heap_alloc_new w _)]
  rw [← h] at hu
  simpa using hu
/-- A new row of the call's own, sz to an element. -/
theorem Own.newS (w : World) (o : Col) (c e sz : Nat) (cs : Array Value) (vals : List Value) (h : cs.toList = vals) (n : Nat) (hn : vals.length = n * sz) (hb : n ≤ 9223372036854775807) (h1 : ∀ u ∈ vals, u.oneCell' = true) (k : Nat) (hk : w.heap.size = k) : Own (w.alloc (.cells cs e)) (paint o w.heap.size c) c e sz (.slice (some ⟨k, 0, none⟩) n n) n vals := by
  subst hk
  have hsz : cs.size = n * sz := by rw [← Array.length_toList, h, hn]
  refine ⟨⟨hn, .inr ⟨w.heap.size, n, cs, rfl, Nat.zero_le _, heap_alloc_new w _, Nat.le_refl _, by simp only [maxLen]; omega, by omega, ?_⟩⟩, h1, fun k hk => ?_⟩
  · rw [h, ← hn, List.take_length]
  · injection hk with hk
    subst hk
    exact paint_at _ _ _
theorem RdB.one {w : World} {o : Col} {c : Nat} {v : Value} {l : List UInt8} (h : RdB w o c v l) : v.oneCell' = true := by
  obtain ⟨A, cap, rfl, _, _⟩ := h.shape
  rfl
theorem FrO.new {w : World} {o : Col} {d : Nat} {u : Value} {q : List UInt8} (hr : RdB w o d u q) (e : Nat) (id : Int) (k : Nat) (hk : w.heap.size = k) :
    FrO (w.alloc (.cells #[.int .i64 id, u] 37)) (paint o w.heap.size e) e d id (.slice (some ⟨k, 0, none⟩) 1 1) [u] [q] := by
  have hone := hr.one
  refine ⟨Own.newS w o e _ 2 _ _ rfl 1 (by simp [frCells]) (by omega) (by simp [frCells, hone]; rfl) k hk, rfl, fun i u' q' h1 h2 => ?_⟩
  cases i with
  | succ i => simp at h1
  | zero =>
    simp only [List.getElem?_cons_zero, Option.some.injEq] at h1 h2
    subst h1
    subst h2
    exact hr.stp ((Stp.refl [] w o).alloc _ e) (by simp)
theorem slF : SlT Try.prog 23 37 2 32 (.agg #[.int .i64 0, .slice none 0 0]) := ⟨Try.underlying23, info_parts (by kernel_rfl), by kernel_rfl, by omega⟩

/-- What the loop of Split keeps. -/
def SpR (w0 : World) (o0 : Col) (e d : Nat) (id : Int) (m : List UInt8) (x y z : Value) (wr : World) : Prop :=
  ∃ (k : Nat) (o' : Col) (vs : List Value), y = .int .i64 ((k + 1 : Nat) : Int) ∧ z = .int .i64 ((6 + 7 * k : Nat) : Int) ∧ k ≤ m.length / 7 ∧ Stp [e, d] w0 o0 wr o' ∧ FrO wr o' e d id x vs (firstF m :: (List.range k).map (contF m))
set_option maxHeartbeats 1000000 in
set_option maxRecDepth 100000 in
theorem split_calls (c c' : Nat) (id : Int) (v : Value) (m : List UInt8) (w : World) (o : Col) (hm : RdB w o c v m) :
    Calls Try.prog 11 #[.int .i64 id, v] w (Post [] w o fun r w' o' => ∃ vl, r = .tuple #[vl, .int .i64 (splitE id m)] ∧ Frs w' o' c' vl ((splitL id m).map fun q => (id, q))) := by
  obtain ⟨A, cap, rfl, hlc, hA⟩ := hm.shape
  have bad : splitE id m ≠ 0 → Frs w o c' (.slice none 0 0) ((splitL id m).map fun q => (id, q)) := fun h => by
    rw [splitL, if_neg h]
    exact ⟨none, 0, rfl, Nat.le_refl _, by simp, by simp⟩
  by_cases h1 : id < 0
  · have hE : splitE id m = 1 := by rw [splitE, if_pos (.inl h1)]
    rw [hE] at bad ⊢
    replace bad := Lib.hid (bad (by decide))
    have g1 : decide (id < 0) = true := decide_eq_true h1
    go_enter Try.func11, Try.ntmps11
    go_wp2
    refine bodyPost_ret (results_tmp2 rfl _ _ _) rfl ?_
    exact Post.mk (Stp.refl _ _ _) ⟨_, rfl, bad.out⟩
  have g1 : decide (id < 0) = false := decide_eq_false h1
  by_cases h2 : 2047 < id
  · have hE : splitE id m = 1 := by rw [splitE, if_pos (.inr (.inl h2))]
    rw [hE] at bad ⊢
    replace bad := Lib.hid (bad (by decide))
    have g2 : decide (2047 < id) = true := decide_eq_true h2
    go_enter Try.func11, Try.ntmps11
    go_wp2
    refine bodyPost_ret (results_tmp2 rfl _ _ _) rfl ?_
    exact Post.mk (Stp.refl _ _ _) ⟨_, rfl, bad.out⟩
  have g2 : decide (2047 < id) = false := decide_eq_false h2
  by_cases h3 : m.length = 0
  · have hE : splitE id m = 1 := by rw [splitE, if_pos (.inr (.inr h3))]
    rw [hE] at bad ⊢
    replace bad := Lib.hid (bad (by decide))
    have g3 : ((m.length : Int) == 0) = true := by simp [h3]
    go_enter Try.func11, Try.ntmps11
    go_wp2
    refine bodyPost_ret (results_tmp2 rfl _ _ _) rfl ?_
    exact Post.mk (Stp.refl _ _ _) ⟨_, rfl, bad.out⟩
  have g3 : ((m.length : Int) == 0) = false := by simp [h3]
  by_cases h4 : 600 < m.length
  · have hE : splitE id m = 10 := by rw [splitE, if_neg (by omega), if_pos h4]
    rw [hE] at bad ⊢
    replace bad := Lib.hid (bad (by decide))
    have g4 : decide ((600 : Int) < (m.length : Int)) = true := decide_eq_true (by omega)
    go_enter Try.func11, Try.ntmps11
    go_wp2
    refine bodyPost_ret (results_tmp2 rfl _ _ _) rfl ?_
    exact Post.mk (Stp.refl _ _ _) ⟨_, rfl, bad.out⟩
  have g4 : decide ((600 : Int) < (m.length : Int)) = false := decide_eq_false (by omega)
  have hE : splitE id m = 0 := by rw [splitE, if_neg (by omega), if_neg h4]
  have hL : splitL id m = splitF m := by rw [splitL, if_pos hE]
  rw [hE, hL]
  clear bad hE hL
  obtain ⟨e, he1, _, he⟩ := fresh o w.heap.size [c]
  obtain ⟨d, hd1, _, hd⟩ := fresh o w.heap.size [c, e]
  by_cases h5 : m.length ≤ 7
  · have g5 : decide ((m.length : Int) ≤ 7) = true := decide_eq_true (by omega)
    go_enter Try.func11, Try.ntmps11
    go_wp2_with (refine holdAt 36 ?_)
    apply Hold.mk
    have s1 := (Stp.refl [d] w o).alloc (.cells #[.int .u8 (m.length : Int)] 5) d
    refine appB _ _ rfl rfl (OwnB.new w o d #[.int .u8 (m.length : Int)] [UInt8.ofNat m.length] (by simp only [vbs, List.map_cons, List.map_nil]; rw [← ofNat8 (by omega)]) 1 rfl (by omega) _ rfl) (hm.stp (s1.drop hd) (by simp)) rfl rfl (by simp; omega) fun A' cap' w1 o1 h1 h2 _ _ => ?_
    have s2 := s1.trans h1
    have f3 := Lib.hid (FrO.new (OwnB.rd h2) e id _ rfl)
    have s3 := Lib.hid ((s2.mono (D := [e, d]) (by simp)).alloc (.cells #[.int .i64 id, .slice A' (1 + m.length) cap'] 37) e)
    clear s1 h1 h2 s2
    go_wp2
    refine bodyPost_ret (results_tmp2 rfl _ _ _) rfl ?_
    refine Post.mk (((s3.out.drop he).drop hd).repaint c') ⟨_, rfl, ?_⟩
    rw [splitF, if_pos h5]
    exact FrO.out f3.out s3.out hd he c'
  · have g5 : decide ((m.length : Int) ≤ 7) = false := decide_eq_false (by omega)
    have k1 := or16 (m.length / 256) (by omega)
    have k2 := ofNat8 (show m.length % 256 < 256 by omega)
    rw [Int.natCast_ediv] at k1
    rw [Int.natCast_emod] at k2
    have cs2 : vbs [UInt8.ofNat (16 + m.length / 256), UInt8.ofNat (m.length % 256)] = [.int .u8 (bits BinOp.or IntKind.u8 16 ((m.length : Int) / 256)), .int .u8 ((m.length : Int) % 256)] := by
      simp only [vbs, List.map_cons, List.map_nil]
      rw [← k1, ← k2]
      rfl
    clear k1 k2
    replace cs2 := Lib.hid cs2
    go_enter Try.func11, Try.ntmps11
    go_wp2_with (refine holdAt 50 ?_)
    apply Hold.mk
    have s1 := (Stp.refl [d] w o).alloc (.cells #[.int .u8 (bits BinOp.or IntKind.u8 16 ((m.length : Int) / 256)), .int .u8 ((m.length : Int) % 256)] 5) d
    refine slcBH _ _ rfl rfl (hm.stp (s1.drop hd) (by simp)) 6 rfl rfl (by omega) fun A6 h6 => ?_
    have l6 : (m.take 6).length = 6 := by rw [List.length_take]; omega
    go_wp2_with (refine holdAt 51 ?_)
    apply Hold.mk
    refine appB _ _ rfl rfl (OwnB.new w o d #[.int .u8 (bits BinOp.or IntKind.u8 16 ((m.length : Int) / 256)), .int .u8 ((m.length : Int) % 256)] [UInt8.ofNat (16 + m.length / 256), UInt8.ofNat (m.length % 256)] (by rw [cs2.out]) 2 rfl (by omega) _ rfl) h6 rfl rfl (by rw [l6]; simp) fun A' cap' w1 o1 h1 h2 _ _ => ?_
    rw [l6]
    have s2 := s1.trans h1
    have f3 := Lib.hid (FrO.new (OwnB.rd h2) e id _ rfl)
    rw [l6] at f3
    have s3 := Lib.hid ((s2.mono (D := [e, d]) (by simp)).alloc (.cells #[.int .i64 id, .slice A' (2 + 6) cap'] 37) e)
    clear s1 h1 h2 s2 h6
    go_wp2_with fail
    go_loopw [6, 7, 8] (SpR w o e d id m) (fun _ y _ _ => m.length / 7 + 1 - (intOf y).toNat)
    case atStart => exact ⟨0, _, _, rfl, rfl, Nat.zero_le _, s3.out, f3.out⟩
    case round =>
      obtain ⟨k, o2, vs, rfl, rfl, hk, hs, hf⟩ := hrel
      obtain ⟨AL, capL, rfl⟩ := hf.own.shape
      have hln : vs.length = k + 1 := by rw [hf.len]; simp
      obtain ⟨p, hp⟩ : ∃ p, 6 + 7 * k = p := ⟨_, rfl⟩
      obtain ⟨n1, hn1⟩ : ∃ n1, k + 1 = n1 := ⟨_, rfl⟩
      rw [hln] at hf ⊢
      rw [hp, hn1]
      have hC : ¬ c ∈ [e, d] := by simp at he1 hd1 ⊢; exact ⟨fun h => he1 h.symm, fun h => hd1.1 h.symm⟩
      replace hm := hm.stp hs hC
      clear f3 s3 cs2 l6
      by_cases hlt : p < m.length
      · have g6 : decide ((p : Int) < (m.length : Int)) = true := decide_eq_true (by omega)
        have hp2 : p ≤ 600 := by omega
        have hnb : n1 ≤ 100 := by omega
        replace hf := Lib.hid hf
        replace hs := Lib.hid hs
        replace hm := Lib.hid hm
        replace hk := Lib.hid hk
        replace hp := Lib.hid hp
        replace hn1 := Lib.hid hn1
        replace hln := Lib.hid hln
        replace hC := Lib.hid hC
        replace h5 := Lib.hid h5
        replace h4 := Lib.hid h4
        have hed : d ≠ e := by simp at hd1; exact hd1.2
        replace hed := Lib.hid hed
        obtain ⟨d2, _, _, hd22⟩ := fresh o2 wr.heap.size [c, e, d]
        by_cases hfull : p + 7 ≤ m.length
        · have g7 : decide ((m.length : Int) < (p : Int) + 7) = false := decide_eq_false (by omega)
          have g8 : ((p : Int) + 7 ≤ (m.length : Int)) := by omega
          replace hfull := Lib.hid hfull
          go_wp2_with (refine holdAt 69 ?_)
          apply Hold.mk
          refine slcBLH _ _ _ rfl rfl hm.out p (p + 7) rfl rfl rfl (by omega) (by have := hfull.out; omega) fun A9 h9 => ?_
          have hpc : (m.drop p).take (p + 7 - p) = (m.drop p).take 7 := by rw [show p + 7 - p = 7 from by omega]
          have hpl : ((m.drop p).take 7).length = (p + 7) - p := by rw [← hpc, List.length_take, List.length_drop]; have := hfull.out; omega
          rw [hpc] at h9
          have hb := or32 (n1 % 16) (by omega)
          rw [Int.natCast_emod] at hb
          have hcf : contF m k = [UInt8.ofNat (32 + n1 % 16)] ++ (m.drop p).take 7 := by rw [contF, hn1.out, hp.out]; rfl
          have h7 : ((m.drop p).take 7).length ≤ 7 := by rw [List.length_take]; omega
          obtain ⟨q, hq9⟩ : ∃ q, (m.drop p).take 7 = q := ⟨_, rfl⟩
          rw [← hpl] at h9 ⊢
          rw [hq9] at h9 hcf h7 ⊢
          replace h9 := Lib.hid h9
          replace hq9 := Lib.hid hq9
          replace hb := Lib.hid hb
          replace h7 := Lib.hid h7
          replace hcf := Lib.hid hcf
          clear hpc hpl
          go_wp2_with (refine holdAt 78 ?_)
          apply Hold.mk
          have s4 := (Stp.refl [d2] wr o2).alloc (.cells #[.int .u8 (bits BinOp.or IntKind.u8 32 ((n1 : Int) % 16))] 5) d2
          have r9 := RdB.stp h9.out (Stp.refl [] wr o2 |>.alloc (.cells #[.int .u8 (bits BinOp.or IntKind.u8 32 ((n1 : Int) % 16))] 5) d2) (by simp)
          refine appB _ _ rfl rfl (OwnB.new wr o2 d2 #[.int .u8 (bits BinOp.or IntKind.u8 32 ((n1 : Int) % 16))] [UInt8.ofNat (32 + n1 % 16)] (by simp only [vbs, List.map_cons, List.map_nil]; rw [← hb.out]; rfl) 1 rfl (by omega) _ rfl) r9 rfl rfl (by have := h7.out; simp only [List.length_cons, List.length_nil]; omega) fun A3 cap3 w3 o3 j1 j2 _ _ => ?_
          have s5 := s4.trans j1
          rw [← hcf.out] at j2
          obtain ⟨oc, rc, s6⟩ := (⟨_, Own.fresh j2 s5 hd22 d, (s5.drop hd22).repaint d⟩ : ∃ oc, OwnB w3 oc d _ (contF m k) ∧ Stp [] wr o2 w3 oc)
          have f4 := hf.out.stp s6 (by simp) (by simp)
          have sa : ∀ C : List Nat, Stp C w3 oc _ _ := fun C => (Stp.refl C w3 oc).alloc (.cells #[.int .i64 id, .slice A3 ([UInt8.ofNat (32 + n1 % 16)].length + q.length) cap3] 37) e
          have f5 := Lib.hid (f4.stp (sa []) (by simp) (by simp))
          have r5 := Lib.hid (RdB.stp (OwnB.rd rc) (sa []) (by simp))
          have hrd := Lib.hid (Rd.newS w3 oc e 2 #[.int .i64 id, .slice A3 ([UInt8.ofNat (32 + n1 % 16)].length + q.length) cap3] _ rfl 1 rfl (by omega) (by simp [Value.oneCell']) 37 _ rfl)
          have st7 := Lib.hid (hs.out.trans (s6.none.trans (sa [e, d])))
          clear s4 r9 j1 j2 s5 rc s6 f4 sa
          go_wp2_with (refine holdAt 81 ?_)
          apply Hold.mk
          refine app slF _ _ rfl rfl f5.out.own hrd.out (by rw [hn1.out]; rfl) rfl (by have := hln.out; have := hk.out; have := h4.out; omega) (by have := hln.out; have := hk.out; have := h4.out; simp only [maxLen]; omega) fun A4 cap4 w4 o4 q1 q2 _ _ _ => ?_
          have push := f5.out.push q1 hed.out r5.out q2
          rw [List.cons_append, show (List.range k).map (contF m) ++ [contF m k] = (List.range (k + 1)).map (contF m) from by rw [List.range_succ, List.map_append]; rfl] at push
          replace push := Lib.hid push
          have st8 := Lib.hid (st7.out.trans (q1.mono (D := [e, d]) (by simp)))
          clear q1 q2
          go_wp2
          go_roundw
          case rel => exact ⟨k + 1, o4, _, by have := hn1.out; go_num, by have := hp.out; go_num, by have := hp.out; omega, st8.out, push.out⟩
          case measure => have := hn1.out; simp [intOf]; have := hp.out; omega
        · have g7 : decide ((m.length : Int) < (p : Int) + 7) = true := decide_eq_true (by omega)
          have g8 : decide ((p : Int) + 7 < (m.length : Int)) = false := decide_eq_false (by omega)
          have g9 : decide ((p : Int) + 7 ≤ (m.length : Int)) = false := decide_eq_false (by omega)
          have hq : (m.length : Int) < (p : Int) + 7 := by omega
          have hq2 : ¬ ((p : Int) + 7 ≤ (m.length : Int)) := by omega
          replace hfull := Lib.hid hfull
          go_wp2_with (refine holdAt 67 ?_)
          apply Hold.mk
          go_wp2_with (refine holdAt 68 ?_)
          apply Hold.mk
          go_wp2_with (refine holdAt 69 ?_)
          apply Hold.mk
          refine slcBLH _ _ _ rfl rfl hm.out p (m.length) rfl rfl rfl (by omega) (by have := hfull.out; omega) fun A9 h9 => ?_
          have hpc : (m.drop p).take (m.length - p) = (m.drop p).take 7 := by rw [List.take_of_length_le (by rw [List.length_drop]; omega), List.take_of_length_le (by rw [List.length_drop]; have := hfull.out; omega)]
          have hpl : ((m.drop p).take 7).length = (m.length) - p := by rw [← hpc, List.length_take, List.length_drop]; have := hfull.out; omega
          rw [hpc] at h9
          have hb := or32 (n1 % 16) (by omega)
          rw [Int.natCast_emod] at hb
          have hcf : contF m k = [UInt8.ofNat (32 + n1 % 16)] ++ (m.drop p).take 7 := by rw [contF, hn1.out, hp.out]; rfl
          have h7 : ((m.drop p).take 7).length ≤ 7 := by rw [List.length_take]; omega
          obtain ⟨q, hq9⟩ : ∃ q, (m.drop p).take 7 = q := ⟨_, rfl⟩
          rw [← hpl] at h9 ⊢
          rw [hq9] at h9 hcf h7 ⊢
          replace h9 := Lib.hid h9
          replace hq9 := Lib.hid hq9
          replace hb := Lib.hid hb
          replace h7 := Lib.hid h7
          replace hcf := Lib.hid hcf
          clear hpc hpl
          go_wp2_with (refine holdAt 78 ?_)
          apply Hold.mk
          have s4 := (Stp.refl [d2] wr o2).alloc (.cells #[.int .u8 (bits BinOp.or IntKind.u8 32 ((n1 : Int) % 16))] 5) d2
          have r9 := RdB.stp h9.out (Stp.refl [] wr o2 |>.alloc (.cells #[.int .u8 (bits BinOp.or IntKind.u8 32 ((n1 : Int) % 16))] 5) d2) (by simp)
          refine appB _ _ rfl rfl (OwnB.new wr o2 d2 #[.int .u8 (bits BinOp.or IntKind.u8 32 ((n1 : Int) % 16))] [UInt8.ofNat (32 + n1 % 16)] (by simp only [vbs, List.map_cons, List.map_nil]; rw [← hb.out]; rfl) 1 rfl (by omega) _ rfl) r9 rfl rfl (by have := h7.out; simp only [List.length_cons, List.length_nil]; omega) fun A3 cap3 w3 o3 j1 j2 _ _ => ?_
          have s5 := s4.trans j1
          rw [← hcf.out] at j2
          obtain ⟨oc, rc, s6⟩ := (⟨_, Own.fresh j2 s5 hd22 d, (s5.drop hd22).repaint d⟩ : ∃ oc, OwnB w3 oc d _ (contF m k) ∧ Stp [] wr o2 w3 oc)
          have f4 := hf.out.stp s6 (by simp) (by simp)
          have sa : ∀ C : List Nat, Stp C w3 oc _ _ := fun C => (Stp.refl C w3 oc).alloc (.cells #[.int .i64 id, .slice A3 ([UInt8.ofNat (32 + n1 % 16)].length + q.length) cap3] 37) e
          have f5 := Lib.hid (f4.stp (sa []) (by simp) (by simp))
          have r5 := Lib.hid (RdB.stp (OwnB.rd rc) (sa []) (by simp))
          have hrd := Lib.hid (Rd.newS w3 oc e 2 #[.int .i64 id, .slice A3 ([UInt8.ofNat (32 + n1 % 16)].length + q.length) cap3] _ rfl 1 rfl (by omega) (by simp [Value.oneCell']) 37 _ rfl)
          have st7 := Lib.hid (hs.out.trans (s6.none.trans (sa [e, d])))
          clear s4 r9 j1 j2 s5 rc s6 f4 sa
          go_wp2_with (refine holdAt 81 ?_)
          apply Hold.mk
          refine app slF _ _ rfl rfl f5.out.own hrd.out (by rw [hn1.out]; rfl) rfl (by have := hln.out; have := hk.out; have := h4.out; omega) (by have := hln.out; have := hk.out; have := h4.out; simp only [maxLen]; omega) fun A4 cap4 w4 o4 q1 q2 _ _ _ => ?_
          have push := f5.out.push q1 hed.out r5.out q2
          rw [List.cons_append, show (List.range k).map (contF m) ++ [contF m k] = (List.range (k + 1)).map (contF m) from by rw [List.range_succ, List.map_append]; rfl] at push
          replace push := Lib.hid push
          have st8 := Lib.hid (st7.out.trans (q1.mono (D := [e, d]) (by simp)))
          clear q1 q2
          go_wp2
          go_roundw
          case rel => exact ⟨k + 1, o4, _, by have := hn1.out; go_num, by have := hp.out; go_num, by have := hp.out; omega, st8.out, push.out⟩
          case measure => have := hn1.out; simp [intOf]; have := hp.out; omega
      · have g6 : decide ((p : Int) < (m.length : Int)) = false := decide_eq_false (by omega)
        have hkk : k = m.length / 7 := by omega
        rw [hkk] at hf
        have fin := Lib.hid (FrO.out hf hs hd he c')
        replace hs := Lib.hid hs
        replace hf := Lib.hid hf
        replace hkk := Lib.hid hkk
        replace hk := Lib.hid hk
        replace hp := Lib.hid hp
        replace hn1 := Lib.hid hn1
        replace hln := Lib.hid hln
        go_wp2
        refine bodyPost_ret (results_tmp2 rfl _ _ _) rfl ?_
        refine Post.mk (((hs.out.drop he).drop hd).repaint c') ⟨_, rfl, ?_⟩
        rw [splitF, if_neg h5]
        have := fin.out
        rw [← hkk.out, hn1.out] at this
        rw [← hkk.out]
        exact this

end Go.Proofs.Ytcbecidcfbhkfaa
