/- Package octet: the walks of the Writer and the Reader. -/
import Derived.Test.YtpjnmijfmfgdpaaBase
namespace Go.Proofs.Ytpjnmijfmfgdpaa
set_option linter.unusedVariables false
set_option linter.unusedSimpArgs false
open Go.RowKit

set_option maxHeartbeats 400000 in
theorem clone_calls (c c' : Nat) (v : Value) (l : List UInt8) (w : World) (o : Col) (hr : RdB w o c v l) (hb : l.length ≤ 140737488355328) :
    Calls Try.prog 59 #[v] w (Post [] w o fun v' w' o' => OwnB w' o' c' v' l) := by
  obtain ⟨A, cap, rfl, hlc, hA⟩ := hr.shape
  have hnil := @Lib.run_eql_slice_nil Try.prog
  obtain ⟨d, _, _, hd⟩ := fresh o w.heap.size []
  cases A with
  | none =>
    have hl : l = [] := List.eq_nil_of_length_eq_zero (by have := hA rfl; omega)
    subst hl
    have h0 := hA rfl
    subst h0
    go_enter Try.func59, Try.ntmps59
    go_wp2
    go_ret
    exact Post.mk (Stp.refl _ _ _) (OwnB.nil _ _ _)
  | some a =>
    go_enter Try.func59, Try.ntmps59
    go_wp2_with (refine holdAt 7 ?_)
    apply Hold.mk
    have s1 : Stp [d] w o _ _ := (Stp.refl _ _ _).alloc (.cells #[] 5) d
    refine appB (l := []) _ _ rfl rfl (OwnB.new w o d #[] [] rfl 0 rfl (by omega) _ rfl) (hr.stp (s1.drop hd) (by simp)) rfl rfl (by simpa using hb) fun A' cap' w' o' h1 h2 _ _ => ?_
    have s2 := s1.trans h1
    simp only [List.nil_append, List.length_nil, Nat.zero_add] at h2
    go_wp2
    go_ret
    exact Post.mk ((s2.drop hd).repaint c') (Own.fresh h2 s2 hd c')

/-! ### The Writer -/
structure Wr (w : World) (o : Col) (c p : Nat) (l : List UInt8) (v : Value) : Prop where
  blk : w.heap[p]? = some (.cells #[v] 88 (0, 0))
  col : o p = c
  own : OwnB w o c v l
theorem Wr.stp {C : List Nat} {w w1 : World} {o o1 : Col} {c p : Nat} {l : List UInt8} {v : Value} (h : Wr w o c p l v) (hs : Stp C w o w1 o1) (hn : c ∉ C) : Wr w1 o1 c p l v :=
  ⟨hs.blk h.blk (by rw [h.col]; exact hn), (hs.colb h.blk).trans h.col, OwnB.stp h.own hs hn⟩
theorem Wr.cell {w : World} {o : Col} {c p : Nat} {l : List UInt8} {v : Value} (h : Wr w o c p l v) : w.cell? ⟨p, 0, none⟩ = some v := blk_cell h.blk 0
theorem Wr.free {w : World} {o : Col} {c p : Nat} {l : List UInt8} {v : Value} (h : Wr w o c p l v) : w.frozen? ⟨p, 0, none⟩ = false := blk_free h.blk 0
/-- The field is written, behind an append. -/
theorem Wr.put {w w1 : World} {o o1 : Col} {c p : Nat} {l m : List UInt8} {v v1 : Value} (h : Wr w o c p l v) (hs : Stp [c] w o w1 o1) (h1 : OwnB w1 o1 c v1 m) (hg : w.grownBy w1 v.ownBlock) :
    w1.cell? ⟨p, 0, none⟩ = some v ∧ w1.frozen? ⟨p, 0, none⟩ = false ∧ Wr (w1.setCell ⟨p, 0, none⟩ v1) o1 c p m v1 ∧ Stp [c] w o (w1.setCell ⟨p, 0, none⟩ v1) o1 := by
  have hne := Own.ne h.own h.blk (by decide)
  have hb : w1.heap[p]? = some (.cells #[v] 88 (0, 0)) := (hg.block p (Array.getElem?_eq_some_iff.1 h.blk).1 (Ne.symm hne)).trans h.blk
  have hc : o1 p = c := (hs.colb h.blk).trans h.col
  exact ⟨blk_cell hb 0, blk_free hb 0, ⟨one_set hb _, hc, Own.set h1 (Own.ne h1 hb (by decide)) _⟩, hs.setCell (fun _ => by simp [hc]) _⟩

set_option maxHeartbeats 400000 in
theorem wraw_calls (c c2 p : Nat) (v v2 : Value) (l m : List UInt8) (w : World) (o : Col) (h : Wr w o c p l v) (hr : RdB w o c2 v2 m) (hb : l.length + m.length ≤ 140737488355328) :
    Calls Try.prog 55 #[.pointer (some ⟨p, 0, none⟩), v2] w (Post [c] w o fun r w' o' => r = .tuple #[] ∧ ∃ v', Wr w' o' c p (l ++ m) v') := by
  have hc := h.cell
  go_enter Try.func55, Try.ntmps55
  go_wp2_with (refine holdAt 12 ?_)
  apply Hold.mk
  refine appB _ _ rfl rfl h.own hr rfl rfl hb fun A' cap' w' o' h1 h2 _ h5 => ?_
  obtain ⟨k1, k2, k3, k4⟩ := h.put h1 h2 h5
  go_wp2
  go_end0
  exact Post.mk k4 ⟨rfl, _, k3⟩

/-- The Writer's state, of the world and its colours. -/
def WrS (w0 : World) (o0 : Col) (c p : Nat) (l : List UInt8) (wr : World) : Prop := ∃ (o' : Col) (v' : Value), Stp [c] w0 o0 wr o' ∧ Wr wr o' c p l v'
def WnIn (w0 : World) (o0 : Col) (c p : Nat) (l : List UInt8) (x : Value) (wr : World) : Prop := ∃ (u : Nat) (acc : List UInt8), x = .int .u64 u ∧ u ≤ 4611686018427387904 ∧ acc ++ enc u = l ∧ WrS w0 o0 c p acc wr
def WnOut (w0 : World) (o0 : Col) (c p : Nat) (l : List UInt8) (ns : List Int) (x : Value) (wr : World) : Prop := ∃ (k : Nat), x = .int .i64 k ∧ k ≤ ns.length ∧ WrS w0 o0 c p (l ++ encs (ns.take k)) wr

set_option maxHeartbeats 1000000 in
set_option maxRecDepth 100000 in
theorem wnums_calls (c c2 p : Nat) (v2 v : Value) (l : List UInt8) (ns : List Int) (w : World) (o : Col) (h : Wr w o c p l v) (hr : Rd w o c2 1 v2 ns.length (ns.map (.int .i64))) (hcc : c2 ≠ c) (hb : l.length + 9 * ns.length ≤ 140737488355328) :
    Calls Try.prog 51 #[.pointer (some ⟨p, 0, none⟩), v2] w (Post [c] w o fun r w' o' => r = .tuple #[] ∧ ∃ v', Wr w' o' c p (l ++ encs ns) v') := by
  obtain ⟨A, cap, rfl, hnc, hA, _⟩ := hr.is
  go_enter Try.func51, Try.ntmps51
  go_wp2_with fail
  go_loopw [11] (WnOut w o c p l ns) (fun i _ => ns.length - (intOf i).toNat)
  case atStart => exact ⟨0, rfl, Nat.zero_le _, o, v, Stp.refl _ _ _, by simpa [encs] using h⟩
  case round =>
    obtain ⟨k, rfl, hk, o1, v1, hs, hw⟩ := hrel
    by_cases hlt : k < ns.length
    · obtain ⟨a, rfl, hcell⟩ := (hr.stp hs (by simpa using hcc)).get hlt
      obtain ⟨x, hx⟩ : ∃ x, ns[k] = x := ⟨_, rfl⟩
      rw [hx] at hcell
      have Hx := Lib.hid hx
      clear hx
      go_wp2_with fail
      all_goals
        go_loopw [6] (WnIn w o c p (l ++ encs (ns.take k) ++ enc (clamp x))) (fun i _ => (intOf i).toNat)
        case atStart => exact ⟨clamp x, l ++ encs (ns.take k), by congr 1; unfold clamp; split at * <;> omega, clamp_le x, rfl, o1, v1, hs, hw⟩
        case round =>
          obtain ⟨u, acc, rfl, hu, he, o2, v2, hs2, hw2⟩ := hrel
          have hbd : acc.length + 1 ≤ 140737488355328 := by
            have h1 := congrArg List.length he
            have h2 := encs_len (ns.take k)
            have h3 := enc_len9 x
            have h4 := enc_pos u
            simp only [List.length_append, List.length_take] at h1 h2
            omega
          have He := Lib.hid he
          have Hu := Lib.hid hu
          have Hbd := Lib.hid hbd
          clear he hu hbd
          have hc2 := hw2.cell
          by_cases hu2 : 128 ≤ u
          · have hbit := or128 u
            have s1 := (Stp.refl [c] wr o2).alloc (.cells #[.int .u8 (bits BinOp.or IntKind.u8 ((u : Int) % 256) 128)] 5) c
            have hr1 := RdB.new wr o2 c #[.int .u8 (bits BinOp.or IntKind.u8 ((u : Int) % 256) 128)] [UInt8.ofNat (u % 128 + 128)] (by simp [vbs, hbit]) 1 rfl (by omega) 5 _ rfl
            have hw3 := hw2.stp (((Stp.refl [] wr o2).alloc (.cells #[.int .u8 (bits BinOp.or IntKind.u8 ((u : Int) % 256) 128)] 5) c)) (by simp)
            clear hbit
            go_wp2_with (refine holdAt 32 ?_)
            apply Hold.mk
            refine appB _ _ rfl rfl hw3.own hr1 rfl rfl Hbd.out fun A' cap' w' o' h1 h2 _ h5 => ?_
            obtain ⟨k1, k2, k3, k4⟩ := hw3.put h1 h2 h5
            clear h1 h2 h5 hc2
            go_wp2
            go_roundw
            case rel => exact ⟨u / 128, acc ++ [UInt8.ofNat (u % 128 + 128)], by go_num, by have := Hu.out; omega, by rw [List.append_assoc, List.singleton_append, ← enc_big hu2]; exact He.out, _, _, hs2.trans (s1.trans k4), k3⟩
            case measure => simp [intOf]; omega
          · have he8 := enc_small (show u < 128 by omega)
            have hbit := ofNat8 (show u < 256 by omega)
            have s1 := (Stp.refl [c] wr o2).alloc (.cells #[.int .u8 (u : Int)] 5) c
            have hr1 := RdB.new wr o2 c #[.int .u8 (u : Int)] [UInt8.ofNat u] (by simp only [vbs, List.map_cons, List.map_nil]; rw [← hbit]) 1 rfl (by omega) 5 _ rfl
            have hw3 := hw2.stp (((Stp.refl [] wr o2).alloc (.cells #[.int .u8 (u : Int)] 5) c)) (by simp)
            have He8 := Lib.hid he8
            clear hbit he8
            go_wp2_with (refine holdAt 43 ?_)
            apply Hold.mk
            refine appB _ _ rfl rfl hw3.own hr1 rfl rfl Hbd.out fun A' cap' w' o' h1 h2 _ h5 => ?_
            obtain ⟨k1, k2, k3, k4⟩ := hw3.put h1 h2 h5
            clear h1 h2 h5 hc2
            go_wp2
            go_roundw
            case rel =>
              have e1 : ns.take (k + 1) = ns.take k ++ [x] := by rw [List.take_succ_eq_append_getElem hlt, Hx.out]
              have e2 : l ++ encs (ns.take (k + 1)) = acc ++ [UInt8.ofNat u] := by rw [e1, encs_snoc, ← List.append_assoc, ← He.out, He8.out]
              rw [← e2] at k3
              exact ⟨k + 1, by go_num, hlt, _, _, hs2.trans (s1.trans k4), k3⟩
            case measure => simp [intOf]; omega
    · have hk' : k = ns.length := by omega
      subst hk'
      rw [List.take_length] at hw
      go_wp2
      go_end0
      exact Post.mk hs ⟨rfl, _, hw⟩
set_option maxHeartbeats 400000 in
theorem wout_calls (c c' p : Nat) (v : Value) (l : List UInt8) (w : World) (o : Col) (h : Wr w o c p l v) (hb : l.length ≤ 140737488355328) :
    Calls Try.prog 54 #[.pointer (some ⟨p, 0, none⟩)] w (Post [] w o fun v' w' o' => OwnB w' o' c' v' l) := by
  have hc := h.cell
  go_enter Try.func54, Try.ntmps54
  go_wp2_with fail
  refine (clone_calls c c' v l w o h.own.rd hb).mono ?_
  rintro e w1 ⟨r, o1, rfl, s1, h1⟩
  go_wp2
  go_ret
  exact Post.mk s1 h1

/-- Rows of bytes, as a slice's elements. -/
def RdRows (w : World) (o : Col) (c d : Nat) (v : Value) (ls : List (List UInt8)) : Prop := ∃ vs : List Value, vs.length = ls.length ∧ Rd w o c 1 v ls.length vs ∧ ∀ j (h : j < ls.length) u, vs[j]? = some u → RdB w o d u ls[j]
theorem RdRows.stp {C : List Nat} {w w1 : World} {o o1 : Col} {c d : Nat} {v : Value} {ls : List (List UInt8)} (h : RdRows w o c d v ls) (hs : Stp C w o w1 o1) (hn : c ∉ C) (hd : d ∉ C) : RdRows w1 o1 c d v ls := by
  obtain ⟨vs, h1, h2, h3⟩ := h
  exact ⟨vs, h1, h2.stp hs hn, fun j hj u hu => (h3 j hj u hu).stp hs hd⟩
theorem RdRows.shape {w : World} {o : Col} {c d : Nat} {v : Value} {ls : List (List UInt8)} (h : RdRows w o c d v ls) : ∃ A cap, v = .slice A ls.length cap ∧ ls.length ≤ cap ∧ (A = none → cap = 0) := by
  obtain ⟨_, _, h2, _⟩ := h
  obtain ⟨A, cap, e, h1, h2, _⟩ := h2.is
  exact ⟨A, cap, e, h1, h2⟩
theorem RdRows.get {w : World} {o : Col} {c d n cap : Nat} {A : Option Addr} {ls : List (List UInt8)} (h : RdRows w o c d (.slice A n cap) ls) {j : Nat} (hj : j < ls.length) : ∃ a u r, A = some a ∧ w.cell? (a.add j) = some u ∧ RdB w o d u r ∧ Hid (ls[j] = r) := by
  obtain ⟨vs, h1, ⟨_, _, _, A', cap', e, _, _, hc⟩, h3⟩ := h
  injection e with e1 e2 e3
  subst e1
  obtain ⟨a, rfl, _, _, hc⟩ := hc (by omega)
  have hu : vs[j]? = some vs[j] := by simp [h1, hj]
  exact ⟨a, vs[j], ls[j], rfl, hc j _ hu, h3 j hj _ hu, Lib.hid rfl⟩

theorem RdRows.new (w : World) (o : Col) (c d : Nat) (cs : Array Value) (ls : List (List UInt8)) (n : Nat) (hn : ls.length = n) (h : cs.toList.length = ls.length) (hb : n ≤ 9223372036854775807) (h1 : ∀ u ∈ cs.toList, u.oneCell' = true) (e k : Nat) (hk : w.heap.size = k)
    (hr : ∀ j (h : j < ls.length) u, cs.toList[j]? = some u → RdB (w.alloc (.cells cs e)) (paint o w.heap.size c) d u ls[j]) : RdRows (w.alloc (.cells cs e)) (paint o w.heap.size c) c d (.slice (some ⟨k, 0, none⟩) n n) ls := by
  subst hn
  exact ⟨cs.toList, h, Rd.new w o c cs _ rfl _ h hb h1 e k hk, hr⟩
theorem RdRows.new1 (w : World) (o : Col) (c d : Nat) (v : Value) (l : List UInt8) (e k : Nat) (hk : w.heap.size = k) (hr : RdB w o d v l) : RdRows (w.alloc (.cells #[v] e)) (paint o w.heap.size c) c d (.slice (some ⟨k, 0, none⟩) 1 1) [l] := by
  obtain ⟨A, cap, rfl, _⟩ := hr.shape
  refine RdRows.new w o c d #[.slice A l.length cap] [l] 1 rfl rfl (by omega) (by simp [Value.oneCell']) e k hk ?_
  intro j hj u hu
  have : j = 0 := by simpa using hj
  subst this
  injection hu with hu
  subst hu
  exact hr.stp ((Stp.refl [] w o).alloc _ c) (by simp)
theorem RdRows.new2 (w : World) (o : Col) (c d : Nat) (v v2 : Value) (l l2 : List UInt8) (e k : Nat) (hk : w.heap.size = k) (hr : RdB w o d v l) (hr2 : RdB w o d v2 l2) : RdRows (w.alloc (.cells #[v, v2] e)) (paint o w.heap.size c) c d (.slice (some ⟨k, 0, none⟩) 2 2) [l, l2] := by
  obtain ⟨A, cap, rfl, _⟩ := hr.shape
  obtain ⟨A2, cap2, rfl, _⟩ := hr2.shape
  refine RdRows.new w o c d #[.slice A l.length cap, .slice A2 l2.length cap2] [l, l2] 2 rfl rfl (by omega) (by simp [Value.oneCell']) e k hk ?_
  intro j hj u hu
  have hj2 : j = 0 ∨ j = 1 := by simp at hj; omega
  rcases hj2 with rfl | rfl
  · injection hu with hu
    subst hu
    exact hr.stp ((Stp.refl [] w o).alloc _ c) (by simp)
  · injection hu with hu
    subst hu
    exact hr2.stp ((Stp.refl [] w o).alloc _ c) (by simp)

/-- A row with its length, one behind the other. -/
def encRows (ls : List (List UInt8)) : List UInt8 := ls.flatMap fun l => enc (clamp l.length) ++ l
theorem encRows_snoc (ls : List (List UInt8)) (l : List UInt8) : encRows (ls ++ [l]) = encRows ls ++ (enc (clamp l.length) ++ l) := by simp [encRows]
theorem encs_one (x : Int) : encs [x] = enc (clamp x) := by simp [encs]
/-- How many bytes rows hold at most. -/
def wide (ls : List (List UInt8)) : Nat := (ls.map fun l => l.length + 9).sum
theorem wide_snoc (ls : List (List UInt8)) (l : List UInt8) : wide (ls ++ [l]) = wide ls + (l.length + 9) := by simp [wide]
theorem wide_take (ls : List (List UInt8)) (k : Nat) (h : k < ls.length) : wide (ls.take k) + ((ls[k]).length + 9) ≤ wide ls := by
  have e : ls = ls.take (k + 1) ++ ls.drop (k + 1) := (List.take_append_drop _ _).symm
  have h1 : wide ls = wide (ls.take (k + 1)) + wide (ls.drop (k + 1)) := by
    conv => lhs; rw [e]
    unfold wide
    rw [List.map_append, List.sum_append]
  rw [List.take_succ_eq_append_getElem h, wide_snoc] at h1
  omega
theorem wide_len (ls : List (List UInt8)) : ls.length ≤ wide ls := by
  induction ls with
  | nil => simp
  | cons l ls ih =>
    have e2 : wide (l :: ls) = (l.length + 9) + wide ls := by simp [wide]
    rw [e2, List.length_cons]
    omega
theorem encRows_le (ls : List (List UInt8)) : (encRows ls).length ≤ wide ls := by
  induction ls with
  | nil => simp [encRows, wide]
  | cons l ls ih =>
    have e1 : encRows (l :: ls) = enc (clamp l.length) ++ l ++ encRows ls := by simp [encRows]
    have e2 : wide (l :: ls) = (l.length + 9) + wide ls := by simp [wide]
    have := enc_len9 l.length
    rw [e1, e2]
    simp only [List.length_append]
    omega

def WbIn (w0 : World) (o0 : Col) (c p : Nat) (l : List UInt8) (ls : List (List UInt8)) (x : Value) (wr : World) : Prop := ∃ (k : Nat), x = .int .i64 k ∧ k ≤ ls.length ∧ WrS w0 o0 c p (l ++ encRows (ls.take k)) wr
set_option maxHeartbeats 400000 in
set_option maxRecDepth 100000 in
theorem wbytes_calls (c c2 d p : Nat) (v2 v : Value) (l : List UInt8) (ls : List (List UInt8)) (w : World) (o : Col) (h : Wr w o c p l v) (hr : RdRows w o c2 d v2 ls) (hcc : c2 ≠ c) (hd : d ≠ c) (hb : l.length + wide ls ≤ 140737488355328) :
    Calls Try.prog 52 #[.pointer (some ⟨p, 0, none⟩), v2] w (Post [c] w o fun r w' o' => r = .tuple #[] ∧ ∃ v', Wr w' o' c p (l ++ encRows ls) v') := by
  obtain ⟨A, cap, rfl, hnc, hA⟩ := hr.shape
  have hlen : ls.length ≤ 140737488355328 := by have := wide_len ls; omega
  go_enter Try.func52, Try.ntmps52
  go_wp2_with fail
  go_loopw [8] (WbIn w o c p l ls) (fun i _ => ls.length - (intOf i).toNat)
  case atStart => exact ⟨0, rfl, Nat.zero_le _, o, v, Stp.refl _ _ _, by simpa [encRows] using h⟩
  case round =>
    obtain ⟨k, rfl, hk, o1, v1, hs, hw⟩ := hrel
    by_cases hlt : k < ls.length
    · have hr1 := hr.stp hs (by simpa using hcc) (by simpa using hd)
      obtain ⟨a, u, lk, rfl, hcell, hu, Hlk⟩ := hr1.get hlt
      have hwd := wide_take ls k hlt
      have hen := encRows_le (ls.take k)
      have e1 : ls.take (k + 1) = ls.take k ++ [ls[k]] := List.take_succ_eq_append_getElem hlt
      rw [Hlk.out] at hwd e1
      have hb1 : (l ++ encRows (ls.take k)).length + 9 ≤ 140737488355328 := by rw [List.length_append]; omega
      have hb2 : (l ++ encRows (ls.take k) ++ encs [(lk.length : Int)]).length + lk.length ≤ 140737488355328 := by
        have := encs_len [(lk.length : Int)]
        simp only [List.length_append, List.length_cons, List.length_nil] at *
        omega
      obtain ⟨A1, cap1, rfl, hcap1, hA1⟩ := hu.shape
      have H1 := Lib.hid hb1
      have H2 := Lib.hid hb2
      have E1 := Lib.hid e1
      clear hb1 hb2 hwd hen hb e1
      go_wp2_with fail
      have s1 := (Stp.refl [] wr o1).alloc (.cells #[.int .i64 (lk.length : Int)] 3) (c + 1)
      refine (wnums_calls c (c + 1) p _ v1 _ [(lk.length : Int)] _ _ (hw.stp s1 (by simp)) (Rd.new wr o1 (c + 1) #[.int .i64 (lk.length : Int)] [.int .i64 (lk.length : Int)] rfl 1 rfl (by omega) (by simp [Value.oneCell']) 3 _ rfl) (by omega) (by have := H1.out; simpa using this)).mono ?_
      rintro e w2 ⟨r, o2, rfl, s2, rfl, v2', hw2⟩
      go_wp2_with fail
      refine (wraw_calls c d p _ _ _ lk _ _ hw2 ((hu.stp s1 (by simp)).stp s2 (by simpa using hd)) H2.out).mono ?_
      rintro e w3 ⟨r, o3, rfl, s3, rfl, v3, hw3⟩
      go_wp2
      go_roundw
      case rel =>
        have e2 : l ++ encRows (ls.take (k + 1)) = l ++ encRows (ls.take k) ++ encs [(lk.length : Int)] ++ lk := by rw [E1.out, encRows_snoc, encs_one]; simp
        rw [← e2] at hw3
        exact ⟨k + 1, by go_num, hlt, _, _, hs.trans (s1.none.trans (s2.trans s3)), hw3⟩
      case measure => simp [intOf]; omega
    · have hk' : k = ls.length := by omega
      subst hk'
      rw [List.take_length] at hw
      go_wp2
      go_end0
      exact Post.mk hs ⟨rfl, _, hw⟩

end Go.Proofs.Ytpjnmijfmfgdpaa
