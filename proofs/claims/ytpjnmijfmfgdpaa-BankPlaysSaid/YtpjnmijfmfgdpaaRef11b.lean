/- Pages: the document's flash: Read, Erase, Program. -/
import Derived.Test.YtpjnmijfmfgdpaaRef11
import Derived.Deep.RegionHeld3
namespace Go.Proofs.Ytpjnmijfmfgdpaa
set_option linter.unusedVariables false
set_option linter.unusedSimpArgs false
open Go.RowKit

/-- What the loop of the document's Erase, or Program, keeps: to: what the page shall be. -/
def XeR (w0 : World) (o0 : Col) (c e p : Nat) (vP : Value) (vs : List Value) (s : FS) (i : Nat) (q to : List UInt8) (n : Nat) (x : Value) (wr : World) : Prop :=
  ∃ (k : Nat) (o' : Col), x = .int .i64 k ∧ k ≤ n ∧ Stp [c] w0 o0 wr o' ∧ XFl wr o' c e p vP vs { s with pg := s.pg.set i (to.take k ++ q.drop k) }
theorem step_to {q to : List UInt8} {k : Nat} (hl : to.length = q.length) (hk : k < q.length) : (to.take k ++ q.drop k).set k (to[k]'(by omega)) = to.take (k + 1) ++ q.drop (k + 1) := by
  rw [List.set_append_right _ _ (by rw [List.length_take]; omega), List.length_take, show k - min k to.length = 0 from by omega, List.drop_eq_getElem_cons hk, List.set_cons_zero, List.take_succ_eq_append_getElem (by omega), List.append_assoc]
  rfl
theorem burn_bec (s : FS) (i : Nat) (q to : List UInt8) (hq : s.pg[i]? = some q) (hok : s.ok) (hto : to.length = 64) : ({ burnS s with pg := (burnS s).pg.set i (to.take (burnN s) ++ q.drop (burnN s)) } : FS) = bec s i to := by
  have hql := hok.1 q (List.mem_of_getElem? hq)
  by_cases h0 : s.fuse = 0
  · rw [bec, burnS, burnN, if_pos h0, if_pos h0, if_pos h0, List.getD_eq_getElem?_getD, hq]
    rfl
  · rw [bec, burnS, burnN, if_neg h0, if_neg h0, if_neg h0, List.drop_eq_nil_of_le (by omega), List.append_nil, List.take_of_length_le (by omega)]
theorem burnN_le (s : FS) (h : s.ok) : burnN s ≤ 64 := by
  obtain ⟨_, _, _, _, k5, k6⟩ := h
  unfold burnN
  split <;> omega
theorem burnS_pg (s : FS) : (burnS s).pg = s.pg := by unfold burnS; split <;> rfl

theorem set_self {s : FS} {k : Nat} {q : List UInt8} (hq : s.pg[k]? = some q) : ({ burnS s with pg := (burnS s).pg.set k q } : FS) = burnS s := by
  have hk := (List.getElem?_eq_some_iff.1 hq).1
  have : (burnS s).pg.set k q = (burnS s).pg := by
    rw [burnS_pg]
    apply List.ext_getElem?
    intro j
    rw [List.getElem?_set]
    by_cases e : k = j
    · subst e; rw [if_pos rfl, if_pos hk, hq]
    · rw [if_neg e]
  rw [this]
/-- A round of the loops of Erase and Program. -/
theorem round_to {w : World} {o : Col} {c e p n cap k j : Nat} {A : Option Addr} {vs : List Value} {s : FS} {q to : List UInt8} (hx : XFl w o c e p (.slice A n cap) vs { burnS s with pg := (burnS s).pg.set k (to.take j ++ q.drop j) })
    (hk : k < s.pg.length) (hql : q.length = 64) (hto : to.length = 64) (hj : j < 64) :
    ∃ a g cap', A = some a ∧ w.cell? ⟨p, 0, none⟩ = some (.slice (some a) n cap) ∧ w.cell? (a.add k) = some (.slice (some ⟨g, 0, none⟩) 64 cap') ∧ o (a.add k).block = e ∧ o g = c ∧ w.cell? ⟨g, j, none⟩ = some (.int .u8 ((q[j]).toNat : Int)) ∧ w.frozen? ⟨g, j, none⟩ = false ∧ g ≠ p ∧ (a.add k).block ≠ g ∧
      ∀ b : UInt8, b = to[j] → XFl (w.setCell ⟨g, j, none⟩ (.int .u8 (b.toNat : Int))) o c e p (.slice A n cap) vs { burnS s with pg := (burnS s).pg.set k (to.take (j + 1) ++ q.drop (j + 1)) } ∧ Stp [c] w o (w.setCell ⟨g, j, none⟩ (.int .u8 (b.toNat : Int))) o := by
  have hl : (to.take j ++ q.drop j).length = 64 := by rw [List.length_append, List.length_take, List.length_drop]; omega
  have hkk : k < ((burnS s).pg.set k (to.take j ++ q.drop j)).length := by rw [List.length_set, burnS_pg]; exact hk
  obtain ⟨a, v, q', rfl, m1, m2, m3, m4, m5, m6⟩ := hx.slot hkk
  have hq' : q' = to.take j ++ q.drop j := by
    rw [List.getElem?_set, if_pos rfl, if_pos (by rw [burnS_pg]; exact hk)] at m3
    injection m3 with m3
    exact m3.symm
  subst hq'
  obtain ⟨g, n', cap', rfl, rfl, r1, r2, r3, r4, r5, r6⟩ := hx.store m2 m3 (j := j) (by omega)
  have hqj : (to.take j ++ q.drop j)[j]'(by omega) = q[j] := by
    rw [List.getElem_append_right (by rw [List.length_take]; omega), List.getElem_drop]
    congr 1
    rw [List.length_take]
    omega
  rw [hqj] at r4
  refine ⟨a, g, cap', rfl, hx.c0, by rw [m4, hl], m1, r1, r4, r5, r2, ?_, ?_⟩
  · intro e
    apply r3
    simp only [Value.ownBlock]
    rw [add_block] at e
    rw [e]
  · intro b hb
    obtain ⟨z1, z2⟩ := r6 b
    refine ⟨?_, z2⟩
    have := step_to (q := q) (to := to) (k := j) (by omega) (by omega)
    rw [← hb] at this
    rw [← this]
    have z1' := z1
    simp only [List.set_set] at z1'
    exact z1'

theorem and_tail {q b : List UInt8} (hb : b.length ≤ q.length) (n : Nat) (hn : n ≤ q.length) : (andPage q b).take (min n b.length) ++ q.drop (min n b.length) = (andPage q b).take n ++ q.drop n := by
  have l1 := andPage_len hb
  have l2 : ((andPage q b).take (min n b.length)).length = min n b.length := by rw [List.length_take]; omega
  have l3 : ((andPage q b).take n).length = n := by rw [List.length_take]; omega
  apply List.ext_getElem?
  intro j
  by_cases h1 : j < min n b.length
  · rw [List.getElem?_append_left (by omega), List.getElem?_append_left (by omega), List.getElem?_take, List.getElem?_take, if_pos h1, if_pos (by omega)]
  · rw [List.getElem?_append_right (by omega), l2, List.getElem?_drop, show min n b.length + (j - min n b.length) = j from by omega]
    by_cases h2 : j < n
    · rw [List.getElem?_append_left (by omega), List.getElem?_take, if_pos h2, andPage_get hb, dif_neg (by omega)]
    · rw [List.getElem?_append_right (by omega), l3, List.getElem?_drop, show n + (j - n) = j from by omega]
set_option maxHeartbeats 1000000 in
set_option maxRecDepth 100000 in
theorem xerase_calls (c e p : Nat) (vP : Value) (vs : List Value) (s : FS) (i : Int) (w : World) (o : Col) (h : XFl w o c e p vP vs s) (hce : c ≠ e) :
    Calls Try.prog 64 #[.pointer (some ⟨p, 0, none⟩), .int .i64 i] w (Post [c, e] w o fun r w' o' => r = .int .i64 (eraseE s i) ∧ XFl w' o' c e p vP vs (eraseS s i)) := by
  obtain ⟨A, cap, rfl⟩ := h.shape
  have h0 := h.c0
  have h3 := h.c3
  obtain ⟨dd, hdd⟩ : ∃ dd, s.dead = dd := ⟨_, rfl⟩
  rw [hdd] at h3
  cases dd with
  | true =>
    have hm : mayE s i 0 = 11 := by rw [mayE, hdd]; rfl
    go_enter Try.func64, Try.ntmps64
    go_wp2
    go_ret
    exact Post.mk (Stp.refl _ _ _) ⟨by rw [eraseE, hm]; rfl, by rw [eraseS, hm]; exact h⟩
  | false =>
    by_cases hi : i < 0
    · have hm : mayE s i 0 = 1 := by
        have hb : hasB s i = false := by simp [hasB]; omega
        rw [mayE, hdd, hb]; rfl
      go_enter Try.func64, Try.ntmps64
      go_wp2
      go_ret
      exact Post.mk (Stp.refl _ _ _) ⟨by rw [eraseE, hm]; rfl, by rw [eraseS, hm]; exact h⟩
    have hi0 : decide (i < 0) = false := decide_eq_false hi
    by_cases hi2 : (s.pg.length : Int) ≤ i
    · have hi3 : decide ((s.pg.length : Int) ≤ i) = true := decide_eq_true hi2
      have hm : mayE s i 0 = 1 := by
        have hb : hasB s i = false := by simp [hasB]; omega
        rw [mayE, hdd, hb]; rfl
      go_enter Try.func64, Try.ntmps64
      go_wp2
      go_ret
      exact Post.mk (Stp.refl _ _ _) ⟨by rw [eraseE, hm]; rfl, by rw [eraseS, hm]; exact h⟩
    have hi3 : decide ((s.pg.length : Int) ≤ i) = false := decide_eq_false hi2
    obtain ⟨k, rfl⟩ : ∃ k : Nat, i = k := ⟨i.toNat, by omega⟩
    have hk : k < s.pg.length := by omega
    have hm : mayE s k 0 = 0 := by
      have hb : hasB s k = true := by simp [hasB]; omega
      rw [mayE, hdd, hb]; simp
    obtain ⟨q, hq⟩ : ∃ q, s.pg[k]? = some q := ⟨s.pg[k], by simp [hk]⟩
    have hql := h.ok.1 q (List.mem_of_getElem? hq)
    have hn64 := burnN_le s h.ok
    have hk1 : (0 : Int) ≤ (k : Int) ∧ (k : Int) < (s.pg.length : Int) := by omega
    obtain ⟨B, hB, hBl⟩ : ∃ B, blankPage = B ∧ B.length = 64 := ⟨_, rfl, blank_len⟩
    have hB255 : ∀ j (hj : j < 64), B[j]'(by omega) = 255 := by subst hB; exact fun j hj => blank_at _
    go_enter Try.func64, Try.ntmps64
    go_wp2_with fail
    refine (burn_calls c e p _ vs s w o h).mono ?_
    rintro e' w1 ⟨r, o1, rfl, s1, rfl, x1⟩
    obtain ⟨n, hn⟩ : ∃ n, burnN s = n := ⟨_, rfl⟩
    obtain ⟨E, hE⟩ : ∃ E, becE s = E := ⟨_, rfl⟩
    rw [hn] at hn64 ⊢
    rw [hE]
    go_wp2_with fail
    go_loopw [7] (XeR w1 o1 c e p (.slice A s.pg.length cap) vs (burnS s) k q B n) (fun x _ => n - (intOf x).toNat)
    case atStart =>
      refine ⟨0, o1, rfl, Nat.zero_le _, Stp.refl _ _ _, ?_⟩
      rw [List.take_zero, List.drop_zero, List.nil_append, set_self hq]
      exact x1
    case round =>
      obtain ⟨j, o2, rfl, hj, hs, hx⟩ := hrel
      by_cases hlt : j < n
      · obtain ⟨a, g, cap', rfl, m0, m1, m2, m3, m4, m5, m6, m7, m8⟩ := round_to hx hk hql hBl (show j < 64 by omega)
        obtain ⟨y1, y2⟩ := m8 255 (hB255 j (by omega)).symm
        have y1 := Lib.hid y1
        have y2 := Lib.hid (hs.trans y2)
        have hj1 : (0 : Int) ≤ (j : Int) ∧ (j : Int) < 64 := by omega
        clear hx hs m8
        go_wp2
        go_roundw
        case rel => exact ⟨j + 1, o2, by go_num, by omega, y2.out, y1.out⟩
        case measure => simp [intOf]; omega
      · have hjn : j = n := by omega
        have st := Lib.hid ((s1.mono (D := [c, e]) (by simp)).trans (hs.mono (by simp)))
        rw [hjn, ← hn, burn_bec s k q B hq h.ok hBl] at hx
        have hx := Lib.hid hx
        clear hs s1 x1
        go_wp2
        go_ret
        exact Post.mk st.out ⟨by rw [eraseE, if_pos hm, hE]; rfl, by rw [eraseS, if_pos hm, Int.toNat_natCast, hB]; exact hx.out⟩

set_option maxHeartbeats 1000000 in
set_option maxRecDepth 100000 in
theorem xprog_calls (c e p : Nat) (vP : Value) (vs : List Value) (s : FS) (i : Int) (c2 : Nat) (vb : Value) (b : List UInt8) (w : World) (o : Col) (h : XFl w o c e p vP vs s) (hrb : RdB w o c2 vb b) (h2c : c2 ≠ c) (h2e : c2 ≠ e) :
    Calls Try.prog 25 #[.pointer (some ⟨p, 0, none⟩), .int .i64 i, vb] w (Post [c, e] w o fun r w' o' => r = .int .i64 (progE s i b) ∧ XFl w' o' c e p vP vs (progS s i b)) := by
  obtain ⟨A, cap, rfl⟩ := h.shape
  obtain ⟨A2, cap2, rfl, hlc2, hA2⟩ := hrb.shape
  have h0 := h.c0
  have h3 := h.c3
  obtain ⟨dd, hdd⟩ : ∃ dd, s.dead = dd := ⟨_, rfl⟩
  rw [hdd] at h3
  cases dd with
  | true =>
    have hm : mayE s i b.length = 11 := by rw [mayE, hdd]; rfl
    go_enter Try.func25, Try.ntmps25
    go_wp2
    go_ret
    exact Post.mk (Stp.refl _ _ _) ⟨by rw [progE, hm]; rfl, by rw [progS, hm]; exact h⟩
  | false =>
    by_cases hi : i < 0
    · have hm : mayE s i b.length = 1 := by
        have hb : hasB s i = false := by simp [hasB]; omega
        rw [mayE, hdd, hb]; simp
      go_enter Try.func25, Try.ntmps25
      go_wp2
      go_ret
      exact Post.mk (Stp.refl _ _ _) ⟨by rw [progE, hm]; rfl, by rw [progS, hm]; exact h⟩
    have hi0 : decide (i < 0) = false := decide_eq_false hi
    by_cases hi2 : (s.pg.length : Int) ≤ i
    · have hi3 : decide ((s.pg.length : Int) ≤ i) = true := decide_eq_true hi2
      have hm : mayE s i b.length = 1 := by
        have hb : hasB s i = false := by simp [hasB]; omega
        rw [mayE, hdd, hb]; simp
      go_enter Try.func25, Try.ntmps25
      go_wp2
      go_ret
      exact Post.mk (Stp.refl _ _ _) ⟨by rw [progE, hm]; rfl, by rw [progS, hm]; exact h⟩
    have hi3 : decide ((s.pg.length : Int) ≤ i) = false := decide_eq_false hi2
    obtain ⟨k, rfl⟩ : ∃ k : Nat, i = k := ⟨i.toNat, by omega⟩
    have hk : k < s.pg.length := by omega
    have hb : hasB s k = true := by simp [hasB]; omega
    by_cases hbl : 64 < b.length
    · have hbl' : decide ((64 : Int) < (b.length : Int)) = true := decide_eq_true (by omega)
      have hm : mayE s k b.length = 1 := by
        rw [mayE, hdd, hb]; simp [hbl]
      go_enter Try.func25, Try.ntmps25
      go_wp2
      go_ret
      exact Post.mk (Stp.refl _ _ _) ⟨by rw [progE, hm]; rfl, by rw [progS, hm]; exact h⟩
    have hbl' : decide ((64 : Int) < (b.length : Int)) = false := decide_eq_false (by omega)
    have hm : mayE s k b.length = 0 := by
      rw [mayE, hdd, hb]; simp [hbl]
    obtain ⟨q, hq⟩ : ∃ q, s.pg[k]? = some q := ⟨s.pg[k], by simp [hk]⟩
    have hql := h.ok.1 q (List.mem_of_getElem? hq)
    have hn64 := burnN_le s h.ok
    have hk1 : (0 : Int) ≤ (k : Int) ∧ (k : Int) < (s.pg.length : Int) := by omega
    obtain ⟨B, hB⟩ : ∃ B, andPage q b = B := ⟨_, rfl⟩
    have hBl : B.length = 64 := by rw [← hB, andPage_len (by omega)]; exact hql
    have hBand : ∀ j (hj : j < b.length), B[j]'(by omega) = (q[j]'(by omega)) &&& b[j] := fun j hj => by
      have := andPage_get (q := q) (b := b) (by omega) j
      rw [dif_pos hj, hB] at this
      exact (List.getElem?_eq_some_iff.1 this).2
    go_enter Try.func25, Try.ntmps25
    go_wp2_with fail
    refine (burn_calls c e p _ vs s w o h).mono ?_
    rintro e' w1 ⟨r, o1, rfl, s1, rfl, x1⟩
    obtain ⟨n, hn⟩ : ∃ n, burnN s = n := ⟨_, rfl⟩
    obtain ⟨E, hE⟩ : ∃ E, becE s = E := ⟨_, rfl⟩
    rw [hn] at hn64 ⊢
    rw [hE]
    go_wp2_with fail
    go_loopw [9] (XeR w1 o1 c e p (.slice A s.pg.length cap) vs (burnS s) k q B (min n b.length)) (fun x _ => n - (intOf x).toNat)
    case atStart =>
      refine ⟨0, o1, rfl, Nat.zero_le _, Stp.refl _ _ _, ?_⟩
      rw [List.take_zero, List.drop_zero, List.nil_append, set_self hq]
      exact x1
    case round =>
      obtain ⟨j, o2, rfl, hj, hs, hx⟩ := hrel
      by_cases hlt : j < min n b.length
      · obtain ⟨a, g, cap', rfl, m0, m1, m2, m3, m4, m5, m6, m7, m8⟩ := round_to hx hk hql hBl (show j < 64 by omega)
        obtain ⟨y1, y2⟩ := m8 _ rfl
        have hjb : j < b.length := by omega
        rw [hBand j hjb] at y1 y2
        have hrb2 := hrb.stp ((s1.mono (D := [c, e]) (by simp)).trans (hs.mono (by simp))) (by simp [h2c, h2e])
        obtain ⟨ab, rfl, cb⟩ := (hrb.stp ((s1.mono (D := [c, e]) (by simp)).trans (hs.mono (by simp))) (by simp [h2c, h2e])).at_ hjb
        obtain ⟨x, hx'⟩ : ∃ x, q[j]'(by omega) = x := ⟨_, rfl⟩
        obtain ⟨z, hz'⟩ : ∃ z, b[j] = z := ⟨_, rfl⟩
        rw [hx'] at m4 y1 y2
        rw [hz'] at cb y1 y2
        have hand := and8 x z
        rw [UInt8.toNat_and] at hand y1 y2
        obtain ⟨V, hV⟩ : ∃ V : Value, V = .int .u8 ((x.toNat &&& z.toNat : Nat) : Int) := ⟨_, rfl⟩
        rw [← hV] at y1 y2
        have y1 := Lib.hid (y1.stp (Stp.refl [] _ o2).drew (by simp) (by simp))
        have y2 := Lib.hid ((hs.trans y2).drew)
        have hbg : (ab.add j).block ≠ g := by
          obtain ⟨_, _, _, A3, c3, e1, _, _, hc3⟩ := hrb2
          injection e1 with e1 _ _
          subst e1
          obtain ⟨a3, e2, ho3, _⟩ := hc3 (by omega)
          injection e2 with e2
          subst e2
          rw [add_block]
          intro eg
          rw [eg, m3] at ho3
          exact h2c ho3.symm
        have hj1 : (0 : Int) ≤ (j : Int) ∧ (j : Int) < 64 := by omega
        have hjn : (j : Int) < (n : Int) := by omega
        have hjb' : (j : Int) < (b.length : Int) := by omega
        clear hx hs m8 hx' hz'
        have k0 : wr.drew.cell? ⟨p, 0, none⟩ = some (.slice (some a) s.pg.length cap) := m0
        have k1 : wr.drew.cell? (a.add k) = some (.slice (some ⟨g, 0, none⟩) 64 cap') := m1
        have cbd : wr.drew.cell? (ab.add j) = some (.int .u8 (z.toNat : Int)) := cb
        have z0 : ((wr.setCell ⟨g, j, none⟩ V).drew).cell? ⟨p, 0, none⟩ = some (.slice (some a) s.pg.length cap) := (World.cell?_setCell_other wr ⟨g, j, none⟩ ⟨p, 0, none⟩ V (by simp [m6])).trans m0
        have z1 : ((wr.setCell ⟨g, j, none⟩ V).drew).cell? (a.add k) = some (.slice (some ⟨g, 0, none⟩) 64 cap') := (World.cell?_setCell_other wr ⟨g, j, none⟩ (a.add k) V (fun e => m7 (by rw [← e]))).trans m1
        have z2 : ((wr.setCell ⟨g, j, none⟩ V).drew).cell? (ab.add j) = some (.int .u8 (z.toNat : Int)) := (World.cell?_setCell_other wr ⟨g, j, none⟩ (ab.add j) V (fun e => hbg (by rw [← e]))).trans cb
        subst hV
        go_wp2_with fail
        go_region
        go_wp2_with fail
        go_roundw
        case rel => exact ⟨j + 1, o2, by go_num, by omega, y2.out, y1.out⟩
        case measure => simp [intOf]; omega
      · have hjn : j = min n b.length := by omega
        have st := Lib.hid ((s1.mono (D := [c, e]) (by simp)).trans (hs.mono (by simp)))
        rw [hjn, ← hB, and_tail (by omega) n (by omega), hB, ← hn, burn_bec s k q B hq h.ok hBl] at hx
        have hx := Lib.hid hx
        have fin : Post [c, e] w o (fun r w' o' => r = .int .i64 (progE s k b) ∧ XFl w' o' c e p (.slice A s.pg.length cap) vs (progS s k b)) (.returned (.int .i64 E)) wr := Post.mk st.out ⟨by rw [progE, if_pos hm, hE], by rw [progS, if_pos hm, Int.toNat_natCast, List.getD_eq_getElem?_getD, hq, Option.getD_some, hB]; exact hx.out⟩
        clear hs s1 x1 hn
        by_cases hjl : j < n
        · have hjl1 : (j : Int) < (n : Int) := by omega
          have hjl2 : ¬ (j : Int) < (b.length : Int) := by omega
          go_wp2
          go_ret
          exact fin
        · have hjl1 : ¬ (j : Int) < (n : Int) := by omega
          go_wp2
          go_ret
          exact fin


end Go.Proofs.Ytpjnmijfmfgdpaa
