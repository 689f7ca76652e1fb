/- The document's Join (ref15): more. Printed by wip/xjdgen.py. -/
import Derived.Test.YtcbecidcfbhkfaaXJc
namespace Go.Proofs.Ytcbecidcfbhkfaa
set_option linter.unusedVariables false
set_option linter.unusedSimpArgs false
open Go.RowKit

theorem and15j (n : Nat) : bits .and .i64 (n : Int) 15 = ((n % 16 : Nat) : Int) := by
  rw [show ((n % 16 : Nat) : Int) = (n : Int) % 16 by omega]
  have hm : (BitVec.ofInt 64 15).toNat = 2 ^ 4 - 1 := by decide
  have key : (BitVec.ofInt 64 (n : Int) &&& BitVec.ofInt 64 15).toNat = ((n : Int) % ((2 ^ 64 : Nat) : Int)).toNat % 2 ^ 4 := by
    rw [BitVec.toNat_and, BitVec.toNat_ofInt, hm, Nat.and_two_pow_sub_one_eq_mod]
  show IntKind.i64.wrap ((BitVec.ofInt 64 (n : Int) &&& BitVec.ofInt 64 15).toNat : Nat) = (n : Int) % 16
  rw [key, IntKind.wrap_i64]
  omega
/-- What 'more' lays: the runs of its two appends. -/
theorem moreRun {w : World} {o : Col} {mm capv dl cap : Nat} {av a : Addr} {em d : List UInt8} (hm : RdB w o 13 (.slice (some av) mm capv) em) (hml : em.length = mm) (hd : RdB w o 0 (.slice (some a) dl cap) d) (hdl : d.length = dl) (h1 : 1 ≤ dl) (hb1 : mm ≤ 1000000) (hb2 : dl ≤ 1000000) :
    ∃ A1 c1 w3 A2 c2 w4 o4, (Builtin.append_ #[22, 22] 22 #[.slice (some ⟨w.heap.size, 0, none⟩) 0 0, .slice (some av) mm capv]).run Try.prog (w.alloc (.cells #[] 5)).drew = .ok (.slice A1 mm c1) w3 ∧
      (Builtin.append_ #[22, 22] 22 #[.slice A1 mm c1, .slice (some (a.add 1)) (dl - 1) (cap - 1)]).run Try.prog w3 = .ok (.slice A2 (mm + (dl - 1)) c2) w4 ∧
      (∀ (ad : Addr) (v : Value), w.cell? ad = some v → (w.alloc (.cells #[] 5)).cell? ad = some v ∧ w3.cell? ad = some v ∧ w4.cell? ad = some v) ∧
      Stp [] w o w4 o4 ∧ RdB w4 o4 13 (.slice A2 (mm + (dl - 1)) c2) (em ++ d.tail) := by
  subst hml
  subst hdl
  obtain ⟨e, he, _, hed⟩ := fresh o w.heap.size [0, 13]
  simp only [List.mem_cons, List.not_mem_nil, or_false, not_or] at he
  have sa0 : Stp [] w o (w.alloc (.cells #[] 5)) (paint o w.heap.size e) := (Stp.refl [] w o).alloc _ e
  have sa : Stp [e] w o (w.alloc (.cells #[] 5)).drew (paint o w.heap.size e) := ((Stp.refl [e] w o).alloc _ e).drew
  have hn := (Own.newE w o e 5 1 w.heap.size rfl).drew
  have hma := hm.stp sa (by simp; omega)
  have hda := hd.stp sa (by simp; omega)
  obtain ⟨A1, c1, w3, o3, r1, s1, h3⟩ := appRun slB (ad := av) (cap := capv) (m := em.length) (news := vbs em) hn (by rw [vbs_length]; omega) (Rd.slice_cells hma) (vbs_one _) (by omega) (by simp only [maxLen]; omega) 22
  simp only [Nat.zero_add, List.nil_append] at r1 h3
  have hda3 := hda.stp s1 (by simp; omega)
  have hl : (vbs (d.drop 1)).length = (d.length - 1) * 1 := by rw [vbs_length, List.length_drop]; omega
  obtain ⟨A2, c2, w4, o4, r2, s2, h4⟩ := appRun slB (ad := a.add 1) (cap := cap - 1) (m := d.length - 1) (news := vbs (d.drop 1)) h3 hl (fun j u hu => by
    rw [add_add]
    refine Rd.slice_cells hda3 (1 + j) u ?_
    rw [show vbs (d.drop 1) = (vbs d).drop 1 by simp [vbs, List.map_drop], List.getElem?_drop] at hu
    exact hu) (vbs_one _) (by omega) (by simp only [maxLen]; omega) 22
  have st : Stp [e] w o w4 o4 := (sa.trans s1).trans s2
  have st3 : Stp [e] w o w3 o3 := sa.trans s1
  have hf := Own.fresh h4 st hed 13
  refine ⟨A1, c1, w3, A2, c2, w4, paint o w.heap.size 13, r1, r2, fun ad v hv => ⟨sa0.cell hv (by simp), ((st3.drop hed).cell hv (by simp)), ((st.drop hed).cell hv (by simp))⟩, (st.drop hed).repaint 13, ?_⟩
  have := Own.rd hf
  unfold RdB
  rw [List.length_append, List.length_tail, vbs_append, ← List.drop_one]
  exact this

theorem Stp.setNew {C : List Nat} {w w1 : World} {o o1 : Col} (h : Stp C w o w1 o1) {p : Addr} (hp : w.heap.size ≤ p.block) (u : Value) : Stp C w o (w1.setCell p u) o1 :=
  ⟨h.os, h.tape, h.output, by simpa [World.setCell] using h.size, h.col, fun k hk hn => (Below.heap_setCell _ _ _ _ (by omega)).trans (h.keep k hk hn)⟩
theorem Own.put1 {w : World} {o : Col} {c e sz n g cap : Nat} {vals : List Value} (h : Own w o c e sz (.slice (some ⟨g, 0, none⟩) n cap) n vals) {j : Nat} (hj : j < n * sz) (u : Value) (hu : u.oneCell' = true) : Own (w.setCell ⟨g, j, none⟩ u) o c e sz (.slice (some ⟨g, 0, none⟩) n cap) n (vals.set j u) ∧ Stp [c] w o (w.setCell ⟨g, j, none⟩ u) o := by
  refine ⟨⟨?_, ?_, h.col⟩, (Stp.refl [c] w o).setCell (fun _ => by rw [h.col g rfl]; simp) _⟩
  · rcases h.own.2 with ⟨hv, h0⟩ | ⟨g', cap', cur, hv, hb, hg, hnc, hcm, hcs, ht⟩
    · cases hv
    · injection hv with hA _ hc
      injection hA with hA
      injection hA with hA _ _
      subst hA
      subst hc
      refine ⟨by rw [List.length_set]; exact h.own.1, .inr ⟨g, cap, cur.setIfInBounds j u, rfl, hb, blk_set hg _, hnc, hcm, by simpa using hcs, ?_⟩⟩
      rw [Array.toList_setIfInBounds, ← ht, List.take_set]
  · intro y hy
    rcases List.mem_or_eq_of_mem_set hy with hy | hy
    · exact h.one y hy
    · subst hy; exact hu
theorem set_at (P : List Value) (i j : Nat) (hP : P.length = i) (l R : List Value) (hj : j < l.length) (u : Value) : (P ++ (l ++ R)).set (i + j) u = P ++ (l.set j u ++ R) := by
  subst hP
  rw [List.set_append_right _ _ (by omega), show P.length + j - P.length = j by omega, List.set_append_left _ _ hj]
/-- An element is written over. -/
theorem Xj.setAt {w : World} {o : Col} {q err g cap i : Nat} {L1 L2 : List XE} {x : XE} (h : Xj w o q (.slice (some ⟨g, 0, none⟩) (L1 ++ x :: L2).length cap) (L1 ++ x :: L2) err) (hi : L1.length = i) (x' : XE) (hr : RdB w o 13 x'.v x'.e.m) (u0 u1 u2 u3 u4 : Value) (hx : x'.cells = [u0, u1, u2, u3, u4]) :
    Xj (((((w.setCell ⟨g, i * 5, none⟩ u0).setCell ⟨g, i * 5 + 1, none⟩ u1).setCell ⟨g, i * 5 + 2, none⟩ u2).setCell ⟨g, i * 5 + 3, none⟩ u3).setCell ⟨g, i * 5 + 4, none⟩ u4) o q (.slice (some ⟨g, 0, none⟩) (L1 ++ x :: L2).length cap) (L1 ++ x' :: L2) err ∧
      Stp [12] w o (((((w.setCell ⟨g, i * 5, none⟩ u0).setCell ⟨g, i * 5 + 1, none⟩ u1).setCell ⟨g, i * 5 + 2, none⟩ u2).setCell ⟨g, i * 5 + 3, none⟩ u3).setCell ⟨g, i * 5 + 4, none⟩ u4) o := by
  have hone : ∀ u ∈ [u0, u1, u2, u3, u4], u.oneCell' = true := by
    rw [← hx]
    intro u hu
    simp only [XE.cells, List.mem_cons, List.not_mem_nil, or_false] at hu
    rcases hu with rfl | rfl | rfl | rfl | rfl
    · rfl
    · rfl
    · rfl
    · rfl
    · exact hr.one
  have hlen : (L1 ++ x :: L2).length = L1.length + (L2.length + 1) := by simp
  obtain ⟨n, hn⟩ : ∃ n, (L1 ++ x :: L2).length = n := ⟨_, rfl⟩
  have ho := h.own
  rw [hn] at ho hlen
  obtain ⟨p0, q0⟩ := ho.put1 (j := i * 5) (by omega) u0 (hone _ (by simp))
  obtain ⟨p1, q1⟩ := p0.put1 (j := i * 5 + 1) (by omega) u1 (hone _ (by simp))
  obtain ⟨p2, q2⟩ := p1.put1 (j := i * 5 + 2) (by omega) u2 (hone _ (by simp))
  obtain ⟨p3, q3⟩ := p2.put1 (j := i * 5 + 3) (by omega) u3 (hone _ (by simp))
  obtain ⟨p4, q4⟩ := p3.put1 (j := i * 5 + 4) (by omega) u4 (hone _ (by simp))
  have st := (((q0.trans q1).trans q2).trans q3).trans q4
  have hP : (cellsX L1).length = i * 5 := by rw [cellsX_len, hi]
  have ec : (((((cellsX (L1 ++ x :: L2)).set (i * 5) u0).set (i * 5 + 1) u1).set (i * 5 + 2) u2).set (i * 5 + 3) u3).set (i * 5 + 4) u4 = cellsX (L1 ++ x' :: L2) := by
    have e0 : ∀ l : List Value, l.length = 5 → ((((((cellsX L1 ++ (l ++ cellsX L2)).set (i * 5 + 0) u0).set (i * 5 + 1) u1).set (i * 5 + 2) u2).set (i * 5 + 3) u3).set (i * 5 + 4) u4) = cellsX L1 ++ ([u0, u1, u2, u3, u4] ++ cellsX L2) := by
      intro l hl
      match l, hl with
      | [a0, a1, a2, a3, a4], _ =>
        rw [set_at _ _ 0 hP _ _ (by simp), set_at _ _ 1 hP _ _ (by simp), set_at _ _ 2 hP _ _ (by simp), set_at _ _ 3 hP _ _ (by simp), set_at _ _ 4 hP _ _ (by simp)]
        rfl
    rw [cellsX_app, cellsX_cons, cellsX_app, cellsX_cons, hx]
    exact e0 x.cells rfl
  rw [ec] at p4
  refine ⟨⟨st.blk h.blk (by rw [h.col]; simp), h.col, ?_, fun y hy => ?_⟩, st⟩
  · rw [hn, show (L1 ++ x' :: L2).length = n by rw [← hn]; simp]
    exact p4
  · simp only [List.mem_append, List.mem_cons] at hy
    rcases hy with hy | hy | hy
    · exact (h.row y (by simp [hy])).stp st (by simp)
    · subst hy; exact hr.stp st (by simp)
    · exact (h.row y (by simp [hy])).stp st (by simp)

set_option maxHeartbeats 4000000 in
set_option maxRecDepth 100000 in
theorem xmore_calls (q : Nat) (s : JS) (id : Int) (vd : Value) (d : List UInt8) (now : Int) (w : World) (o : Col) (h : XJ w o q s) (hok : s.ok) (hcn : s.cnt ≤ 800000) (hb : s.err ≤ 800000) (hd : RdB w o 0 vd d) (h0 : 0 < d.length) (hl : d.length ≤ 1000000) :
    Calls Try.prog 28 #[.pointer (some ⟨q, 0, none⟩), .agg #[.int .i64 id, vd], .int .i64 now] w (Post [11, 12] w o fun r w' o' => ∃ v, r = .tuple #[v, .bool (goesJ s id d now).2.isSome] ∧ RdB w' o' 13 v ((goesJ s id d now).2.getD []) ∧ XJ w' o' q (goesJ s id d now).1) := by
  obtain ⟨A, cap, rfl, hlc, hA⟩ := hd.shape
  have s0 : Stp [] w o (w.alloc (.cells #[.int .i64 id, .slice A d.length cap] 37)) (paint o w.heap.size 14) := (Stp.refl [] w o).alloc _ 14
  have hB := heap_alloc_new w (.cells #[.int .i64 id, .slice A d.length cap] 37)
  have hO : paint o w.heap.size 14 w.heap.size = 14 := paint_at _ _ _
  replace h := h.stp s0 (by simp) (by simp) (by simp)
  replace hd := hd.stp s0 (by simp)
  obtain ⟨w1, hw1⟩ : ∃ w1, w.alloc (.cells #[.int .i64 id, .slice A d.length cap] 37) = w1 := ⟨_, rfl⟩
  obtain ⟨o1, ho1⟩ : ∃ o1, paint o w.heap.size 14 = o1 := ⟨_, rfl⟩
  obtain ⟨B, hBB⟩ : ∃ B, w.heap.size = B := ⟨_, rfl⟩
  rw [hw1, ho1] at s0 h hd
  rw [hw1, hBB] at hB
  rw [ho1, hBB] at hO
  have b0 : w1.cell? ⟨B, 0, none⟩ = some (.int .i64 id) := blk_cell hB 0
  have b1 : w1.cell? ⟨B, 1, none⟩ = some (.slice A d.length cap) := blk_cell hB 1
  obtain ⟨vL, L, hj, hr⟩ := (show XJ w1 o1 q s from h)
  have hlen : L.length = s.cnt := hr.2.1.symm
  have c1 := hj.c1
  have fr1 := hj.free 1
  replace hO := Lib.hid hO
  replace hB := Lib.hid hB
  replace ho1 := Lib.hid ho1
  cases hf : s.f id with
  | none =>
    rw [show goesJ s id d now = (s.bad, none) from by rw [goesJ, hf]]
    have hat := xat_none q vL L s.err id w1 o1 hj (by omega) (hr.absent hf)
    replace hj := Lib.hid hj
    replace hr := Lib.hid hr
    replace h := Lib.hid h
    replace hd := Lib.hid hd
    go_enter Try.func28, Try.ntmps28
    go_wp2_with fail
    refine hat.mono ?_
    rintro e w2 ⟨rfl, rfl⟩
    clear hat
    go_wp2
    refine bodyPost_ret (results_tmp2 rfl _ _ _) rfl ?_
    exact Post.mk (s0.none.trans (hj.out.bad.2.mono (by simp))) ⟨_, rfl, RdB.nil _ _ _, vL, L, hj.out.bad.1, hr.out⟩
  | some e =>
    have hek := hok id e hf
    obtain ⟨L1, x, L2, rfl, hxid, hxe, n1, n2⟩ := hr.there hf
    have hat := xat_some q vL L1 x L2 s.err w1 o1 hj (by omega) (by rw [hxid]; exact n1)
    rw [hxid] at hat
    obtain ⟨g, capL, rfl, hnc, hcm, hg, hcell⟩ := hj.at_ (by simp; omega)
    have hlen2 : (L1 ++ x :: L2).length = L1.length + (L2.length + 1) := by simp
    obtain ⟨n, hn⟩ : ∃ n, (L1 ++ x :: L2).length = n := ⟨_, rfl⟩
    obtain ⟨i, hi⟩ : ∃ i, L1.length = i := ⟨_, rfl⟩
    have hx0 : w1.cell? ⟨g, i * 5, none⟩ = some (.int .i64 id) := by
      rw [← hi]; exact hcell _ _ ((cellsX_at L1 x L2 0 (by omega)).trans (by rw [← hxid]; rfl))
    obtain ⟨em, eall, en, elast⟩ := e
    have hx1 : w1.cell? ⟨g, i * 5 + 1, none⟩ = some (.int .i64 eall) := by
      rw [← hi]; exact hcell _ _ ((cellsX_at L1 x L2 1 (by omega)).trans (by simp [XE.cells, hxe]))
    have hx2 : w1.cell? ⟨g, i * 5 + 2, none⟩ = some (.int .i64 en) := by
      rw [← hi]; exact hcell _ _ ((cellsX_at L1 x L2 2 (by omega)).trans (by simp [XE.cells, hxe]))
    have hx3 : w1.cell? ⟨g, i * 5 + 3, none⟩ = some (.int .i64 elast) := by
      rw [← hi]; exact hcell _ _ ((cellsX_at L1 x L2 3 (by omega)).trans (by simp [XE.cells, hxe]))
    have hrow := hj.row x (by simp)
    rw [hxe] at hrow
    obtain ⟨Av, capv, hV, hVc, hVA⟩ := hrow.shape
    have hx4 : w1.cell? ⟨g, i * 5 + 4, none⟩ = some (.slice Av em.length capv) := by
      rw [← hi]; exact hcell _ _ ((cellsX_at L1 x L2 4 (by omega)).trans (by simp [XE.cells]; exact hV))
    rw [hV] at hrow
    obtain ⟨u1, u2, u3, u4, u5, u6, u7⟩ := hek
    dsimp only at u1 u2 u3 u4 u5 u6 u7 hrow
    have c0 := hj.c0
    rw [hn] at c0 hnc hlen2
    rw [hi] at hat hlen2
    have z1 : decide ((i : Int) < 0) = false := decide_eq_false (by omega)
    have z2 : (0 : Int) ≤ (i : Int) ∧ (i : Int) < (n : Int) := by omega
    obtain ⟨a, rfl, hc0⟩ := hd.at_ h0
    rw [head_at h0, show a.add 0 = a from rfl] at hc0
    obtain ⟨mm, hmm⟩ : ∃ mm, em.length = mm := ⟨_, rfl⟩
    obtain ⟨av, rfl, _⟩ := hrow.at_ (j := 0) (by omega)
    rw [hmm] at u1 u2 u5 hx4 hrow hVc
    have hx := and15 (d.headD 0)
    obtain ⟨nn, hnn⟩ : ∃ nn, (d.headD 0).toNat % 16 = nn := ⟨_, rfl⟩
    have hn16 : nn < 16 := by omega
    rw [hnn] at hx
    have hlow : lowN d = nn := hnn
    obtain ⟨xb, hxb⟩ : ∃ xb, d.headD 0 = xb := ⟨_, rfl⟩
    rw [hxb] at hx hc0
    have hgo : goesJ s id d now = if nn ≠ en % 16 ∨ d.length ≠ 1 + min 7 (eall - mm) then (dropJ s id, none) else if mm + (d.length - 1) < eall then (s.set id ⟨em ++ d.tail, eall, en + 1, now⟩, none) else ((s.set id ⟨em ++ d.tail, eall, en + 1, now⟩).del id, some (em ++ d.tail)) := by
      rw [goesJ, hf]
      show (if lowN d ≠ en % 16 ∨ d.length ≠ 1 + min 7 (eall - em.length) then _ else if em.length + (d.length - 1) < eall then _ else _) = _
      rw [hlow, hmm]
      rfl
    obtain ⟨dl, hdl⟩ : ∃ dl, d.length = dl := ⟨_, rfl⟩
    have n16 : (0 : Int) ≤ (nn : Int) ∧ (nn : Int) < 16 := by omega
    have hwn : IntKind.i64.wrap (nn : Int) = (nn : Int) := by rw [IntKind.wrap_i64]; omega
    have hen := and15j en
    obtain ⟨e16, he16⟩ : ∃ e16, en % 16 = e16 := ⟨_, rfl⟩
    rw [he16] at hen
    have v1 : (0 : Int) ≤ (eall : Int) ∧ (eall : Int) ≤ 600 := by omega
    have v2 : (0 : Int) ≤ (mm : Int) ∧ (mm : Int) < (eall : Int) := by omega
    have v3 : (1 : Int) ≤ (en : Int) ∧ (en : Int) ≤ 600 := by omega
    rw [hgo, he16]
    rw [hdl] at h0 hl hlc b1 hd hw1 ⊢
    have v4 : (1 : Int) ≤ (dl : Int) ∧ (dl : Int) ≤ 1000000 := by omega
    -- the message's copy
    have sB : Stp [] w1 o1 (w1.alloc (.cells #[.int .i64 id, .int .i64 eall, .int .i64 en, .int .i64 elast, .slice (some av) mm capv] 69)) (paint o1 w1.heap.size 15) := (Stp.refl [] w1 o1).alloc _ 15
    have hjB := hj.stp sB (by simp) (by simp) (by simp)
    have hB2 := heap_alloc_new w1 (.cells #[.int .i64 id, .int .i64 eall, .int .i64 en, .int .i64 elast, .slice (some av) mm capv] 69)
    have hO2 : paint o1 w1.heap.size 15 w1.heap.size = 15 := paint_at _ _ _
    have hdB := hd.stp sB (by simp)
    have hrB := hrow.stp sB (by simp)
    have b0B := sB.cell b0 (by simp)
    have b1B := sB.cell b1 (by simp)
    have gB : ∀ (j : Nat) (u : Value), (cellsX (L1 ++ x :: L2))[j]? = some u → (w1.alloc (.cells #[.int .i64 id, .int .i64 eall, .int .i64 en, .int .i64 elast, .slice (some av) mm capv] 69)).cell? ⟨g, j, none⟩ = some u := fun j u hu => sB.cell (hcell j u hu) (by simp)
    have ogB : (paint o1 w1.heap.size 15) g = 12 := (sB.colc hx0).trans hg
    have oBB : (paint o1 w1.heap.size 15) B = 14 := (sB.colc b0).trans hO.out
    obtain ⟨wB, hwB⟩ : ∃ wB, w1.alloc (.cells #[.int .i64 id, .int .i64 eall, .int .i64 en, .int .i64 elast, .slice (some av) mm capv] 69) = wB := ⟨_, rfl⟩
    obtain ⟨oB, hoB⟩ : ∃ oB, paint o1 w1.heap.size 15 = oB := ⟨_, rfl⟩
    obtain ⟨B2, hBB2⟩ : ∃ B2, w1.heap.size = B2 := ⟨_, rfl⟩
    have hBn := Lib.hid (show w.heap.size ≤ B2 by rw [← hBB2]; exact s0.size)
    rw [hwB, hoB] at sB
    rw [hwB, hoB] at hjB hdB hrB
    rw [hwB, hBB2] at hB2
    rw [hoB, hBB2] at hO2
    rw [hwB] at b0B b1B gB
    rw [hoB] at ogB oBB
    have k0 : wB.cell? ⟨B2, 0, none⟩ = some (.int .i64 id) := blk_cell hB2 0
    have k1 : wB.cell? ⟨B2, 1, none⟩ = some (.int .i64 eall) := blk_cell hB2 1
    have k2 : wB.cell? ⟨B2, 2, none⟩ = some (.int .i64 en) := blk_cell hB2 2
    have k3 : wB.cell? ⟨B2, 3, none⟩ = some (.int .i64 elast) := blk_cell hB2 3
    have k4 : wB.cell? ⟨B2, 4, none⟩ = some (.slice (some av) mm capv) := blk_cell hB2 4
    have hcB : wB.cell? a = some (.int .u8 (xb.toNat : Int)) := sB.cell hc0 (by simp)
    have c0B := hjB.c0
    rw [hn] at c0B
    have sAll := s0.trans sB
    have hJq := Lib.hid (fun k => (⟨_, _, hjB.stp ((Stp.refl [] wB oB).drewN k) (by simp) (by simp) (by simp), hr⟩ : XJ (wB.drewN k) oB q s))
    replace hcell := Lib.hid hcell
    replace gB := Lib.hid gB
    replace sB := Lib.hid sB
    replace sAll := Lib.hid sAll
    replace hjB := Lib.hid hjB
    replace hB2 := Lib.hid hB2
    replace hO2 := Lib.hid hO2
    replace hdB := Lib.hid hdB
    replace hrB := Lib.hid hrB
    replace ogB := Lib.hid ogB
    replace oBB := Lib.hid oBB
    replace hj := Lib.hid hj
    replace hr := Lib.hid hr
    replace h := Lib.hid h
    replace hd := Lib.hid hd
    replace hrow := Lib.hid hrow
    replace hlen := Lib.hid hlen
    replace hlen2 := Lib.hid hlen2
    replace hn := Lib.hid hn
    replace hi := Lib.hid hi
    replace hxe := Lib.hid hxe
    replace hxid := Lib.hid hxid
    replace hV := Lib.hid hV
    replace hf := Lib.hid hf
    replace hmm := Lib.hid hmm
    replace hnn := Lib.hid hnn
    replace hlow := Lib.hid hlow
    replace hxb := Lib.hid hxb
    replace hdl := Lib.hid hdl
    replace hoB := Lib.hid hoB
    replace he16 := Lib.hid he16
    clear hgo hok
    by_cases hbad : nn ≠ e16 ∨ dl ≠ 1 + min 7 (eall - mm)
    · rw [if_pos hbad]
      have hcs : (((decide ((eall : Int) - (mm : Int) < 7) = true ∧ (eall : Int) - (mm : Int) < 7) ∧ (((nn : Int) != (e16 : Int)) = true ∨ ((nn : Int) != (e16 : Int)) = false ∧ ((dl : Int) != 1 + ((eall : Int) - (mm : Int))) = true)) ∨ ((decide ((eall : Int) - (mm : Int) < 7) = false ∧ (7 : Int) ≤ (eall : Int) - (mm : Int)) ∧ (((nn : Int) != (e16 : Int)) = true ∨ ((nn : Int) != (e16 : Int)) = false ∧ ((dl : Int) != 8) = true))) := by
        by_cases h7 : eall - mm < 7
        · refine .inl ⟨⟨decide_eq_true (by omega), by omega⟩, ?_⟩
          by_cases hq : nn = e16
          · exact .inr ⟨by simp; omega, by simp; omega⟩
          · exact .inl (by simp; omega)
        · refine .inr ⟨⟨decide_eq_false (by omega), by omega⟩, ?_⟩
          by_cases hq : nn = e16
          · exact .inr ⟨by simp; omega, by simp; omega⟩
          · exact .inl (by simp; omega)
      replace hbad := Lib.hid hbad
      rcases hcs with ⟨⟨m1, m4⟩, m2 | ⟨m2, m3⟩⟩ | ⟨⟨m1, m4⟩, m2 | ⟨m2, m3⟩⟩
      all_goals
        go_enter Try.func28, Try.ntmps28
        go_wp2_with fail
        refine hat.mono ?_
        rintro e w2 ⟨rfl, rfl⟩
        clear hat
        go_wp2_with fail
        go_quiet (fail)
        go_wp2_with fail
        refine (xdropJ_calls q s id _ _ (hJq.out nq) (by omega) (by omega)).mono ?_
        rintro e w3 ⟨r, o3, rfl, s3, rfl, h3⟩
        clear b0 b1 c1 fr1 hx0 hx1 hx2 hx3 hx4 c0 k0 k1 k2 k3 k4 b0B b1B hcB c0B
        go_wp2
        refine bodyPost_ret (results_tmp2 rfl _ _ _) rfl ?_
        exact Post.mk (((sAll.out.drewN nq).none.trans s3).mono (by simp)) ⟨_, rfl, RdB.nil _ _ _, h3⟩
    · rw [if_neg hbad]
      have hcs : ((nn : Int) != (e16 : Int)) = false ∧ (((decide ((eall : Int) - (mm : Int) < 7) = true ∧ (eall : Int) - (mm : Int) < 7) ∧ ((dl : Int) != 1 + ((eall : Int) - (mm : Int))) = false) ∨ ((decide ((eall : Int) - (mm : Int) < 7) = false ∧ (7 : Int) ≤ (eall : Int) - (mm : Int)) ∧ ((dl : Int) != 8) = false)) := by
        refine ⟨by simp; omega, ?_⟩
        by_cases h7 : eall - mm < 7
        · exact .inl ⟨⟨decide_eq_true (by omega), by omega⟩, by simp; omega⟩
        · exact .inr ⟨⟨decide_eq_false (by omega), by omega⟩, by simp; omega⟩
      have hd2 : 2 ≤ dl ∧ mm + (dl - 1) ≤ eall := by omega
      replace hbad := Lib.hid hbad
      have hcap1 : cap ≠ 1 := by omega
      obtain ⟨M, hM⟩ : ∃ M, mm + (dl - 1) = M := ⟨_, rfl⟩
      rw [hM] at hd2 ⊢
      have hM2 : (0 : Int) ≤ (M : Int) ∧ (M : Int) ≤ 600 := by omega
      have hMe : M = eall ∨ M < eall := by omega
      have hds : d.length - 1 = dl - 1 := by rw [hdl.out]
      replace hds := Lib.hid hds
      replace hM := Lib.hid hM
      obtain ⟨m2, hcs⟩ := hcs
      obtain ⟨G, hG⟩ : ∃ G, (if M < eall then (s.set id ⟨em ++ d.tail, eall, en + 1, now⟩, none) else ((s.set id ⟨em ++ d.tail, eall, en + 1, now⟩).del id, some (em ++ d.tail))) = G := ⟨_, rfl⟩
      rw [hG]
      replace hG := Lib.hid hG
      rcases hcs with ⟨⟨m1, m4⟩, m3⟩ | ⟨⟨m1, m4⟩, m3⟩
      all_goals
        go_enter Try.func28, Try.ntmps28
        go_wp2_with fail
        refine hat.mono ?_
        rintro e w2 ⟨rfl, rfl⟩
        clear hat
        go_wp2_with fail
        go_quiet (fail)
        go_wp2_with fail
        have sq : Stp [] wB oB (wB.drewN nq) oB := (Stp.refl [] wB oB).drewN nq
        obtain ⟨wq, hwq⟩ : ∃ wq, wB.drewN nq = wq := ⟨_, rfl⟩
        rw [hwq] at sq ⊢
        obtain ⟨A1, cc1, w3, A2, cc2, w4, o4, r1, r2, hcells, s4, hm4⟩ := moreRun (hrB.out.stp sq (by simp)) hmm.out (hdB.out.stp sq (by simp)) hdl.out (by omega) (by omega) (by omega)
        rw [hM.out] at r2 hm4
        have hj4 := (hjB.out.stp sq (by simp) (by simp) (by simp)).stp s4 (by simp) (by simp) (by simp)
        have hb4 := s4.blk (sq.blk hB2.out (by simp)) (by simp)
        have ob4 : o4 B2 = 15 := (s4.colb (sq.blk hB2.out (by simp))).trans hO2.out
        have k4q : wq.cell? ⟨B2, 4, none⟩ = some (.slice (some av) mm capv) := sq.cell k4 (by simp)
        have b1q : wq.cell? ⟨B, 1, none⟩ = some (.slice (some a) dl cap) := sq.cell b1B (by simp)
        have b0q : wq.cell? ⟨B, 0, none⟩ = some (.int .i64 id) := sq.cell b0B (by simp)
        obtain ⟨kA, kB, kC⟩ := hcells _ _ k4q
        obtain ⟨bA, bB, bC⟩ := hcells _ _ b1q
        obtain ⟨_, _, dC⟩ := hcells _ _ b0q
        have f2 := blk_free hb4 2
        have f3 := blk_free hb4 3
        have f4 := blk_free hb4 4
        have kC2 : w4.cell? ⟨B2, 2, none⟩ = some (.int .i64 en) := blk_cell hb4 2
        have kC3 : w4.cell? ⟨B2, 3, none⟩ = some (.int .i64 elast) := blk_cell hb4 3
        have k4d : wq.drew.cell? ⟨B2, 4, none⟩ = some (.slice (some av) mm capv) := k4q
        have b1d : wq.drew.cell? ⟨B, 1, none⟩ = some (.slice (some a) dl cap) := b1q
        have st4 := Lib.hid ((sAll.out.trans sq).trans s4)
        have oB4 : o4 B = 14 := (s4.colc b0q).trans ((sq.colc b0B).trans oBB.out)
        replace sq := Lib.hid sq
        replace s4 := Lib.hid s4
        replace hm4 := Lib.hid hm4
        replace hj4 := Lib.hid hj4
        replace hb4 := Lib.hid hb4
        replace ob4 := Lib.hid ob4
        replace hcells := Lib.hid hcells
        clear b0 b1 c1 fr1 hx0 hx1 hx2 hx3 hx4 c0 k0 k1 k2 k3 k4 b0B b1B hcB c0B
        refine wp_region_last (S := fun w' => w'.cell? ⟨B2, 4, none⟩ = some (.slice (some av) mm capv) ∧ w'.cell? ⟨B, 1, none⟩ = some (.slice (some a) dl cap)) (n := 9) (by kernel_rfl) rfl rfl (by kernel_rfl) ?_
        have hS := (⟨k4d, b1d⟩ : wq.drew.cell? ⟨B2, 4, none⟩ = some (.slice (some av) mm capv) ∧ wq.drew.cell? ⟨B, 1, none⟩ = some (.slice (some a) dl cap))
        refine wpAnyH_take (i := 1) (v := ?_) rfl (by kernel_rfl) (by kernel_rfl) (by kernel_rfl) (fun _ _ _ h => h) (Or.inl ⟨by rfl, ?_⟩) hS ?_
        rotate_left
        · intro w' hSw
          try dsimp only at hSw
          obtain ⟨hSa, hSb⟩ := hSw
          first
            | (go_simp; done)
            | (go_simp; with_reducible rfl)
        simp only [Act.put, List.setIfInBounds_toArray, List.set_cons_zero, List.set_cons_succ]
        refine wpAnyH_take (i := 2) (v := ?_) rfl (by kernel_rfl) (by kernel_rfl) (by kernel_rfl) (fun _ _ _ h => h) (Or.inl ⟨by rfl, ?_⟩) hS ?_
        rotate_left
        · intro w' hSw
          try dsimp only at hSw
          obtain ⟨hSa, hSb⟩ := hSw
          first
            | (go_simp; done)
            | (go_simp; with_reducible rfl)
        simp only [Act.put, List.setIfInBounds_toArray, List.set_cons_zero, List.set_cons_succ]
        refine wpAnyH_take (i := 4) (v := ?_) rfl (by kernel_rfl) (by kernel_rfl) (by kernel_rfl) (fun _ _ _ h => h) (Or.inl ⟨by rfl, ?_⟩) hS ?_
        rotate_left
        · intro w' hSw
          try dsimp only at hSw
          obtain ⟨hSa, hSb⟩ := hSw
          first
            | (go_simp; done)
            | (go_simp; with_reducible rfl)
        simp only [Act.put, List.setIfInBounds_toArray, List.set_cons_zero, List.set_cons_succ]
        refine wpAnyH_take (i := 5) (v := ?_) rfl (by kernel_rfl) (by kernel_rfl) (by kernel_rfl) (fun _ _ _ h => h) (Or.inl ⟨by rfl, ?_⟩) hS ?_
        rotate_left
        · intro w' hSw
          try dsimp only at hSw
          obtain ⟨hSa, hSb⟩ := hSw
          first
            | (go_simp; done)
            | (go_simp; with_reducible rfl)
        simp only [Act.put, List.setIfInBounds_toArray, List.set_cons_zero, List.set_cons_succ]
        refine wpAnyH_take (i := 6) (v := ?_) rfl (by kernel_rfl) (by kernel_rfl) (by kernel_rfl) (fun _ _ _ h => h) (Or.inl ⟨by rfl, ?_⟩) hS ?_
        rotate_left
        · intro w' hSw
          try dsimp only at hSw
          obtain ⟨hSa, hSb⟩ := hSw
          first
            | (go_simp; done)
            | (go_simp; with_reducible rfl)
        simp only [Act.put, List.setIfInBounds_toArray, List.set_cons_zero, List.set_cons_succ]
        refine wpAnyH_ready (rs := [0]) (by kernel_rfl) (by simp) ?_
        refine AllReadyH.cons rfl (fun K hK => ?_) AllReadyH.nil
        go_simp
        refine hK.out _ _ (by exact ⟨kA, bA⟩) (fun hS => ?_)
        clear hK K
        try simp only [Act.put, List.setIfInBounds_toArray, List.set_cons_zero, List.set_cons_succ]
        refine wpAnyH_ready (rs := [3]) (by kernel_rfl) (by simp) ?_
        refine AllReadyH.cons rfl (fun K hK => ?_) AllReadyH.nil
        refine step_append _ _ rfl (by rfl) (by rfl) (by rfl) (by rfl) r1 ?_
        refine hK.out _ _ (by exact ⟨kB, bB⟩) (fun hS => ?_)
        clear hK K
        try simp only [Act.put, List.setIfInBounds_toArray, List.set_cons_zero, List.set_cons_succ]
        refine wpAnyH_ready (rs := [7]) (by kernel_rfl) (by simp) ?_
        refine AllReadyH.cons rfl (fun K hK => ?_) AllReadyH.nil
        refine step_append _ _ rfl (by rfl) (by rfl) (by rfl) (by rfl) r2 ?_
        refine hK.out _ _ (by exact ⟨kC, bC⟩) (fun hS => ?_)
        clear hK K
        try simp only [Act.put, List.setIfInBounds_toArray, List.set_cons_zero, List.set_cons_succ]
        refine wpAnyH_take (i := 8) (v := ?_) rfl (by kernel_rfl) (by kernel_rfl) (by kernel_rfl) (fun _ _ _ h => h) (Or.inl ⟨by rfl, ?_⟩) hS ?_
        rotate_left
        · intro w' hSw
          try dsimp only at hSw
          obtain ⟨hSa, hSb⟩ := hSw
          first
            | (go_simp; done)
            | (go_simp; with_reducible rfl)
        simp only [Act.put, List.setIfInBounds_toArray, List.set_cons_zero, List.set_cons_succ]
        refine wpAnyH_done (by kernel_rfl) ?_ _
        unfold LastQ
        dsimp only
        go_wp2_with fail
        have hb4 := hb4.out
        have gq := blk_set (j := 3) (blk_set (j := 2) (blk_set (j := 4) hb4 (.slice A2 M cc2)) (.int .i64 ((en : Int) + 1))) (.int .i64 now)
        have st7 : Stp [15] w4 o4 (((w4.setCell ⟨B2, 4, none⟩ (.slice A2 M cc2)).setCell ⟨B2, 2, none⟩ (.int .i64 ((en : Int) + 1))).setCell ⟨B2, 3, none⟩ (.int .i64 now)) o4 := (((Stp.refl [15] w4 o4).setCell (fun _ => by simp [ob4.out]) _).setCell (fun _ => by simp [ob4.out]) _).setCell (fun _ => by simp [ob4.out]) _
        have st7' : Stp [] w o (((w4.setCell ⟨B2, 4, none⟩ (.slice A2 M cc2)).setCell ⟨B2, 2, none⟩ (.int .i64 ((en : Int) + 1))).setCell ⟨B2, 3, none⟩ (.int .i64 now)) o4 := ((st4.out.setNew hBn.out _).setNew hBn.out _).setNew hBn.out _
        obtain ⟨w7, hw7⟩ : ∃ w7, ((w4.setCell ⟨B2, 4, none⟩ (.slice A2 M cc2)).setCell ⟨B2, 2, none⟩ (.int .i64 ((en : Int) + 1))).setCell ⟨B2, 3, none⟩ (.int .i64 now) = w7 := ⟨_, rfl⟩
        rw [hw7] at gq st7 st7' ⊢
        replace gq : w7.heap[B2]? = some (.cells #[.int .i64 id, .int .i64 eall, .int .i64 ((en : Int) + 1), .int .i64 now, .slice A2 M cc2] 69 (0, 0)) := by simpa using gq
        have e0 : w7.cell? ⟨B2, 0, none⟩ = some (.int .i64 id) := blk_cell gq 0
        have e1 : w7.cell? ⟨B2, 1, none⟩ = some (.int .i64 eall) := blk_cell gq 1
        have e2 : w7.cell? ⟨B2, 2, none⟩ = some (.int .i64 ((en : Int) + 1)) := blk_cell gq 2
        have e3 : w7.cell? ⟨B2, 3, none⟩ = some (.int .i64 now) := blk_cell gq 3
        have e4 : w7.cell? ⟨B2, 4, none⟩ = some (.slice A2 M cc2) := blk_cell gq 4
        have hj7 := hj4.out.stp st7 (by simp) (by simp) (by simp)
        have e5 := hj7.c0
        rw [hn.out] at e5
        obtain ⟨g', cap', eqg, _, _, og7, hcell7⟩ := hj7.at_ (by have := hlen2.out; rw [hn.out]; omega)
        injection eqg with eqg _ eqc
        injection eqg with eqg
        injection eqg with eqg _ _
        subst eqg
        have hi := hi.out
        have y0 : w7.cell? ⟨g, i * 5, none⟩ = some (.int .i64 x.id) := by rw [← hi]; exact hcell7 _ _ (cellsX_at L1 x L2 0 (by omega))
        have y1 : w7.cell? ⟨g, i * 5 + 1, none⟩ = some (.int .i64 x.e.all) := by rw [← hi]; exact hcell7 _ _ (cellsX_at L1 x L2 1 (by omega))
        have y2 : w7.cell? ⟨g, i * 5 + 2, none⟩ = some (.int .i64 x.e.n) := by rw [← hi]; exact hcell7 _ _ (cellsX_at L1 x L2 2 (by omega))
        have y3 : w7.cell? ⟨g, i * 5 + 3, none⟩ = some (.int .i64 x.e.last) := by rw [← hi]; exact hcell7 _ _ (cellsX_at L1 x L2 3 (by omega))
        have y4 : w7.cell? ⟨g, i * 5 + 4, none⟩ = some x.v := by rw [← hi]; exact hcell7 _ _ (cellsX_at L1 x L2 4 (by omega))
        have w0' := hj7.free_at (i * 5)
        have w1' := hj7.free_at (i * 5 + 1)
        have w2' := hj7.free_at (i * 5 + 2)
        have w3' := hj7.free_at (i * 5 + 3)
        have w4' := hj7.free_at (i * 5 + 4)
        have gB2 : g ≠ B2 := by rintro rfl; have := ob4.out; rw [this] at og7; omega
        have gBB : g ≠ B := by rintro rfl; rw [oB4] at og7; omega
        have gBq : g ≠ q := by rintro rfl; have := hj7.col; rw [this] at og7; omega
        have hi := Lib.hid hi
        replace og7 := Lib.hid og7
        replace hcell7 := Lib.hid hcell7
        replace oB4 := Lib.hid oB4
        have e6 := st7.cell dC (by show o4 B ∉ [15]; rw [oB4]; decide)
        replace hw7 := Lib.hid hw7
        replace st7 := Lib.hid st7
        replace st7' := Lib.hid st7'
        replace gq := Lib.hid gq
        replace hj7 := Lib.hid hj7
        replace hb4 := Lib.hid hb4
        clear kA kB kC kC2 kC3 bA bB bC f2 f3 f4 k4q b1q b0q k4d b1d r1 r2
        refine wp_region_last (S := fun w' => w'.cell? ⟨q, 0, none⟩ = some (.slice (some ⟨g, 0, none⟩) n capL) ∧ w'.cell? ⟨B2, 0, none⟩ = some (.int .i64 id) ∧ w'.cell? ⟨B2, 1, none⟩ = some (.int .i64 eall) ∧ w'.cell? ⟨B2, 2, none⟩ = some (.int .i64 ((en : Int) + 1)) ∧ w'.cell? ⟨B2, 3, none⟩ = some (.int .i64 now) ∧ w'.cell? ⟨B2, 4, none⟩ = some (.slice A2 M cc2)) (n := 7) (by kernel_rfl) rfl rfl (by kernel_rfl) ?_
        have hS := (⟨e5, e0, e1, e2, e3, e4⟩ : w7.drew.cell? ⟨q, 0, none⟩ = some (.slice (some ⟨g, 0, none⟩) n capL) ∧ w7.drew.cell? ⟨B2, 0, none⟩ = some (.int .i64 id) ∧ w7.drew.cell? ⟨B2, 1, none⟩ = some (.int .i64 eall) ∧ w7.drew.cell? ⟨B2, 2, none⟩ = some (.int .i64 ((en : Int) + 1)) ∧ w7.drew.cell? ⟨B2, 3, none⟩ = some (.int .i64 now) ∧ w7.drew.cell? ⟨B2, 4, none⟩ = some (.slice A2 M cc2))
        refine wpAnyH_take (i := 0) (v := ?_) rfl (by kernel_rfl) (by kernel_rfl) (by kernel_rfl) (fun _ _ _ h => h) (Or.inl ⟨by rfl, ?_⟩) hS ?_
        rotate_left
        · intro w' hSw
          try dsimp only at hSw
          obtain ⟨hS0, hS1, hS2, hS3, hS4, hS5⟩ := hSw
          first
            | (go_simp; done)
            | (go_simp; with_reducible rfl)
        simp only [Act.put, List.setIfInBounds_toArray, List.set_cons_zero, List.set_cons_succ]
        refine wpAnyH_take (i := 1) (v := ?_) rfl (by kernel_rfl) (by kernel_rfl) (by kernel_rfl) (fun _ _ _ h => h) (Or.inl ⟨by rfl, ?_⟩) hS ?_
        rotate_left
        · intro w' hSw
          try dsimp only at hSw
          obtain ⟨hS0, hS1, hS2, hS3, hS4, hS5⟩ := hSw
          first
            | (go_simp; done)
            | (go_simp; with_reducible rfl)
        simp only [Act.put, List.setIfInBounds_toArray, List.set_cons_zero, List.set_cons_succ]
        refine wpAnyH_take (i := 2) (v := ?_) rfl (by kernel_rfl) (by kernel_rfl) (by kernel_rfl) (fun _ _ _ h => h) (Or.inl ⟨by rfl, ?_⟩) hS ?_
        rotate_left
        · intro w' hSw
          try dsimp only at hSw
          obtain ⟨hS0, hS1, hS2, hS3, hS4, hS5⟩ := hSw
          first
            | (go_simp; done)
            | (go_simp; with_reducible rfl)
        simp only [Act.put, List.setIfInBounds_toArray, List.set_cons_zero, List.set_cons_succ]
        refine wpAnyH_take (i := 3) (v := ?_) rfl (by kernel_rfl) (by kernel_rfl) (by kernel_rfl) (fun _ _ _ h => h) (Or.inl ⟨by rfl, ?_⟩) hS ?_
        rotate_left
        · intro w' hSw
          try dsimp only at hSw
          obtain ⟨hS0, hS1, hS2, hS3, hS4, hS5⟩ := hSw
          first
            | (go_simp; done)
            | (go_simp; with_reducible rfl)
        simp only [Act.put, List.setIfInBounds_toArray, List.set_cons_zero, List.set_cons_succ]
        refine wpAnyH_take (i := 4) (v := ?_) rfl (by kernel_rfl) (by kernel_rfl) (by kernel_rfl) (fun _ _ _ h => h) (Or.inl ⟨by rfl, ?_⟩) hS ?_
        rotate_left
        · intro w' hSw
          try dsimp only at hSw
          obtain ⟨hS0, hS1, hS2, hS3, hS4, hS5⟩ := hSw
          first
            | (go_simp; done)
            | (go_simp; with_reducible rfl)
        simp only [Act.put, List.setIfInBounds_toArray, List.set_cons_zero, List.set_cons_succ]
        refine wpAnyH_take (i := 5) (v := ?_) rfl (by kernel_rfl) (by kernel_rfl) (by kernel_rfl) (fun _ _ _ h => h) (Or.inl ⟨by rfl, ?_⟩) hS ?_
        rotate_left
        · intro w' hSw
          try dsimp only at hSw
          obtain ⟨hS0, hS1, hS2, hS3, hS4, hS5⟩ := hSw
          first
            | (go_simp; done)
            | (go_simp; with_reducible rfl)
        simp only [Act.put, List.setIfInBounds_toArray, List.set_cons_zero, List.set_cons_succ]
        refine wpAnyH_take (i := 6) (v := ?_) rfl (by kernel_rfl) (by kernel_rfl) (by kernel_rfl) (fun _ _ _ h => h) (Or.inl ⟨by rfl, ?_⟩) hS ?_
        rotate_left
        · intro w' hSw
          try dsimp only at hSw
          obtain ⟨hS0, hS1, hS2, hS3, hS4, hS5⟩ := hSw
          first
            | (go_simp; done)
            | (go_simp; with_reducible rfl)
        simp only [Act.put, List.setIfInBounds_toArray, List.set_cons_zero, List.set_cons_succ]
        refine wpAnyH_done (by kernel_rfl) ?_ _
        unfold LastQ
        dsimp only
        have hset := hj7.out.setAt hi.out ⟨id, .slice A2 M cc2, ⟨em ++ d.tail, eall, en + 1, now⟩⟩ (hm4.out.stp st7.out (by simp)) (.int .i64 id) (.int .i64 eall) (.int .i64 ((en : Int) + 1)) (.int .i64 now) (.slice A2 M cc2) rfl
        obtain ⟨w8, hw8⟩ : ∃ w8, ((((w7.setCell ⟨g, i * 5, none⟩ (.int .i64 id)).setCell ⟨g, i * 5 + 1, none⟩ (.int .i64 eall)).setCell ⟨g, i * 5 + 2, none⟩ (.int .i64 ((en : Int) + 1))).setCell ⟨g, i * 5 + 3, none⟩ (.int .i64 now)).setCell ⟨g, i * 5 + 4, none⟩ (.slice A2 M cc2) = w8 := ⟨_, rfl⟩
        rw [hw8] at hset
        obtain ⟨hj8, st8⟩ := hset
        have x1 := st8.cell e1 (by show o4 B2 ∉ [12]; rw [ob4.out]; decide)
        have x4 := st8.cell e4 (by show o4 B2 ∉ [12]; rw [ob4.out]; decide)
        have x6 := st8.cell e6 (by show o4 B ∉ [12]; rw [oB4.out]; decide)
        have hrs := hr.out.set (x' := ⟨id, .slice A2 M cc2, ⟨em ++ d.tail, eall, en + 1, now⟩⟩) hxid.out.symm
        rw [hxid.out] at hrs
        have hJ8 : XJ w8.drew o4 q (s.set id ⟨em ++ d.tail, eall, en + 1, now⟩) := ⟨_, _, hj8.stp (Stp.refl [] w8 o4).drew (by simp) (by simp) (by simp), hrs⟩
        have st9 : Stp [11, 12] w o w8.drew o4 := (st7'.out.none.trans (st8.mono (by simp))).drew
        have hm8 := (hm4.out.stp st7.out (by simp)).stp st8 (by simp)
        rcases hMe with hMe | hMe
        · have t1 : ((M : Int) == (eall : Int)) = true := by simp; omega
          replace hMe := Lib.hid hMe
          replace hj8 := Lib.hid hj8
          replace st8 := Lib.hid st8
          replace hrs := Lib.hid hrs
          go_wp2_with fail
          try rw [hw8]
          refine (xdropF_calls q _ id ⟨em ++ d.tail, eall, en + 1, now⟩ w8.drew o4 hJ8 (by show s.cnt ≤ _; omega) (by show s.err ≤ _; omega) (upd_same _ _ _)).mono ?_
          rintro e w9 ⟨r9, o9, rfl, s9, rfl, h9⟩
          have x9 := s9.cell (show w8.drew.cell? ⟨B2, 4, none⟩ = _ from x4) (by show o4 B2 ∉ [11]; rw [ob4.out]; decide)
          have hm9 := (hm8.stp (Stp.refl [] w8 o4).drew (by simp)).stp s9 (by simp)
          replace hJ8 := Lib.hid hJ8
          replace h9 := Lib.hid h9
          replace hm9 := Lib.hid hm9
          replace hm8 := Lib.hid hm8
          replace s9 := Lib.hid s9
          clear y0 y1 y2 y3 y4 e0 e1 e2 e3 e4 e5 e6
          go_wp2
          refine bodyPost_ret (results_tmp2 rfl _ _ _) rfl ?_
          rw [← hG.out, if_neg (by have := hMe.out; omega)]
          exact Post.mk (st9.trans (s9.out.mono (by simp))) ⟨_, rfl, hm9.out, h9.out⟩
        · have t1 : ((M : Int) == (eall : Int)) = false := by simp; omega
          replace hMe := Lib.hid hMe
          replace hj8 := Lib.hid hj8
          replace st8 := Lib.hid st8
          replace hrs := Lib.hid hrs
          replace hJ8 := Lib.hid hJ8
          replace hm8 := Lib.hid hm8
          go_wp2_with fail
          try rw [hw8]
          refine bodyPost_ret (results_tmp2 rfl _ _ _) rfl ?_
          rw [← hG.out, if_pos hMe.out]
          exact Post.mk st9 ⟨_, rfl, RdB.nil _ _ _, hJ8.out⟩
end Go.Proofs.Ytcbecidcfbhkfaa
