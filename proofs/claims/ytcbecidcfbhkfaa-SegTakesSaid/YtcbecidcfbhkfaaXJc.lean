/- The document's Join (ref15): first. -/
import Derived.Test.YtcbecidcfbhkfaaXJb
namespace Go.Proofs.Ytcbecidcfbhkfaa
set_option linter.unusedVariables false
set_option linter.unusedSimpArgs false
open Go.RowKit

theorem Rd.slice_cells {w : World} {o : Col} {c n cap : Nat} {a : Addr} {l : List UInt8} (h : RdB w o c (.slice (some a) n cap) l) : ∀ (j : Nat) (u : Value), (vbs l)[j]? = some u → w.cell? (a.add j) = some u := by
  intro j u hu
  have hj := (List.getElem?_eq_some_iff.1 hu).1
  rw [vbs_length] at hj
  obtain ⟨_, _, _, A, cap', e, _, _, hc⟩ := h
  injection e with e1 _ _
  subst e1
  obtain ⟨a', e, _, _, hc⟩ := hc (by omega)
  injection e with e
  subst e
  exact hc j u hu
/-- Bytes of the call's own, laid anew from bytes that are read, from place k on. -/
theorem newRun {w : World} {o : Col} {c n cap : Nat} {a : Addr} {d : List UInt8} (hd : RdB w o c (.slice (some a) n cap) d) (k : Nat) (hk : k ≤ d.length) (hb : d.length ≤ 1000000) (ty : TypeId) :
    ∃ A1 c1 w3 o3, (Builtin.append_ #[22, 22] ty #[.slice (some ⟨w.heap.size, 0, none⟩) 0 0, .slice (some (a.add k)) (d.length - k) (cap - k)]).run Try.prog (w.alloc (.cells #[] 5)).drew = .ok (.slice A1 (d.length - k) c1) w3 ∧
      Stp [] w o (w.alloc (.cells #[] 5)) o3 ∧ Stp [] w o w3 o3 ∧ RdB w3 o3 13 (.slice A1 (d.length - k) c1) (d.drop k) := by
  obtain ⟨e, he, _, hed⟩ := fresh o w.heap.size [c]
  have sa : Stp [e] w o (w.alloc (.cells #[] 5)).drew (paint o w.heap.size e) := ((Stp.refl [e] w o).alloc _ e).drew
  have hn := (Own.newE w o e 5 1 w.heap.size rfl).drew
  have ha := hd.stp sa (by simpa using fun h : c = e => he (by simp [h]))
  have hl : (vbs (d.drop k)).length = (d.length - k) * 1 := by rw [vbs_length, List.length_drop]; omega
  obtain ⟨A1, c1, w3, o3, r1, s1, h1⟩ := appRun slB (ad := a.add k) (cap := cap - k) (m := d.length - k) (news := vbs (d.drop k)) hn hl (fun j u hu => by
    rw [add_add]
    refine Rd.slice_cells ha (k + j) u ?_
    rw [show vbs (d.drop k) = (vbs d).drop k by simp [vbs, List.map_drop], List.getElem?_drop] at hu
    exact hu) (vbs_one _) (by omega) (by simp only [maxLen]; omega) ty
  simp only [Nat.zero_add, List.nil_append] at r1 h1
  have st : Stp [e] w o w3 o3 := sa.trans s1
  have hf := Own.fresh h1 st hed 13
  refine ⟨A1, c1, w3, paint o w.heap.size 13, r1, (Stp.refl [] w o).alloc _ 13, (st.drop hed).repaint 13, ?_⟩
  have := Own.rd hf
  unfold RdB
  rw [List.length_drop]
  exact this
/-- What 'first' lays: the runs of its two appends. -/
theorem firstRun {w : World} {o : Col} {q err capL cap : Nat} {AL : Option Addr} {L : List XE} {a : Addr} {d : List UInt8} (h : Xj w o q (.slice AL L.length capL) L err) (hb : L.length < 1000000) (hd : RdB w o 0 (.slice (some a) 8 cap) d) (h8 : d.length = 8) (id now : Int) (N : Nat) :
    ∃ A1 c1 w3 A2 c2 w5 o5, (Builtin.append_ #[22, 22] 22 #[.slice (some ⟨w.heap.size, 0, none⟩) 0 0, .slice (some (a.add 2)) 6 (cap - 2)]).run Try.prog (w.alloc (.cells #[] 5)).drew = .ok (.slice A1 6 c1) w3 ∧
      (Builtin.append_ #[42, 42] 42 #[.slice AL L.length capL, .slice (some ⟨w3.heap.size, 0, none⟩) 1 1]).run Try.prog (w3.alloc (.cells #[.int .i64 id, .int .i64 N, .int .i64 1, .int .i64 now, .slice A1 6 c1] 69)) = .ok (.slice A2 (L.length + 1) c2) w5 ∧
      (∀ (ad : Addr) (v : Value), w.cell? ad = some v → o ad.block ≠ 12 → (w.alloc (.cells #[] 5)).cell? ad = some v ∧ w3.cell? ad = some v ∧ (w3.alloc (.cells #[.int .i64 id, .int .i64 N, .int .i64 1, .int .i64 now, .slice A1 6 c1] 69)).cell? ad = some v ∧ w5.cell? ad = some v) ∧
      w5.frozen? ⟨q, 0, none⟩ = false ∧
      Xj (w5.setCell ⟨q, 0, none⟩ (.slice A2 (L.length + 1) c2)) o5 q (.slice A2 (L.length + 1) c2) (L ++ [⟨id, .slice A1 6 c1, ⟨d.drop 2, N, 1, now⟩⟩]) err ∧ Stp [11, 12] w o (w5.setCell ⟨q, 0, none⟩ (.slice A2 (L.length + 1) c2)) o5 := by
  obtain ⟨A1, c1, w3, o3, r1, sa, s3, h3⟩ := newRun hd 2 (by omega) (by omega) 22
  rw [h8] at r1 h3
  have s4 : Stp [] w3 o3 (w3.alloc (.cells #[.int .i64 id, .int .i64 N, .int .i64 1, .int .i64 now, .slice A1 6 c1] 69)) (paint o3 w3.heap.size 15) := (Stp.refl [] w3 o3).alloc _ 15
  have hx4 := (h.stp s3 (by simp) (by simp) (by simp)).stp s4 (by simp) (by simp) (by simp)
  have h4 := h3.stp s4 (by simp)
  obtain ⟨A2, c2, w5, o5, r2, s5, h5⟩ := appRun slO (ad := ⟨w3.heap.size, 0, none⟩) (cap := 1) (m := 1) (news := XE.cells ⟨id, .slice A1 6 c1, ⟨d.drop 2, N, 1, now⟩⟩) hx4.own rfl (fun j u hu => by
    rw [Addr.add_lit, Nat.zero_add, cell_of_row _ w3.heap.size j _ 69 (0, 0) (heap_alloc_new w3 _)]
    have : (#[Value.int .i64 id, .int .i64 N, .int .i64 1, .int .i64 now, .slice A1 6 c1] : Array Value)[j]? = (XE.cells ⟨id, .slice A1 6 c1, ⟨d.drop 2, N, 1, now⟩⟩)[j]? := by simp [XE.cells]
    rw [this]
    exact hu) (by intro u hu; simp only [XE.cells, List.mem_cons, List.not_mem_nil, or_false] at hu; rcases hu with rfl | rfl | rfl | rfl | rfl <;> rfl) (by omega) (by simp only [maxLen]; omega) 42
  have ec : cellsX L ++ XE.cells ⟨id, .slice A1 6 c1, ⟨d.drop 2, N, 1, now⟩⟩ = cellsX (L ++ [⟨id, .slice A1 6 c1, ⟨d.drop 2, N, 1, now⟩⟩]) := by
    rw [cellsX_app]
    simp [cellsX]
  rw [ec] at h5
  have st : Stp [12] w o w5 o5 := (s3.none.trans s4.none).trans s5
  have st4 := s3.trans s4
  obtain ⟨k1, k2, k3, k4⟩ := h.lay (L1 := L ++ [⟨id, .slice A1 6 c1, ⟨d.drop 2, N, 1, now⟩⟩]) st (by simp) (by rw [List.length_append, List.length_singleton]; exact h5) (fun y hy => by
    rcases List.mem_append.1 hy with hy | hy
    · exact (h.row y hy).stp st (by simp)
    · rw [List.mem_singleton] at hy
      subst hy
      exact h4.stp s5 (by simp))
  exact ⟨A1, c1, w3, A2, c2, w5, o5, r1, r2, fun ad v hv ho => ⟨sa.cell hv (by simp), s3.cell hv (by simp), st4.cell hv (by simp), st.cell hv (by simpa using ho)⟩, k4, k1, k2⟩
-- the walk of first (printed by wip/xjcgen.py)

set_option maxHeartbeats 4000000 in
set_option maxRecDepth 100000 in
theorem xfirst_calls (q : Nat) (s : JS) (id : Int) (vd : Value) (d : List UInt8) (now : Int) (w : World) (o : Col) (h : XJ w o q s) (hcn : s.cnt ≤ 800000) (hb : s.err ≤ 800000) (hd : RdB w o 0 vd d) (h0 : 0 < d.length) (hl : d.length ≤ 1000000) :
    Calls Try.prog 27 #[.pointer (some ⟨q, 0, none⟩), .agg #[.int .i64 id, vd], .int .i64 now] w (Post [11, 12] w o fun r w' o' => r = .tuple #[] ∧ XJ w' o' q (beginJ s id d now)) := by
  obtain ⟨A, cap, rfl, hlc, hA⟩ := hd.shape
  have s0 : Stp [] w o (w.alloc (.cells #[.int .i64 id, .slice A d.length cap] 37)) (paint o w.heap.size 14) := (Stp.refl [] w o).alloc _ 14
  have hB := heap_alloc_new w (.cells #[.int .i64 id, .slice A d.length cap] 37)
  have hO : paint o w.heap.size 14 w.heap.size = 14 := paint_at _ _ _
  replace h := h.stp s0 (by simp) (by simp) (by simp)
  replace hd := hd.stp s0 (by simp)
  obtain ⟨w1, hw1⟩ : ∃ w1, w.alloc (.cells #[.int .i64 id, .slice A d.length cap] 37) = w1 := ⟨_, rfl⟩
  obtain ⟨o1, ho1⟩ : ∃ o1, paint o w.heap.size 14 = o1 := ⟨_, rfl⟩
  obtain ⟨B, hBB⟩ : ∃ B, w.heap.size = B := ⟨_, rfl⟩
  rw [hw1, ho1] at s0 h hd
  rw [hw1, hBB] at hB
  rw [ho1, hBB] at hO
  have b0 : w1.cell? ⟨B, 0, none⟩ = some (.int .i64 id) := blk_cell hB 0
  have b1 : w1.cell? ⟨B, 1, none⟩ = some (.slice A d.length cap) := blk_cell hB 1
  obtain ⟨vL, L, hj, hr⟩ := (show XJ w1 o1 q s from h)
  have c1 := hj.c1
  have fr1 := hj.free 1
  have hbd := Lib.hid (fun k => hj.stp ((Stp.refl [] w1 o1).drewN k) (by simp) (by simp) (by simp))
  replace hO := Lib.hid hO
  replace hB := Lib.hid hB
  replace ho1 := Lib.hid ho1
  replace hj := Lib.hid hj
  replace hr := Lib.hid hr
  by_cases h8 : d.length = 8
  · obtain ⟨a, rfl, hc0⟩ := hd.at_ h0
    obtain ⟨a', e, hc1⟩ := hd.at_ (j := 1) (by omega)
    injection e with e
    subst e
    rw [head_at h0, show a.add 0 = a from rfl] at hc0
    rw [show a.add 1 = ⟨a.block, a.off + 1, none⟩ from rfl, show d[1] = d.tail.headD 0 from by
      match d, h8 with
      | x :: y :: r, _ => rfl] at hc1
    have hx := and15 (d.headD 0)
    obtain ⟨n, hn⟩ : ∃ n, (d.headD 0).toNat % 16 = n := ⟨_, rfl⟩
    have hn16 : n < 16 := by omega
    rw [hn] at hx
    have hlow : lowN d = n := hn
    obtain ⟨x, hx0⟩ : ∃ x, d.headD 0 = x := ⟨_, rfl⟩
    obtain ⟨y, hy0⟩ : ∃ y, d.tail.headD 0 = y := ⟨_, rfl⟩
    rw [hx0] at hx hc0
    rw [hy0] at hc1
    obtain ⟨N, hN⟩ : ∃ N, n * 256 + y.toNat = N := ⟨_, rfl⟩
    have hbeg : begN d = N := by rw [begN, hlow, hy0, hN]
    obtain ⟨yn, hyn⟩ : ∃ yn, y.toNat = yn := ⟨_, rfl⟩
    rw [hyn] at hc1 hN
    have hyb : (0 : Int) ≤ (yn : Int) ∧ (yn : Int) < 256 := by have := y.toNat_lt; omega
    have hor : bits BinOp.or IntKind.i64 ((n : Int) * 256) (yn : Int) = (N : Int) := by
      have := or256 n yn hn16 (by omega)
      rw [hN] at this
      exact this
    have hN9 : (0 : Int) ≤ (N : Int) ∧ (N : Int) < 4096 := by omega
    have hn256 : (0 : Int) ≤ (n : Int) ∧ (n : Int) < 16 := by omega
    rw [h8] at b1 hw1 hd
    have hJ := Lib.hid (fun k => h.stp ((Stp.refl [] w1 o1).drewN k) (by simp) (by simp) (by simp))
    have hS := Lib.hid (fun k => s0.drewN k)
    have hR := Lib.hid (fun k => hd.stp ((Stp.refl [] w1 o1).drewN k) (by simp))
    replace hd := Lib.hid hd
    replace hn := Lib.hid hn
    replace hx0 := Lib.hid hx0
    replace hy0 := Lib.hid hy0
    replace hyn := Lib.hid hyn
    replace hN := Lib.hid hN
    replace hlow := Lib.hid hlow
    replace hbeg := Lib.hid hbeg
    replace h := Lib.hid h
    replace s0 := Lib.hid s0
    rw [h8]
    by_cases hbad : N < 8 ∨ 600 < N
    · have hbj : beginJ s id d now = s.bad := by rw [beginJ, hbeg.out, if_pos (.inr hbad)]
      rw [hbj]
      have hqq : decide ((N : Int) < 8) = true ∨ decide ((N : Int) < 8) = false ∧ decide (600 < (N : Int)) = true := by
        by_cases e : N < 8
        · exact .inl (decide_eq_true (by omega))
        · exact .inr ⟨decide_eq_false (by omega), decide_eq_true (by omega)⟩
      replace hbad := Lib.hid hbad
      replace h8 := Lib.hid h8
      rcases hqq with hq | ⟨hq, hq2⟩
      all_goals
        go_enter Try.func27, Try.ntmps27
        go_wp2_with fail
        go_quiet (fail)
        go_wp2
        refine bodyPost_ret (results_none rfl _ _ _) rfl ?_
        exact Post.mk ((hS.out nq).none.trans ((hbd.out nq).bad.2.mono (by simp))) ⟨rfl, vL, L, (hbd.out nq).bad.1, hr.out⟩
    · have hq : decide ((N : Int) < 8) = false := decide_eq_false (by omega)
      have hq2 : decide (600 < (N : Int)) = false := decide_eq_false (by omega)
      rw [show beginJ s id d now = (dropJ s id).put id ⟨d.drop 2, N, 1, now⟩ from by rw [beginJ, hbeg.out, if_neg (by omega)]]
      replace hbad := Lib.hid hbad
      have H8 := Lib.hid h8
      clear h8
      go_enter Try.func27, Try.ntmps27
      go_wp2_with fail
      go_quiet (fail)
      go_wp2_with fail
      refine (xdropJ_calls q s id _ _ (hJ.out nq) (by omega) (by omega)).mono ?_
      rintro e w2 ⟨r, o2, rfl, s2, rfl, h3⟩
      have q0 := s2.cell (show (w1.drewN nq).cell? ⟨B, 0, none⟩ = _ from b0) (by rw [hO.out]; simp)
      have q1 := s2.cell (show (w1.drewN nq).cell? ⟨B, 1, none⟩ = _ from b1) (by rw [hO.out]; simp)
      have hB2 : o2 B = 14 := (s2.colc (show (w1.drewN nq).cell? ⟨B, 0, none⟩ = _ from b0)).trans hO.out
      have hd2 := (hR.out nq).stp s2 (by simp)
      obtain ⟨vL2, L2, hj2, hr2⟩ := h3
      replace s2 := Lib.hid ((hS.out nq).none.trans s2)
      clear b0 b1 c1 fr1
      have hcap : cap ≠ 2 := by have := H8.out; omega
      have hdc := dropJ_cnt s id
      have hdn := dropJ_none s id
      obtain ⟨AL, capL, rfl⟩ := hj2.own.shape
      obtain ⟨A1, c1, w3, A2, c2, w5, o5, r1, r2, hcells, k4, k5, k6⟩ := firstRun hj2 (by rw [← hr2.2.1]; omega) hd2 H8.out id now N
      have p0 := hj2.c0
      have hqc := hj2.col
      obtain ⟨pA, pB, pC, pD⟩ := hcells _ _ p0 (by show o2 q ≠ 12; rw [hqc]; decide)
      obtain ⟨qA, qB, qC, qD⟩ := hcells _ _ q0 (by show o2 B ≠ 12; rw [hB2]; decide)
      obtain ⟨rA, rB, rC, rD⟩ := hcells _ _ q1 (by show o2 B ≠ 12; rw [hB2]; decide)
      clear hcells
      have hput := Lib.hid (hr2.put (x := ⟨id, .slice A1 6 c1, ⟨d.drop 2, N, 1, now⟩⟩) hdn)
      replace hj2 := Lib.hid hj2
      replace hr2 := Lib.hid hr2
      replace hd2 := Lib.hid hd2
      replace hB2 := Lib.hid hB2
      replace hdc := Lib.hid hdc
      replace hdn := Lib.hid hdn
      replace hqc := Lib.hid hqc
      replace k5 := Lib.hid k5
      replace k6 := Lib.hid k6
      go_wp2_with fail
      refine wp_region_last (S := fun w' => w'.cell? ⟨q, 0, none⟩ = some (.slice AL L2.length capL) ∧ w'.cell? ⟨B, 0, none⟩ = some (.int .i64 id) ∧ w'.cell? ⟨B, 1, none⟩ = some (.slice (some a) 8 cap)) (n := 19) (by kernel_rfl) rfl rfl (by kernel_rfl) ?_
      have hS := (⟨p0, q0, q1⟩ : w2.drew.cell? ⟨q, 0, none⟩ = some (.slice AL L2.length capL) ∧ w2.drew.cell? ⟨B, 0, none⟩ = some (.int .i64 id) ∧ w2.drew.cell? ⟨B, 1, none⟩ = some (.slice (some a) 8 cap))
      refine wpAnyH_take (i := 0) (v := ?_) rfl (by kernel_rfl) (by kernel_rfl) (by kernel_rfl) (fun _ _ _ h => h) (Or.inl ⟨by rfl, ?_⟩) hS ?_
      rotate_left
      · intro w' hSw
        try dsimp only at hSw
        obtain ⟨hSa, hSb, hSc⟩ := hSw
        first
          | (go_simp; done)
          | (go_simp; with_reducible rfl)
      simp only [Act.put, List.setIfInBounds_toArray, List.set_cons_zero, List.set_cons_succ]
      refine wpAnyH_take (i := 1) (v := ?_) rfl (by kernel_rfl) (by kernel_rfl) (by kernel_rfl) (fun _ _ _ h => h) (Or.inl ⟨by rfl, ?_⟩) hS ?_
      rotate_left
      · intro w' hSw
        try dsimp only at hSw
        obtain ⟨hSa, hSb, hSc⟩ := hSw
        first
          | (go_simp; done)
          | (go_simp; with_reducible rfl)
      simp only [Act.put, List.setIfInBounds_toArray, List.set_cons_zero, List.set_cons_succ]
      refine wpAnyH_take (i := 2) (v := ?_) rfl (by kernel_rfl) (by kernel_rfl) (by kernel_rfl) (fun _ _ _ h => h) (Or.inl ⟨by rfl, ?_⟩) hS ?_
      rotate_left
      · intro w' hSw
        try dsimp only at hSw
        obtain ⟨hSa, hSb, hSc⟩ := hSw
        first
          | (go_simp; done)
          | (go_simp; with_reducible rfl)
      simp only [Act.put, List.setIfInBounds_toArray, List.set_cons_zero, List.set_cons_succ]
      refine wpAnyH_take (i := 3) (v := ?_) rfl (by kernel_rfl) (by kernel_rfl) (by kernel_rfl) (fun _ _ _ h => h) (Or.inl ⟨by rfl, ?_⟩) hS ?_
      rotate_left
      · intro w' hSw
        try dsimp only at hSw
        obtain ⟨hSa, hSb, hSc⟩ := hSw
        first
          | (go_simp; done)
          | (go_simp; with_reducible rfl)
      simp only [Act.put, List.setIfInBounds_toArray, List.set_cons_zero, List.set_cons_succ]
      refine wpAnyH_take (i := 4) (v := ?_) rfl (by kernel_rfl) (by kernel_rfl) (by kernel_rfl) (fun _ _ _ h => h) (Or.inl ⟨by rfl, ?_⟩) hS ?_
      rotate_left
      · intro w' hSw
        try dsimp only at hSw
        obtain ⟨hSa, hSb, hSc⟩ := hSw
        first
          | (go_simp; done)
          | (go_simp; with_reducible rfl)
      simp only [Act.put, List.setIfInBounds_toArray, List.set_cons_zero, List.set_cons_succ]
      refine wpAnyH_take (i := 5) (v := ?_) rfl (by kernel_rfl) (by kernel_rfl) (by kernel_rfl) (fun _ _ _ h => h) (Or.inl ⟨by rfl, ?_⟩) hS ?_
      rotate_left
      · intro w' hSw
        try dsimp only at hSw
        obtain ⟨hSa, hSb, hSc⟩ := hSw
        first
          | (go_simp; done)
          | (go_simp; with_reducible rfl)
      simp only [Act.put, List.setIfInBounds_toArray, List.set_cons_zero, List.set_cons_succ]
      refine wpAnyH_take (i := 6) (v := ?_) rfl (by kernel_rfl) (by kernel_rfl) (by kernel_rfl) (fun _ _ _ h => h) (Or.inl ⟨by rfl, ?_⟩) hS ?_
      rotate_left
      · intro w' hSw
        try dsimp only at hSw
        obtain ⟨hSa, hSb, hSc⟩ := hSw
        first
          | (go_simp; done)
          | (go_simp; with_reducible rfl)
      simp only [Act.put, List.setIfInBounds_toArray, List.set_cons_zero, List.set_cons_succ]
      refine wpAnyH_take (i := 7) (v := ?_) rfl (by kernel_rfl) (by kernel_rfl) (by kernel_rfl) (fun _ _ _ h => h) (Or.inl ⟨by rfl, ?_⟩) hS ?_
      rotate_left
      · intro w' hSw
        try dsimp only at hSw
        obtain ⟨hSa, hSb, hSc⟩ := hSw
        first
          | (go_simp; done)
          | (go_simp; with_reducible rfl)
      simp only [Act.put, List.setIfInBounds_toArray, List.set_cons_zero, List.set_cons_succ]
      refine wpAnyH_take (i := 8) (v := ?_) rfl (by kernel_rfl) (by kernel_rfl) (by kernel_rfl) (fun _ _ _ h => h) (Or.inl ⟨by rfl, ?_⟩) hS ?_
      rotate_left
      · intro w' hSw
        try dsimp only at hSw
        obtain ⟨hSa, hSb, hSc⟩ := hSw
        first
          | (go_simp; done)
          | (go_simp; with_reducible rfl)
      simp only [Act.put, List.setIfInBounds_toArray, List.set_cons_zero, List.set_cons_succ]
      refine wpAnyH_take (i := 10) (v := ?_) rfl (by kernel_rfl) (by kernel_rfl) (by kernel_rfl) (fun _ _ _ h => h) (Or.inl ⟨by rfl, ?_⟩) hS ?_
      rotate_left
      · intro w' hSw
        try dsimp only at hSw
        obtain ⟨hSa, hSb, hSc⟩ := hSw
        first
          | (go_simp; done)
          | (go_simp; with_reducible rfl)
      simp only [Act.put, List.setIfInBounds_toArray, List.set_cons_zero, List.set_cons_succ]
      refine wpAnyH_take (i := 11) (v := ?_) rfl (by kernel_rfl) (by kernel_rfl) (by kernel_rfl) (fun _ _ _ h => h) (Or.inl ⟨by rfl, ?_⟩) hS ?_
      rotate_left
      · intro w' hSw
        try dsimp only at hSw
        obtain ⟨hSa, hSb, hSc⟩ := hSw
        first
          | (go_simp; done)
          | (go_simp; with_reducible rfl)
      simp only [Act.put, List.setIfInBounds_toArray, List.set_cons_zero, List.set_cons_succ]
      refine wpAnyH_take (i := 12) (v := ?_) rfl (by kernel_rfl) (by kernel_rfl) (by kernel_rfl) (fun _ _ _ h => h) (Or.inl ⟨by rfl, ?_⟩) hS ?_
      rotate_left
      · intro w' hSw
        try dsimp only at hSw
        obtain ⟨hSa, hSb, hSc⟩ := hSw
        first
          | (go_simp; done)
          | (go_simp; with_reducible rfl)
      simp only [Act.put, List.setIfInBounds_toArray, List.set_cons_zero, List.set_cons_succ]
      refine wpAnyH_ready (rs := [9]) (by kernel_rfl) (by simp) ?_
      refine AllReadyH.cons rfl (fun K hK => ?_) AllReadyH.nil
      go_simp
      refine hK.out _ _ (by exact ⟨pA, qA, rA⟩) (fun hS => ?_)
      clear hK K
      try simp only [Act.put, List.setIfInBounds_toArray, List.set_cons_zero, List.set_cons_succ]
      refine wpAnyH_ready (rs := [13]) (by kernel_rfl) (by simp) ?_
      refine AllReadyH.cons rfl (fun K hK => ?_) AllReadyH.nil
      refine step_append _ _ rfl (by rfl) (by rfl) (by rfl) (by rfl) r1 ?_
      refine hK.out _ _ (by exact ⟨pB, qB, rB⟩) (fun hS => ?_)
      clear hK K
      try simp only [Act.put, List.setIfInBounds_toArray, List.set_cons_zero, List.set_cons_succ]
      refine wpAnyH_take (i := 14) (v := ?_) rfl (by kernel_rfl) (by kernel_rfl) (by kernel_rfl) (fun _ _ _ h => h) (Or.inl ⟨by rfl, ?_⟩) hS ?_
      rotate_left
      · intro w' hSw
        try dsimp only at hSw
        obtain ⟨hSa, hSb, hSc⟩ := hSw
        first
          | (go_simp; done)
          | (go_simp; with_reducible rfl)
      simp only [Act.put, List.setIfInBounds_toArray, List.set_cons_zero, List.set_cons_succ]
      refine wpAnyH_ready (rs := [15]) (by kernel_rfl) (by simp) ?_
      refine AllReadyH.cons rfl (fun K hK => ?_) AllReadyH.nil
      go_simp
      refine hK.out _ _ (by exact ⟨pC, qC, rC⟩) (fun hS => ?_)
      clear hK K
      try simp only [Act.put, List.setIfInBounds_toArray, List.set_cons_zero, List.set_cons_succ]
      refine wpAnyH_ready (rs := [16]) (by kernel_rfl) (by simp) ?_
      refine AllReadyH.cons rfl (fun K hK => ?_) AllReadyH.nil
      refine step_append _ _ rfl (by rfl) (by rfl) (by rfl) (by rfl) r2 ?_
      refine hK.out _ _ (by exact ⟨pD, qD, rD⟩) (fun hS => ?_)
      clear hK K
      try simp only [Act.put, List.setIfInBounds_toArray, List.set_cons_zero, List.set_cons_succ]
      refine wpAnyH_take (i := 17) (v := ?_) rfl (by kernel_rfl) (by kernel_rfl) (by kernel_rfl) (fun _ _ _ h => h) (Or.inl ⟨by rfl, ?_⟩) hS ?_
      rotate_left
      · intro w' hSw
        try dsimp only at hSw
        obtain ⟨hSa, hSb, hSc⟩ := hSw
        first
          | (go_simp; done)
          | (go_simp; with_reducible rfl)
      simp only [Act.put, List.setIfInBounds_toArray, List.set_cons_zero, List.set_cons_succ]
      refine wpAnyH_take (i := 18) (v := ?_) rfl (by kernel_rfl) (by kernel_rfl) (by kernel_rfl) (fun _ _ _ h => h) (Or.inl ⟨by rfl, ?_⟩) hS ?_
      rotate_left
      · intro w' hSw
        try dsimp only at hSw
        obtain ⟨hSa, hSb, hSc⟩ := hSw
        first
          | (go_simp; done)
          | (go_simp; with_reducible rfl)
      simp only [Act.put, List.setIfInBounds_toArray, List.set_cons_zero, List.set_cons_succ]
      refine wpAnyH_done (by kernel_rfl) ?_ _
      unfold LastQ
      dsimp only
      go_wp2
      go_end0
      exact Post.mk (s2.out.mono (by simp) |>.trans k6.out) ⟨rfl, _, _, k5.out, hput.out⟩
  · have h8' : ((d.length : Int) == 8) = false := by simp; omega
    have hbj : beginJ s id d now = s.bad := by rw [beginJ, if_pos (.inl h8)]
    rw [hbj]
    replace h := Lib.hid h
    replace hd := Lib.hid hd
    go_enter Try.func27, Try.ntmps27
    go_wp2
    refine bodyPost_ret (results_none rfl _ _ _) rfl ?_
    exact Post.mk (s0.none.trans (hj.out.bad.2.mono (by simp))) ⟨rfl, vL, L, hj.out.bad.1, hr.out⟩
end Go.Proofs.Ytcbecidcfbhkfaa
