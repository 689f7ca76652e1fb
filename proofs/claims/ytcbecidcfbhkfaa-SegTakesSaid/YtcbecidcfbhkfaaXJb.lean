/- The document's Join (ref15): drop. -/
import Derived.Test.YtcbecidcfbhkfaaXJa
import Derived.Test.YtcbecidcfbhkfaaLastOff
namespace Go.Proofs.Ytcbecidcfbhkfaa
set_option linter.unusedVariables false
set_option linter.unusedSimpArgs false
open Go.RowKit

theorem slO : SlT Try.prog 42 69 5 56 (.agg #[.int .i64 0, .int .i64 0, .int .i64 0, .int .i64 0, .slice none 0 0]) := ⟨Try.underlying42, info_parts (by kernel_rfl), by kernel_rfl, by omega⟩
/-- 'append' of cells onto a row of the call's own, as a run. -/
theorem appRun {P : Program} {t e sz by_ : Nat} {z : Value} (T : SlT P t e sz by_ z) {w : World} {o : Col} {c n m cap : Nat} {v : Value} {ad : Addr} {vals news : List Value} (hown : Own w o c e sz v n vals) (hl : news.length = m * sz) (hc : ∀ j u, news[j]? = some u → w.cell? (ad.add j) = some u) (h1 : ∀ u ∈ news, u.oneCell' = true)
    (hb : (n + m) * by_ ≤ 140737488355328) (h63 : n + m ≤ maxLen) (ty : TypeId) :
    ∃ A' cap' w' o', (Builtin.append_ #[t, t] ty #[v, .slice (some ad) m cap]).run P w = .ok (.slice A' (n + m) cap') w' ∧ Stp [c] w o w' o' ∧ Own w' o' c e sz (.slice A' (n + m) cap') (n + m) (vals ++ news) := by
  obtain ⟨i, hi, hz, hsz, hby⟩ := T.info
  obtain ⟨v', w', hr, o1, g1, n1, a1⟩ := run_app (P := P) w t ty e i _ sz by_ T.under hi hz hsz hby T.zsz T.pos v n vals hown.own ad m cap news hl hc h1 h63 hb
  have hown' : Own w' (paint o w.heap.size c) c e sz v' (n + m) (vals ++ news) := ⟨o1, fun u hu => by
    rcases List.mem_append.1 hu with hu | hu
    · exact hown.one u hu
    · exact h1 u hu, fun k hk => by
    rcases a1 with a1 | a1
    · rw [a1] at hk
      rw [paint_lt (hown.lt hk)]
      exact hown.col k hk
    · rw [a1] at hk
      injection hk with hk
      subst hk
      exact paint_at _ _ _⟩
  obtain ⟨A', cap', rfl⟩ := hown'.shape
  exact ⟨A', cap', w', _, hr, Stp.grown (Stp.refl _ _ _) g1 (fun k hk => by rw [hown.col k hk]; simp) c, hown'⟩
theorem cellsX_one (L : List XE) (h : ∀ x ∈ L, x.v.oneCell' = true) : ∀ u ∈ cellsX L, u.oneCell' = true := by
  intro u hu
  obtain ⟨x, hx, hu⟩ := List.mem_flatMap.1 hu
  simp only [XE.cells, List.mem_cons, List.not_mem_nil, or_false] at hu
  rcases hu with rfl | rfl | rfl | rfl | rfl
  · rfl
  · rfl
  · rfl
  · rfl
  · exact h x hx
/-- What 'drop' lays: the runs of its two appends. -/
theorem dropRun {w : World} {o : Col} {q err g cap : Nat} {L1 L2 : List XE} {x : XE} (h : Xj w o q (.slice (some ⟨g, 0, none⟩) (L1 ++ x :: L2).length cap) (L1 ++ x :: L2) err) (hb : (L1 ++ x :: L2).length ≤ 1000000) (ad : Addr) (had : 0 < L2.length → ad = ⟨g, (L1.length + 1) * 5, none⟩) (ty : TypeId) :
    ∃ A1 c1 w1 A2 c2 w2 o2, (Builtin.append_ #[42, 42] ty #[.slice (some ⟨w.heap.size, 0, none⟩) 0 0, .slice (some ⟨g, 0, none⟩) L1.length cap]).run Try.prog (w.alloc (.cells #[] 69)).drew = .ok (.slice A1 L1.length c1) w1 ∧
      (Builtin.append_ #[42, 42] ty #[.slice A1 L1.length c1, .slice (some ad) L2.length (cap - (L1.length + 1))]).run Try.prog w1 = .ok (.slice A2 (L1.length + L2.length) c2) w2 ∧
      (w.alloc (.cells #[] 69)).cell? ⟨q, 0, none⟩ = some (.slice (some ⟨g, 0, none⟩) (L1 ++ x :: L2).length cap) ∧
      w1.cell? ⟨q, 0, none⟩ = some (.slice (some ⟨g, 0, none⟩) (L1 ++ x :: L2).length cap) ∧
      w2.cell? ⟨q, 0, none⟩ = some (.slice (some ⟨g, 0, none⟩) (L1 ++ x :: L2).length cap) ∧ w2.frozen? ⟨q, 0, none⟩ = false ∧
      Xj (w2.setCell ⟨q, 0, none⟩ (.slice A2 (L1.length + L2.length) c2)) o2 q (.slice A2 (L1.length + L2.length) c2) (L1 ++ L2) err ∧ Stp [11] w o (w2.setCell ⟨q, 0, none⟩ (.slice A2 (L1.length + L2.length) c2)) o2 := by
  obtain ⟨e, he, _, hed⟩ := fresh o w.heap.size [11, 12, 13]
  obtain ⟨g', cap', e1, hnc, hcm, hg, hcell⟩ := h.at_ (by simp; omega)
  injection e1 with e1 _ e3
  injection e1 with e1
  injection e1 with e1 _ _
  subst e1
  subst e3
  have hlen : (L1 ++ x :: L2).length = L1.length + (L2.length + 1) := by simp
  have sa : Stp [e] w o (w.alloc (.cells #[] 69)).drew (paint o w.heap.size e) := ((Stp.refl [e] w o).alloc _ e).drew
  have hne : e ∉ [11, 12, 13] := he
  simp only [List.mem_cons, List.not_mem_nil, or_false, not_or] at he
  have n11 : 11 ∉ [e] := by simp; omega
  have n12 : 12 ∉ [e] := by simp; omega
  have n13 : 13 ∉ [e] := by simp; omega
  have ha := h.stp sa n11 n12 n13
  have hone : ∀ y ∈ L1 ++ x :: L2, y.v.oneCell' = true := fun y hy => (h.row y hy).one
  have hnew := (Own.newE w o e 69 5 w.heap.size rfl).drew
  have hg2 : g < w.heap.size := h.own.lt rfl
  have cA : ∀ (j : Nat) (u : Value), (cellsX (L1 ++ x :: L2))[j]? = some u → (w.alloc (.cells #[] 69)).drew.cell? ⟨g, j, none⟩ = some u := fun j u hu => sa.cell (hcell j u hu) (by show o g ∉ [e]; rw [hg]; exact n12)
  obtain ⟨A1, c1, w1, o1, r1, s1, w1o⟩ := appRun slO (ad := ⟨g, 0, none⟩) (cap := cap) (m := L1.length) (news := cellsX L1) hnew (cellsX_len _) (fun j u hu => by
    rw [Addr.add_lit, Nat.zero_add]
    exact cA j u (by rw [cellsX_app, List.getElem?_append_left (List.getElem?_eq_some_iff.1 hu).1]; exact hu)) (cellsX_one _ (fun y hy => hone y (List.mem_append_left _ hy))) (by omega) (by simp only [maxLen]; omega) ty
  simp only [Nat.zero_add, List.nil_append] at r1 w1o
  have h1 := ha.stp s1 n11 n12 n13
  have hg3 : paint o w.heap.size e g = 12 := (paint_lt hg2).trans hg
  have hcolw1 : ∀ (j : Nat) (u : Value), (cellsX (L1 ++ x :: L2))[j]? = some u → w1.cell? ⟨g, j, none⟩ = some u := fun j u hu => s1.cell (cA j u hu) (by show paint o w.heap.size e g ∉ [e]; rw [hg3]; exact n12)
  obtain ⟨A2, c2, w2, o2, r2, s2, w2o⟩ := appRun slO (ad := ad) (cap := cap - (L1.length + 1)) (m := L2.length) (news := cellsX L2) w1o (cellsX_len _) (fun j u hu => by
    have hj := (List.getElem?_eq_some_iff.1 hu).1
    rw [cellsX_len] at hj
    rw [had (by omega), Addr.add_lit]
    refine hcolw1 _ u ?_
    rw [cellsX_app, cellsX_cons, List.getElem?_append_right (by rw [cellsX_len]; omega), cellsX_len, List.getElem?_append_right (by simp [XE.cells]; omega)]
    rw [show (L1.length + 1) * 5 + j - L1.length * 5 - x.cells.length = j by simp only [XE.cells, List.length_cons, List.length_nil]; omega]
    exact hu) (cellsX_one _ (fun y hy => hone y (List.mem_append_right _ (List.mem_cons_of_mem _ hy)))) (by omega) (by simp only [maxLen]; omega) ty
  rw [← cellsX_app] at w2o
  have h2 := h1.stp s2 n11 n12 n13
  have st : Stp [e] w o w2 o2 := (sa.trans s1).trans s2
  have hof := Own.fresh w2o st hed 12
  have sf : Stp [] w o w2 (paint o w.heap.size 12) := (st.drop hed).repaint 12
  have hlen2 : (L1 ++ L2).length = L1.length + L2.length := by simp
  obtain ⟨k1, k2, k3, k4⟩ := h.lay (L1 := L1 ++ L2) sf (by simp) (by rw [hlen2]; exact hof) (fun y hy => (h.row y (by simp only [List.mem_append, List.mem_cons] at hy ⊢; rcases hy with hy | hy; exact .inl hy; exact .inr (.inr hy))).stp sf (by simp))
  exact ⟨A1, c1, w1, A2, c2, w2, _, r1, r2, ha.c0, h1.c0, k3, k4, k1, k2⟩

set_option maxHeartbeats 4000000 in
set_option maxRecDepth 100000 in
/-- The walk of 'drop' where the runs of its appends are known. -/
theorem xdropWalk (q g n cap m i1 B l2 cp2 err : Nat) (ad : Addr) (A1 : Option Addr) (c1 : Nat) (w1 : World) (A2 : Option Addr) (r2l c2 : Nat) (w2 : World) (o2 : Col) (id : Int) (b : Bool) (w : World) (o : Col) (L : List XE)
    (hat : Calls Try.prog 25 #[.pointer (some ⟨q, 0, none⟩), .int .i64 id] w fun e w' => e = .returned (.int .i64 (m : Int)) ∧ w = w')
    (hB : w.heap.size = B) (c0 : w.cell? ⟨q, 0, none⟩ = some (.slice (some ⟨g, 0, none⟩) n cap)) (y1 : m ≤ cap) (y2 : i1 ≤ n) (y3 : m < 1000000) (hwr : IntKind.i64.wrap ((m : Int) + 1) = (i1 : Int)) (he : err ≤ 1000000)
    (had : (if cap = i1 then some (⟨g, 0, none⟩ : Addr) else some ⟨g, i1 * 5, none⟩) = some ad) (hl2 : n - i1 = l2) (hcp : cap - i1 = cp2)
    (r1 : (Builtin.append_ #[42, 42] 42 #[.slice (some ⟨B, 0, none⟩) 0 0, .slice (some ⟨g, 0, none⟩) m cap]).run Try.prog (w.alloc (.cells #[] 69)).drew = .ok (.slice A1 m c1) w1)
    (r2 : (Builtin.append_ #[42, 42] 42 #[.slice A1 m c1, .slice (some ad) l2 cp2]).run Try.prog w1 = .ok (.slice A2 r2l c2) w2)
    (k0 : (w.alloc (.cells #[] 69)).cell? ⟨q, 0, none⟩ = some (.slice (some ⟨g, 0, none⟩) n cap)) (k1 : w1.cell? ⟨q, 0, none⟩ = some (.slice (some ⟨g, 0, none⟩) n cap)) (k2 : w2.cell? ⟨q, 0, none⟩ = some (.slice (some ⟨g, 0, none⟩) n cap)) (k3 : w2.frozen? ⟨q, 0, none⟩ = false)
    (k4 : Xj (w2.setCell ⟨q, 0, none⟩ (.slice A2 r2l c2)) o2 q (.slice A2 r2l c2) L err) (k5 : Stp [11] w o (w2.setCell ⟨q, 0, none⟩ (.slice A2 r2l c2)) o2) :
    Calls Try.prog 26 #[.pointer (some ⟨q, 0, none⟩), .int .i64 id, .bool b] w (Post [11] w o fun r w' o' => r = .tuple #[] ∧ ∃ v', Xj w' o' q v' L (if b then err + 1 else err)) := by
  have c0d : w.drew.cell? ⟨q, 0, none⟩ = _ := c0
  have z1 : decide ((m : Int) < 0) = false := decide_eq_false (by omega)
  replace k4 := Lib.hid k4
  replace k5 := Lib.hid k5
  go_enter Try.func26, Try.ntmps26
  go_wp2_with fail
  refine hat.mono ?_
  rintro e wa ⟨rfl, rfl⟩
  clear hat
  go_wp2_with fail
  refine wp_region_last (S := fun w' => w'.cell? ⟨q, 0, none⟩ = some (.slice (some ⟨g, 0, none⟩) n cap)) (n := 19) (by kernel_rfl) rfl rfl (by kernel_rfl) ?_
  have hS := c0d
  refine wpAnyH_take (i := 0) (v := ?_) rfl (by kernel_rfl) (by kernel_rfl) (by kernel_rfl) (fun _ _ _ h => h) (Or.inl ⟨by rfl, ?_⟩) hS ?_
  rotate_left
  · intro w' hSw
    try dsimp only at hSw
    first
      | (go_simp; done)
      | (go_simp; with_reducible rfl)
  simp only [Act.put, List.setIfInBounds_toArray, List.set_cons_zero, List.set_cons_succ]
  refine wpAnyH_take (i := 2) (v := ?_) rfl (by kernel_rfl) (by kernel_rfl) (by kernel_rfl) (fun _ _ _ h => h) (Or.inl ⟨by rfl, ?_⟩) hS ?_
  rotate_left
  · intro w' hSw
    try dsimp only at hSw
    first
      | (go_simp; done)
      | (go_simp; with_reducible rfl)
  simp only [Act.put, List.setIfInBounds_toArray, List.set_cons_zero, List.set_cons_succ]
  refine wpAnyH_take (i := 3) (v := ?_) rfl (by kernel_rfl) (by kernel_rfl) (by kernel_rfl) (fun _ _ _ h => h) (Or.inl ⟨by rfl, ?_⟩) hS ?_
  rotate_left
  · intro w' hSw
    try dsimp only at hSw
    first
      | (go_simp; done)
      | (go_simp; with_reducible rfl)
  simp only [Act.put, List.setIfInBounds_toArray, List.set_cons_zero, List.set_cons_succ]
  refine wpAnyH_take (i := 4) (v := ?_) rfl (by kernel_rfl) (by kernel_rfl) (by kernel_rfl) (fun _ _ _ h => h) (Or.inl ⟨by rfl, ?_⟩) hS ?_
  rotate_left
  · intro w' hSw
    try dsimp only at hSw
    first
      | (go_simp; done)
      | (go_simp; with_reducible rfl)
  simp only [Act.put, List.setIfInBounds_toArray, List.set_cons_zero, List.set_cons_succ]
  refine wpAnyH_take (i := 5) (v := ?_) rfl (by kernel_rfl) (by kernel_rfl) (by kernel_rfl) (fun _ _ _ h => h) (Or.inl ⟨by rfl, ?_⟩) hS ?_
  rotate_left
  · intro w' hSw
    try dsimp only at hSw
    first
      | (go_simp; done)
      | (go_simp; with_reducible rfl)
  simp only [Act.put, List.setIfInBounds_toArray, List.set_cons_zero, List.set_cons_succ]
  refine wpAnyH_take (i := 6) (v := ?_) rfl (by kernel_rfl) (by kernel_rfl) (by kernel_rfl) (fun _ _ _ h => h) (Or.inl ⟨by rfl, ?_⟩) hS ?_
  rotate_left
  · intro w' hSw
    try dsimp only at hSw
    first
      | (go_simp; done)
      | (go_simp; with_reducible rfl)
  simp only [Act.put, List.setIfInBounds_toArray, List.set_cons_zero, List.set_cons_succ]
  refine wpAnyH_take (i := 7) (v := ?_) rfl (by kernel_rfl) (by kernel_rfl) (by kernel_rfl) (fun _ _ _ h => h) (Or.inl ⟨by rfl, ?_⟩) hS ?_
  rotate_left
  · intro w' hSw
    try dsimp only at hSw
    first
      | (go_simp; done)
      | (go_simp; with_reducible rfl)
  simp only [Act.put, List.setIfInBounds_toArray, List.set_cons_zero, List.set_cons_succ]
  refine wpAnyH_take (i := 9) (v := ?_) rfl (by kernel_rfl) (by kernel_rfl) (by kernel_rfl) (fun _ _ _ h => h) (Or.inl ⟨by rfl, ?_⟩) hS ?_
  rotate_left
  · intro w' hSw
    try dsimp only at hSw
    first
      | (go_simp; done)
      | (go_simp; with_reducible rfl)
  simp only [Act.put, List.setIfInBounds_toArray, List.set_cons_zero, List.set_cons_succ]
  refine wpAnyH_take (i := 10) (v := ?_) rfl (by kernel_rfl) (by kernel_rfl) (by kernel_rfl) (fun _ _ _ h => h) (Or.inl ⟨by rfl, ?_⟩) hS ?_
  rotate_left
  · intro w' hSw
    try dsimp only at hSw
    first
      | (go_simp; done)
      | (go_simp; with_reducible rfl)
  simp only [Act.put, List.setIfInBounds_toArray, List.set_cons_zero, List.set_cons_succ]
  refine wpAnyH_take (i := 11) (v := ?_) rfl (by kernel_rfl) (by kernel_rfl) (by kernel_rfl) (fun _ _ _ h => h) (Or.inl ⟨by rfl, ?_⟩) hS ?_
  rotate_left
  · intro w' hSw
    try dsimp only at hSw
    first
      | (go_simp; done)
      | (go_simp; with_reducible rfl)
  simp only [Act.put, List.setIfInBounds_toArray, List.set_cons_zero, List.set_cons_succ]
  refine wpAnyH_take (i := 12) (v := ?_) rfl (by kernel_rfl) (by kernel_rfl) (by kernel_rfl) (fun _ _ _ h => h) (Or.inl ⟨by rfl, ?_⟩) hS ?_
  rotate_left
  · intro w' hSw
    try dsimp only at hSw
    first
      | (go_simp; done)
      | (go_simp; with_reducible rfl)
  simp only [Act.put, List.setIfInBounds_toArray, List.set_cons_zero, List.set_cons_succ]
  refine wpAnyH_take (i := 13) (v := ?_) rfl (by kernel_rfl) (by kernel_rfl) (by kernel_rfl) (fun _ _ _ h => h) (Or.inl ⟨by rfl, ?_⟩) hS ?_
  rotate_left
  · intro w' hSw
    try dsimp only at hSw
    first
      | (go_simp; done)
      | (go_simp; with_reducible rfl)
  simp only [Act.put, List.setIfInBounds_toArray, List.set_cons_zero, List.set_cons_succ]
  refine wpAnyH_take (i := 14) (v := ?_) rfl (by kernel_rfl) (by kernel_rfl) (by kernel_rfl) (fun _ _ _ h => h) (Or.inl ⟨by rfl, ?_⟩) hS ?_
  rotate_left
  · intro w' hSw
    try dsimp only at hSw
    first
      | (go_simp; done)
      | (go_simp; with_reducible rfl)
  simp only [Act.put, List.setIfInBounds_toArray, List.set_cons_zero, List.set_cons_succ]
  refine wpAnyH_take (i := 15) (v := ?_) rfl (by kernel_rfl) (by kernel_rfl) (by kernel_rfl) (fun _ _ _ h => h) (Or.inl ⟨by rfl, ?_⟩) hS ?_
  rotate_left
  · intro w' hSw
    try dsimp only at hSw
    first
      | (go_simp; done)
      | (go_simp; with_reducible rfl)
  simp only [Act.put, List.setIfInBounds_toArray, List.set_cons_zero, List.set_cons_succ]
  refine wpAnyH_ready (rs := [1]) (by kernel_rfl) (by simp) ?_
  refine AllReadyH.cons rfl (fun K hK => ?_) AllReadyH.nil
  go_simp
  refine hK.out _ _ (by exact k0) (fun hS => ?_)
  clear hK K
  try simp only [Act.put, List.setIfInBounds_toArray, List.set_cons_zero, List.set_cons_succ]
  refine wpAnyH_ready (rs := [8]) (by kernel_rfl) (by simp) ?_
  refine AllReadyH.cons rfl (fun K hK => ?_) AllReadyH.nil
  refine step_append _ _ rfl (by rfl) (by rfl) (by rfl) (by rfl) r1 ?_
  refine hK.out _ _ (by exact k1) (fun hS => ?_)
  clear hK K
  try simp only [Act.put, List.setIfInBounds_toArray, List.set_cons_zero, List.set_cons_succ]
  refine wpAnyH_ready (rs := [16]) (by kernel_rfl) (by simp) ?_
  refine AllReadyH.cons rfl (fun K hK => ?_) AllReadyH.nil
  refine step_append _ _ rfl (by rfl) (by rfl) (by rfl) (by rfl) r2 ?_
  refine hK.out _ _ (by exact k2) (fun hS => ?_)
  clear hK K
  try simp only [Act.put, List.setIfInBounds_toArray, List.set_cons_zero, List.set_cons_succ]
  refine wpAnyH_take (i := 17) (v := ?_) rfl (by kernel_rfl) (by kernel_rfl) (by kernel_rfl) (fun _ _ _ h => h) (Or.inl ⟨by rfl, ?_⟩) hS ?_
  rotate_left
  · intro w' hSw
    try dsimp only at hSw
    first
      | (go_simp; done)
      | (go_simp; with_reducible rfl)
  simp only [Act.put, List.setIfInBounds_toArray, List.set_cons_zero, List.set_cons_succ]
  refine wpAnyH_take (i := 18) (v := ?_) rfl (by kernel_rfl) (by kernel_rfl) (by kernel_rfl) (fun _ _ _ h => h) (Or.inl ⟨by rfl, ?_⟩) hS ?_
  rotate_left
  · intro w' hSw
    try dsimp only at hSw
    first
      | (go_simp; done)
      | (go_simp; with_reducible rfl)
  simp only [Act.put, List.setIfInBounds_toArray, List.set_cons_zero, List.set_cons_succ]
  refine wpAnyH_done (by kernel_rfl) ?_ _
  unfold LastQ
  dsimp only
  all_goals
    have k6 := k4.out.c1
    have k7 := k4.out.free 1
    have k8 := k4.out.bad
    cases b
    · go_wp2
      go_end0
      exact Post.mk k5.out ⟨rfl, _, k4.out⟩
    · go_wp2
      go_end0
      exact Post.mk (k5.out.trans k8.2) ⟨rfl, _, k8.1⟩

theorem xdrop_some (q : Nat) (vL : Value) (L1 : List XE) (x : XE) (L2 : List XE) (err : Nat) (b : Bool) (w : World) (o : Col) (h : Xj w o q vL (L1 ++ x :: L2) err) (hb : (L1 ++ x :: L2).length < 1000000) (he : err ≤ 1000000) (hne : ∀ y ∈ L1, y.id ≠ x.id) :
    Calls Try.prog 26 #[.pointer (some ⟨q, 0, none⟩), .int .i64 x.id, .bool b] w (Post [11] w o fun r w' o' => r = .tuple #[] ∧ ∃ v', Xj w' o' q v' (L1 ++ L2) (if b then err + 1 else err)) := by
  have hat := xat_some q vL L1 x L2 err w o h (by omega) hne
  obtain ⟨g, cap, rfl, hnc, hcm, hg, hcell⟩ := h.at_ (by simp; omega)
  have hlen : (L1 ++ x :: L2).length = L1.length + (L2.length + 1) := by simp
  obtain ⟨A1, c1, w1, A2, c2, w2, o2, r1, r2, k0, k1, k2, k3, k4, k5⟩ := dropRun (ty := 42) h (by omega) (if cap = L1.length + 1 then ⟨g, 0, none⟩ else ⟨g, (L1.length + 1) * 5, none⟩) (fun h0 => if_neg (by omega))
  exact xdropWalk q g (L1 ++ x :: L2).length cap L1.length (L1.length + 1) w.heap.size L2.length (cap - (L1.length + 1)) err _ A1 c1 w1 A2 (L1.length + L2.length) c2 w2 o2 x.id b w o (L1 ++ L2) hat rfl h.c0 (by omega) (by omega) (by omega) (by rw [IntKind.wrap_i64]; omega) he (by split <;> rfl) (by omega) rfl r1 r2 k0 k1 k2 k3 k4 k5
set_option maxHeartbeats 400000 in
theorem xdrop_none (q : Nat) (vL : Value) (L : List XE) (err : Nat) (id : Int) (b : Bool) (w : World) (o : Col) (h : Xj w o q vL L err) (hb : L.length < 1000000) (hne : ∀ x ∈ L, x.id ≠ id) :
    Calls Try.prog 26 #[.pointer (some ⟨q, 0, none⟩), .int .i64 id, .bool b] w fun e w' => e = .returned (.tuple #[]) ∧ w = w' := by
  have hat := xat_none q vL L err id w o h (by omega) hne
  go_enter Try.func26, Try.ntmps26
  go_wp2_with fail
  refine hat.mono ?_
  rintro e wa ⟨rfl, rfl⟩
  clear hat
  go_wp2
  exact bodyPost_ret (results_none rfl _ _ _) rfl ⟨rfl, rfl⟩

/-- The document's Join at block q holds what s says. -/
def XJ (w : World) (o : Col) (q : Nat) (s : JS) : Prop := ∃ vL L, Xj w o q vL L s.err ∧ XRel s L
theorem XJ.stp {C : List Nat} {w w1 : World} {o o1 : Col} {q : Nat} {s : JS} (h : XJ w o q s) (hs : Stp C w o w1 o1) (h1 : 11 ∉ C) (h2 : 12 ∉ C) (h3 : 13 ∉ C) : XJ w1 o1 q s := by
  obtain ⟨vL, L, hj, hr⟩ := h
  exact ⟨vL, L, hj.stp hs h1 h2 h3, hr⟩
theorem xdropJ_calls (q : Nat) (s : JS) (id : Int) (w : World) (o : Col) (h : XJ w o q s) (hc : s.cnt ≤ 900000) (he : s.err ≤ 900000) :
    Calls Try.prog 26 #[.pointer (some ⟨q, 0, none⟩), .int .i64 id, .bool true] w (Post [11] w o fun r w' o' => r = .tuple #[] ∧ XJ w' o' q (dropJ s id)) := by
  obtain ⟨vL, L, hj, hr⟩ := h
  have hl : L.length = s.cnt := hr.2.1.symm
  cases hf : s.f id with
  | none =>
    refine (xdrop_none q vL L s.err id true w o hj (by omega) (hr.absent hf)).mono ?_
    rintro e w' ⟨rfl, rfl⟩
    refine Post.mk (Stp.refl _ _ _) ⟨rfl, vL, L, ?_⟩
    rw [show dropJ s id = s by rw [dropJ, hf]]
    exact ⟨hj, hr⟩
  | some e =>
    obtain ⟨L1, x, L2, rfl, rfl, rfl, n1, n2⟩ := hr.there hf
    refine (xdrop_some q vL L1 x L2 s.err true w o hj (by omega) (by omega) n1).mono ?_
    rintro e w' ⟨r, o', rfl, s1, rfl, v', h1⟩
    refine Post.mk s1 ⟨rfl, v', L1 ++ L2, ?_⟩
    rw [show dropJ s x.id = s.bad.del x.id by rw [dropJ, hf]]
    exact ⟨h1, XRel.del (s := s.bad) hr⟩
theorem xdropF_calls (q : Nat) (s : JS) (id : Int) (e : OE) (w : World) (o : Col) (h : XJ w o q s) (hc : s.cnt ≤ 900000) (he : s.err ≤ 900000) (hf : s.f id = some e) :
    Calls Try.prog 26 #[.pointer (some ⟨q, 0, none⟩), .int .i64 id, .bool false] w (Post [11] w o fun r w' o' => r = .tuple #[] ∧ XJ w' o' q (s.del id)) := by
  obtain ⟨vL, L, hj, hr⟩ := h
  have hl : L.length = s.cnt := hr.2.1.symm
  obtain ⟨L1, x, L2, rfl, rfl, rfl, n1, n2⟩ := hr.there hf
  refine (xdrop_some q vL L1 x L2 s.err false w o hj (by omega) (by omega) n1).mono ?_
  rintro e w' ⟨r, o', rfl, s1, rfl, v', h1⟩
  exact Post.mk s1 ⟨rfl, v', L1 ++ L2, h1, hr.del⟩
end Go.Proofs.Ytcbecidcfbhkfaa
