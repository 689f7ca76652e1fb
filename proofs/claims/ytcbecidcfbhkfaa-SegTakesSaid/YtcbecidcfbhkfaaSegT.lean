/- Messages that are open (chapter 15): the walks of what takes a frame. -/
import Derived.Test.YtcbecidcfbhkfaaSegM
import Derived.Deep.RegionHeldLaw
import Derived.Deep.RegionHeld3

namespace Go.Proofs.Ytcbecidcfbhkfaa
set_option linter.unusedVariables false
set_option linter.unusedSimpArgs false
open Go.RowKit Go.ChangeMaps

/-- A cell of an open message is written. -/
theorem JFl.setO {w : World} {o : Col} {c p mb : Nat} {Q : Int → Nat} {V : Int → Value} {s : JS} (h : JFl w o c p mb Q V s) {id : Int} {e : OE} (he : s.f id = some e) (e' : OE) (hm : e'.m = e.m) (j : Nat) (u : Value)
    (hu : (#[V id, .int .i64 e.all, .int .i64 e.n, .int .i64 e.last] : Array Value).setIfInBounds j u = #[V id, .int .i64 e'.all, .int .i64 e'.n, .int .i64 e'.last]) :
    JFl (w.setCell ⟨Q id, j, none⟩ u) o c p mb Q V (s.set id e') ∧ Stp [c] w o (w.setCell ⟨Q id, j, none⟩ u) o := by
  obtain ⟨D, hD⟩ := h.map
  obtain ⟨es, clock, hb⟩ := hD.blk
  obtain ⟨h1, h2, h3⟩ := h.ent id e he
  refine ⟨⟨(Below.heap_setCell _ _ _ _ (blk_ne h.blk h1 (by decide))).trans h.blk, h.colp, h.colm, ⟨D, ?_⟩, fun i e2 hi => ?_, fun i i2 e1 e2 hi hi2 hij => ?_⟩, (Stp.refl _ _ _).setCell (fun _ => by rw [h2]; simp) _⟩
  · obtain ⟨k1, k2, k3, k4⟩ := hD.keep (w1 := w.setCell ⟨Q id, j, none⟩ u) (Below.heap_setCell _ _ _ _ (Ne.symm (map_ne h1 hb)))
    refine ⟨k1, fun i => (k2 i).trans ?_, fun i => (k3 i).trans ?_, k4⟩
    · show ptrD Q s.f i = ptrD Q (upd s.f id (some e')) i
      by_cases hi : i = id
      · subst hi
        rw [ptrD, ptrD, upd_same, he]
      · rw [ptrD, ptrD, upd_other _ _ hi]
    · show (s.f i).isSome = (upd s.f id (some e') i).isSome
      by_cases hi : i = id
      · subst hi
        rw [upd_same, he]; rfl
      · rw [upd_other _ _ hi]
  · by_cases hne : i = id
    · subst hne
      simp only [JS.set, upd_same, Option.some.injEq] at hi
      subst hi
      refine ⟨by rw [← hu]; exact blk_set h1 _, h2, ?_⟩
      rw [hm]
      exact Own.set h3 (Own.ne h3 h1 (by decide)) _
    · have hi2 : s.f i = some e2 := by rw [← hi]; exact (upd_other _ _ hne).symm
      obtain ⟨g1, g2, g3⟩ := h.ent i e2 hi2
      exact ⟨(Below.heap_setCell _ _ _ _ (h.apart i id e2 e hi2 he hne).1).trans g1, g2, Own.set g3 (Own.ne g3 h1 (by decide)) _⟩
  · have f1 : ∃ x, s.f i = some x := by
      by_cases hne : i = id
      · exact ⟨e, by rw [hne]; exact he⟩
      · exact ⟨e1, by rw [← hi]; exact (upd_other _ _ hne).symm⟩
    have f2 : ∃ x, s.f i2 = some x := by
      by_cases hne : i2 = id
      · exact ⟨e, by rw [hne]; exact he⟩
      · exact ⟨e2, by rw [← hi2]; exact (upd_other _ _ hne).symm⟩
    obtain ⟨x, hx⟩ := f1
    obtain ⟨y, hy⟩ := f2
    exact h.apart i i2 x y hx hy hij
/-- An open message's row has grown, and lies in its cell. -/
theorem JFl.grow {w w' : World} {o o' : Col} {c p mb : Nat} {Q : Int → Nat} {V : Int → Value} {s : JS} (h : JFl w o c p mb Q V s) {id : Int} {e : OE} (he : s.f id = some e) (v' : Value) (m' : List UInt8) (hs : Stp [c] w o w' o') (ho : OwnB w' o' c v' m') (hg : w.grownBy w' (V id).ownBlock)
    (hk : v'.ownBlock = (V id).ownBlock ∨ v'.ownBlock = some w.heap.size) :
    JFl (w'.setCell ⟨Q id, 0, none⟩ v') o' c p mb Q (upd V id v') (s.set id { e with m := m' }) ∧ Stp [c] w o (w'.setCell ⟨Q id, 0, none⟩ v') o' := by
  obtain ⟨D, hD⟩ := h.map
  obtain ⟨es, clock, hb⟩ := hD.blk
  obtain ⟨h1, h2, h3⟩ := h.ent id e he
  have keep : ∀ k x, w.heap[k]? = some x → (V id).ownBlock ≠ some k → w'.heap[k]? = some x := fun k x hx hne => (hg.block k (Array.getElem?_eq_some_iff.1 hx).1 (fun e1 => hne e1.symm)).trans hx
  have hq' := keep _ _ h1 (Own.ne h3 h1 (by decide))
  have hb' := keep _ _ hb (own_ne h3 hb)
  have hp' := keep _ _ h.blk (Own.ne h3 h.blk (by decide))
  have cq : o' (Q id) = c := (hs.colb h1).trans h2
  refine ⟨⟨(Below.heap_setCell _ _ _ _ (blk_ne h.blk h1 (by decide))).trans hp', (hs.colb h.blk).trans h.colp, (hs.colb hb).trans h.colm, ⟨D, ?_⟩, fun i e2 hi => ?_, fun i i2 e1 e2 hi hi2 hij => ?_⟩, hs.setCell (fun _ => by rw [cq]; simp) _⟩
  · obtain ⟨k1, k2, k3, k4⟩ := hD.keep (w1 := w'.setCell ⟨Q id, 0, none⟩ v') ((Below.heap_setCell _ _ _ _ (Ne.symm (map_ne h1 hb))).trans (hb'.trans hb.symm))
    refine ⟨k1, fun i => (k2 i).trans ?_, fun i => (k3 i).trans ?_, k4⟩
    · show ptrD Q s.f i = ptrD Q (upd s.f id (some { e with m := m' })) i
      by_cases hi : i = id
      · subst hi
        rw [ptrD, ptrD, upd_same, he]
      · rw [ptrD, ptrD, upd_other _ _ hi]
    · show (s.f i).isSome = (upd s.f id (some { e with m := m' }) i).isSome
      by_cases hi : i = id
      · subst hi
        rw [upd_same, he]; rfl
      · rw [upd_other _ _ hi]
  · by_cases hne : i = id
    · subst hne
      simp only [JS.set, upd_same, Option.some.injEq] at hi
      subst hi
      rw [upd_same]
      exact ⟨blk_set hq' _, cq, Own.set ho (Own.ne ho hq' (by decide)) _⟩
    · have hi2 : s.f i = some e2 := by rw [← hi]; exact (upd_other _ _ hne).symm
      obtain ⟨g1, g2, g3⟩ := h.ent i e2 hi2
      have hap := h.apart i id e2 e hi2 he hne
      rw [upd_other _ _ hne]
      refine ⟨(Below.heap_setCell _ _ _ _ hap.1).trans (keep _ _ g1 (Own.ne h3 g1 (by decide))), (hs.colb g1).trans g2, ?_⟩
      have g4 : OwnB w' o' c (V i) e2.m := Own.keep g3 (fun k hk1 => ⟨hg.block k (Own.lt g3 hk1) (fun e1 => hap.2 k hk1 e1.symm), (hs.col k (Own.lt g3 hk1)).trans (g3.col k hk1)⟩)
      exact Own.set g4 (Own.ne g4 hq' (by decide)) _
  · have f1 : ∃ x, s.f i = some x := by
      by_cases hne : i = id
      · exact ⟨e, by rw [hne]; exact he⟩
      · exact ⟨e1, by rw [← hi]; exact (upd_other _ _ hne).symm⟩
    have f2 : ∃ x, s.f i2 = some x := by
      by_cases hne : i2 = id
      · exact ⟨e, by rw [hne]; exact he⟩
      · exact ⟨e2, by rw [← hi2]; exact (upd_other _ _ hne).symm⟩
    obtain ⟨x, hx⟩ := f1
    obtain ⟨y, hy⟩ := f2
    refine ⟨(h.apart i i2 x y hx hy hij).1, ?_⟩
    have row : ∀ j z, s.f j = some z → ∀ k : Nat, (V j).ownBlock = some k → k < w.heap.size := fun j z hz k hk1 => Own.lt (h.ent j z hz).2.2 hk1
    by_cases hne : i = id
    · subst hne
      have hne2 : i2 ≠ i := Ne.symm hij
      rw [upd_same, upd_other _ _ hne2]
      intro k hk1 hk2
      rcases hk with hk | hk
      · exact (h.apart i i2 x y hx hy hij).2 k (by rw [← hk]; exact hk1) hk2
      · have := row i2 y hy k hk2
        rw [hk] at hk1
        injection hk1 with hk1
        omega
    · rw [upd_other _ _ hne]
      by_cases hne2 : i2 = id
      · subst hne2
        rw [upd_same]
        intro k hk1 hk2
        rcases hk with hk | hk
        · exact (h.apart i i2 x y hx hy hij).2 k hk1 (by rw [← hk]; exact hk2)
        · have := row i x hx k hk1
          rw [hk] at hk2
          injection hk2 with hk2
          omega
      · rw [upd_other _ _ hne2]
        exact (h.apart i i2 x y hx hy hij).2

set_option maxHeartbeats 1000000 in
theorem drops_calls (c p mb : Nat) (Q : Int → Nat) (V : Int → Value) (s : JS) (id : Int) (w : World) (o : Col) (h : JFl w o c p mb Q V s) (hw : (Lit.int .i64 id).wf = true) (hb : s.err ≤ 1000000) :
    Calls Try.prog 21 #[.pointer (some ⟨p, 0, none⟩), .int .i64 id] w (Post [c] w o fun r w' o' => r = .tuple #[] ∧ JFl w' o' c p mb Q V (dropJ s id)) := by
  have hlk := h.look hw
  have c0 := h.c0
  cases hf : s.f id with
  | none =>
    rw [show ptrV Q s.f id = .pointer none from by rw [ptrV, hf]] at hlk
    have hD : dropJ s id = s := by rw [dropJ, hf]
    rw [hD]
    replace h := Lib.hid h
    go_enter Try.func21, Try.ntmps21
    go_wp2
    go_end0
    exact Post.mk (Stp.refl _ _ _) ⟨rfl, h.out⟩
  | some e =>
    rw [show ptrV Q s.f id = .pointer (some ⟨Q id, 0, none⟩) from by rw [ptrV, hf]] at hlk
    have hD : dropJ s id = s.bad.del id := by rw [dropJ, hf]
    rw [hD]
    have c1 := h.c1
    have fr1 := blk_free h.blk 1
    obtain ⟨h1, s1⟩ := h.bad
    have c2 := h1.c0
    obtain ⟨w2, hrun, h2, s2, _⟩ := h1.del hw (by exact hf) 0
    replace h := Lib.hid h
    replace h1 := Lib.hid h1
    replace h2 := Lib.hid h2
    replace s1 := Lib.hid s1
    replace s2 := Lib.hid s2
    go_enter Try.func21, Try.ntmps21
    go_wp2
    go_end0
    exact Post.mk (s1.out.trans s2.out) ⟨rfl, h2.out⟩

def lowN (d : List UInt8) : Nat := (d.headD 0).toNat % 16
def kindN (d : List UInt8) : Nat := (d.headD 0).toNat / 16
def singleJ (s : JS) (id : Int) (d : List UInt8) : JS × Option (List UInt8) := if lowN d = 0 ∨ d.length ≠ 1 + lowN d then (s.bad, none) else (dropJ s id, some d.tail)
theorem and15 (b : UInt8) : bits BinOp.and IntKind.u8 (b.toNat : Int) 15 = ((b.toNat % 16 : Nat) : Int) := by
  have h : ∀ a, a < 256 → bits BinOp.and IntKind.u8 ((a : Nat) : Int) 15 = ((a % 16 : Nat) : Int) := by decide +kernel
  exact h b.toNat b.toNat_lt
theorem head_at {d : List UInt8} (h : 0 < d.length) : d[0] = d.headD 0 := by
  cases d with
  | nil => simp at h
  | cons x d => rfl

set_option maxHeartbeats 1000000 in
theorem single_calls (c c2 p mb : Nat) (Q : Int → Nat) (V : Int → Value) (s : JS) (id : Int) (vd : Value) (d : List UInt8) (w : World) (o : Col) (h : JFl w o c p mb Q V s) (hw : (Lit.int .i64 id).wf = true) (hb : s.err ≤ 1000000) (hd : RdB w o c2 vd d) (h2 : c2 ≠ c) (h0 : 0 < d.length) (hl : d.length ≤ 1000000) :
    Calls Try.prog 22 #[.pointer (some ⟨p, 0, none⟩), .agg #[.int .i64 id, vd]] w (Post [c] w o fun r w' o' => ∃ v, r = .tuple #[v, .bool (singleJ s id d).2.isSome] ∧ RdB w' o' c v ((singleJ s id d).2.getD []) ∧ JFl w' o' c p mb Q V (singleJ s id d).1) := by
  obtain ⟨A, cap, rfl, hlc, hA⟩ := hd.shape
  have s0 : Stp [] w o (w.alloc (.cells #[.int .i64 id, .slice A d.length cap] 37)) (paint o w.heap.size (c + 1)) := (Stp.refl [] w o).alloc _ (c + 1)
  have hB := heap_alloc_new w (.cells #[.int .i64 id, .slice A d.length cap] 37)
  have hO : paint o w.heap.size (c + 1) w.heap.size = c + 1 := paint_at _ _ _
  replace h := h.stp s0 (by simp)
  replace hd := hd.stp s0 (by simp)
  obtain ⟨w1, hw1⟩ : ∃ w1, w.alloc (.cells #[.int .i64 id, .slice A d.length cap] 37) = w1 := ⟨_, rfl⟩
  obtain ⟨o1, ho1⟩ : ∃ o1, paint o w.heap.size (c + 1) = o1 := ⟨_, rfl⟩
  obtain ⟨B, hBB⟩ : ∃ B, w.heap.size = B := ⟨_, rfl⟩
  rw [hw1, ho1] at s0 h hd
  rw [hw1, hBB] at hB
  rw [ho1, hBB] at hO
  have b0 : w1.cell? ⟨B, 0, none⟩ = some (.int .i64 id) := blk_cell hB 0
  have b1 : w1.cell? ⟨B, 1, none⟩ = some (.slice A d.length cap) := blk_cell hB 1
  obtain ⟨a, rfl, hc0⟩ := hd.at_ h0
  rw [head_at h0, show a.add 0 = a from rfl] at hc0
  have c1 := h.c1
  have fr1 := blk_free h.blk 1
  have hx := and15 (d.headD 0)
  obtain ⟨n, hn⟩ : ∃ n, (d.headD 0).toNat % 16 = n := ⟨_, rfl⟩
  have hn16 : n < 16 := by omega
  rw [hn] at hx
  have hlow : lowN d = n := hn
  obtain ⟨x, hx0⟩ : ∃ x, d.headD 0 = x := ⟨_, rfl⟩
  rw [hx0] at hx hc0
  have nB : ¬ (c + 1) ∈ [c] := by simp
  have n2 : ¬ c2 ∈ [c] := by simpa using h2
  replace hn := Lib.hid hn
  replace hx0 := Lib.hid hx0
  replace hO := Lib.hid hO
  replace hB := Lib.hid hB
  replace ho1 := Lib.hid ho1
  replace s0 := Lib.hid s0
  replace hlow := Lib.hid hlow
  replace hd := Lib.hid hd
  replace nB := Lib.hid nB
  have hdlen : (1 : Int) ≤ (d.length : Int) := by omega
  have hdl2 : (d.length : Int) ≤ 1000000 := by omega
  by_cases hbad : n = 0 ∨ d.length ≠ 1 + n
  · rw [show singleJ s id d = (s.bad, none) from by rw [singleJ, hlow.out, if_pos hbad]]
    obtain ⟨h1, s1⟩ := h.bad
    have fin := Lib.hid (s0.out.none.trans s1)
    replace h1 := Lib.hid h1
    have hqq : ((n : Int) == 0) = true ∨ ((n : Int) == 0) = false ∧ ((n : Int) != (d.length : Int) - 1) = true := by
      rcases Nat.eq_zero_or_pos n with e | e
      · left; simp [e]
      · right; refine ⟨by simp; omega, by simp; omega⟩
    clear hbad h
    rcases hqq with hq | ⟨hq, hq2⟩
    all_goals
      go_enter Try.func22, Try.ntmps22
      go_wp2
      refine bodyPost_ret (results_tmp2 rfl _ _ _) rfl ?_
      exact Post.mk fin.out ⟨_, rfl, RdB.nil _ _ _, h1.out⟩
  · have hq : ((n : Int) == 0) = false := by simp; omega
    have hq2 : ((n : Int) != (d.length : Int) - 1) = false := by simp; omega
    rw [show singleJ s id d = (dropJ s id, some d.tail) from by rw [singleJ, hlow.out, if_neg hbad]]
    replace h := Lib.hid h
    replace hbad := Lib.hid hbad
    go_enter Try.func22, Try.ntmps22
    go_wp2_with fail
    refine (drops_calls c p mb Q V s id _ _ h.out hw hb).mono ?_
    rintro e w2 ⟨r, o2, rfl, s2, rfl, h3⟩
    have e1 := s2.cell b1 (by rw [hO.out]; exact nB.out)
    have hd2 := hd.out.stp s2 n2
    replace s2 := Lib.hid (s0.out.none.trans s2)
    replace h3 := Lib.hid h3
    replace hd2 := Lib.hid hd2
    go_wp2_with (refine holdAt 36 ?_)
    apply Hold.mk
    refine slcBL _ _ rfl rfl hd2.out 1 rfl rfl (by omega) fun A1 hd3 => ?_
    have hlen : (d.drop 1).length = d.length - 1 := by simp
    go_wp2_with fail
    rw [← hlen] at hd3 ⊢
    refine (clone_calls c2 c _ (d.drop 1) _ _ hd3 (by rw [hlen]; omega)).mono ?_
    rintro e w3 ⟨r, o3, rfl, s3, hv⟩
    have h4 := Lib.hid (h3.out.stp s3 (by simp))
    have st := Lib.hid (s2.out.trans s3.none)
    replace hv := Lib.hid hv
    clear hd3 s3
    go_wp2
    refine bodyPost_ret (results_tmp2 rfl _ _ _) rfl ?_
    exact Post.mk st.out ⟨_, rfl, by rw [Option.getD_some, ← List.drop_one]; exact OwnB.rd hv.out, h4.out⟩

def begN (d : List UInt8) : Nat := lowN d * 256 + (d.tail.headD 0).toNat
def beginJ (s : JS) (id : Int) (d : List UInt8) (now : Int) : JS := if d.length ≠ 8 ∨ begN d < 8 ∨ 600 < begN d then s.bad else (dropJ s id).put id ⟨d.drop 2, begN d, 1, now⟩
theorem dropJ_none (s : JS) (id : Int) : (dropJ s id).f id = none := by
  unfold dropJ
  cases h : s.f id with
  | none => exact h
  | some e => exact upd_same _ _ _
theorem dropJ_err (s : JS) (id : Int) : s.err ≤ (dropJ s id).err ∧ (dropJ s id).err ≤ s.err + 1 := by
  unfold dropJ
  cases s.f id with
  | none => exact ⟨Nat.le_refl _, Nat.le_succ _⟩
  | some e => exact ⟨Nat.le_succ _, Nat.le_refl _⟩
theorem dropJ_cnt (s : JS) (id : Int) : (dropJ s id).cnt ≤ s.cnt := by
  unfold dropJ
  cases s.f id with
  | none => exact Nat.le_refl _
  | some e => exact Nat.sub_le _ _
theorem or256 (x y : Nat) (hx : x < 16) (hy : y < 256) : bits BinOp.or IntKind.i64 ((x * 256 : Nat) : Int) (y : Int) = ((x * 256 + y : Nat) : Int) := by
  have h : ∀ x, x < 16 → ∀ y, y < 256 → bits BinOp.or IntKind.i64 ((x * 256 : Nat) : Int) ((y : Nat) : Int) = ((x * 256 + y : Nat) : Int) := by decide +kernel
  exact h x hx y hy
theorem step_mapUpdate {P : Program} {ops : Array Oper} {o : Oper} {a : Act} {K : Act → World → Prop} {Q : Exit → Act → World → Prop} {E : Prop} {w w2 : World} {t : TypeId} {vm vk vx : Value} (m k x : Operand) (hgd : o.guard = none)
    (ho : o.op = .mapUpdate t m k x) (hm : a.eval m = vm) (hk : a.eval k = vk) (hx : a.eval x = vx) (hrun : (Instr.mapUpdate t vm vk vx).run P w = .ok () w2) (h : K (a.put o.dst undef) w2) :
    if Region.wanted o (yielded ops a.tmps) = true then Oper.wp P o a w K Q else E := by
  have hw : Region.wanted o (yielded ops a.tmps) = true := by simp [Region.wanted, hgd]
  rw [if_pos hw]
  unfold Oper.wp
  simp [execOp, ho, hm, hk, hx, hrun, Result.andThen]
  exact h

theorem RdB.drop {w : World} {o : Col} {c n cap : Nat} {a : Addr} {l : List UInt8} (h : RdB w o c (.slice (some a) n cap) l) (k : Nat) (hk : k ≤ l.length) (hc : k < cap) (hn : n = l.length) : RdB w o c (.slice (some (a.add k)) (n - k) (cap - k)) (l.drop k) := by
  subst hn
  have := Rd.sub h k l.length hk (Nat.le_refl _)
  rw [if_neg (by omega)] at this
  unfold RdB
  rw [List.length_drop]
  simp only [Nat.mul_one, Option.map_some] at this
  rw [List.take_of_length_le (by rw [List.length_drop, vbs_length]; omega)] at this
  simpa [vbs, List.map_drop] using this
set_option maxHeartbeats 1000000 in
set_option maxRecDepth 100000 in
theorem begins_calls (c c2 p mb : Nat) (Q : Int → Nat) (V : Int → Value) (s : JS) (id : Int) (vd : Value) (d : List UInt8) (now : Int) (w : World) (o : Col) (h : JFl w o c p mb Q V s) (hw : (Lit.int .i64 id).wf = true) (hb : s.err ≤ 1000000) (hcn : s.cnt ≤ 1000000) (hd : RdB w o c2 vd d) (h2 : c2 ≠ c) (h0 : 0 < d.length) (hl : d.length ≤ 1000000) :
    Calls Try.prog 23 #[.pointer (some ⟨p, 0, none⟩), .agg #[.int .i64 id, vd], .int .i64 now] w (Post [c] w o fun r w' o' => r = .tuple #[] ∧ ∃ Q' V', JFl w' o' c p mb Q' V' (beginJ s id d now)) := by
  obtain ⟨A, cap, rfl, hlc, hA⟩ := hd.shape
  have s0 : Stp [] w o (w.alloc (.cells #[.int .i64 id, .slice A d.length cap] 37)) (paint o w.heap.size (c + 1)) := (Stp.refl [] w o).alloc _ (c + 1)
  have hB := heap_alloc_new w (.cells #[.int .i64 id, .slice A d.length cap] 37)
  have hO : paint o w.heap.size (c + 1) w.heap.size = c + 1 := paint_at _ _ _
  replace h := h.stp s0 (by simp)
  replace hd := hd.stp s0 (by simp)
  obtain ⟨w1, hw1⟩ : ∃ w1, w.alloc (.cells #[.int .i64 id, .slice A d.length cap] 37) = w1 := ⟨_, rfl⟩
  obtain ⟨o1, ho1⟩ : ∃ o1, paint o w.heap.size (c + 1) = o1 := ⟨_, rfl⟩
  obtain ⟨B, hBB⟩ : ∃ B, w.heap.size = B := ⟨_, rfl⟩
  rw [hw1, ho1] at s0 h hd
  rw [hw1, hBB] at hB
  rw [ho1, hBB] at hO
  have b0 : w1.cell? ⟨B, 0, none⟩ = some (.int .i64 id) := blk_cell hB 0
  have b1 : w1.cell? ⟨B, 1, none⟩ = some (.slice A d.length cap) := blk_cell hB 1
  have c1 := h.c1
  have fr1 := blk_free h.blk 1
  have nB : ¬ (c + 1) ∈ [c] := by simp
  have n2 : ¬ c2 ∈ [c] := by simpa using h2
  replace hO := Lib.hid hO
  replace hB := Lib.hid hB
  replace ho1 := Lib.hid ho1
  replace nB := Lib.hid nB
  obtain ⟨h1, s1⟩ := h.bad
  have fin := Lib.hid (s0.none.trans s1)
  replace h1 := Lib.hid h1
  replace s0 := Lib.hid s0
  by_cases h8 : d.length = 8
  · obtain ⟨a, rfl, hc0⟩ := hd.at_ h0
    obtain ⟨a', e, hc1⟩ := hd.at_ (j := 1) (by omega)
    injection e with e
    subst e
    rw [head_at h0, show a.add 0 = a from rfl] at hc0
    rw [show a.add 1 = ⟨a.block, a.off + 1, none⟩ from rfl, show d[1] = d.tail.headD 0 from by
      match d, h8 with
      | x :: y :: r, _ => rfl] at hc1
    have hx := and15 (d.headD 0)
    obtain ⟨n, hn⟩ : ∃ n, (d.headD 0).toNat % 16 = n := ⟨_, rfl⟩
    have hn16 : n < 16 := by omega
    rw [hn] at hx
    have hlow : lowN d = n := hn
    obtain ⟨x, hx0⟩ : ∃ x, d.headD 0 = x := ⟨_, rfl⟩
    obtain ⟨y, hy0⟩ : ∃ y, d.tail.headD 0 = y := ⟨_, rfl⟩
    rw [hx0] at hx hc0
    rw [hy0] at hc1
    obtain ⟨N, hN⟩ : ∃ N, n * 256 + y.toNat = N := ⟨_, rfl⟩
    have hbeg : begN d = N := by rw [begN, hlow, hy0, hN]
    obtain ⟨yn, hyn⟩ : ∃ yn, y.toNat = yn := ⟨_, rfl⟩
    rw [hyn] at hc1 hN
    have hyb : (0 : Int) ≤ (yn : Int) ∧ (yn : Int) < 256 := by have := y.toNat_lt; omega
    have hor : bits BinOp.or IntKind.i64 ((n : Int) * 256) (yn : Int) = (N : Int) := by
      have := or256 n yn hn16 (by omega)
      rw [hN] at this
      exact this
    have hN9 : (0 : Int) ≤ (N : Int) ∧ (N : Int) < 4096 := by omega
    have hn256 : (0 : Int) ≤ (n : Int) ∧ (n : Int) < 16 := by omega
    rw [h8] at b1 hw1
    have hJ := Lib.hid (fun k => h.stp ((Stp.refl [] w1 o1).drewN k) (by simp))
    have hS := Lib.hid (fun k => s0.out.drewN k)
    have hR := Lib.hid (fun k => hd.stp ((Stp.refl [] w1 o1).drewN k) (by simp))
    replace hd := Lib.hid hd
    replace hn := Lib.hid hn
    replace hx0 := Lib.hid hx0
    replace hy0 := Lib.hid hy0
    replace hyn := Lib.hid hyn
    replace hN := Lib.hid hN
    replace hlow := Lib.hid hlow
    replace hbeg := Lib.hid hbeg
    replace h := Lib.hid h
    clear fin h1 s1
    rw [h8]
    by_cases hbad : N < 8 ∨ 600 < N
    · have hbj : beginJ s id d now = s.bad := by rw [beginJ, hbeg.out, if_pos (.inr hbad)]
      rw [hbj]
      have hqq : decide ((N : Int) < 8) = true ∨ decide ((N : Int) < 8) = false ∧ decide (600 < (N : Int)) = true := by
        by_cases e : N < 8
        · exact .inl (decide_eq_true (by omega))
        · exact .inr ⟨decide_eq_false (by omega), decide_eq_true (by omega)⟩
      replace hbad := Lib.hid hbad
      rcases hqq with hq | ⟨hq, hq2⟩
      all_goals
        go_enter Try.func23, Try.ntmps23
        go_wp2_with fail
        go_quiet (fail)
        go_wp2
        go_end0
        exact Post.mk ((hS.out nq).none.trans (hJ.out nq).bad.2) ⟨rfl, Q, V, (hJ.out nq).bad.1⟩
    · have hq : decide ((N : Int) < 8) = false := decide_eq_false (by omega)
      have hq2 : decide (600 < (N : Int)) = false := decide_eq_false (by omega)
      rw [show beginJ s id d now = (dropJ s id).put id ⟨d.drop 2, N, 1, now⟩ from by rw [beginJ, hbeg.out, if_neg (by omega)]]
      replace hbad := Lib.hid hbad
      go_enter Try.func23, Try.ntmps23
      go_wp2_with fail
      go_quiet (fail)
      go_wp2_with fail
      refine (drops_calls c p mb Q V s id _ _ (hJ.out nq) hw hb).mono ?_
      rintro e w2 ⟨r, o2, rfl, s2, rfl, h3⟩
      have q0 := s2.cell (show (w1.drewN nq).cell? ⟨B, 0, none⟩ = _ from b0) (by rw [hO.out]; exact nB.out)
      have q1 := s2.cell (show (w1.drewN nq).cell? ⟨B, 1, none⟩ = _ from b1) (by rw [hO.out]; exact nB.out)
      have hB2 : o2 B = c + 1 := (s2.colc (show (w1.drewN nq).cell? ⟨B, 0, none⟩ = _ from b0)).trans hO.out
      have hd2 := (hR.out nq).stp s2 n2
      have t0 := h3.c0
      replace s2 := Lib.hid ((hS.out nq).none.trans s2)
      replace h3 := Lib.hid h3
      replace hd2 := Lib.hid hd2
      replace hB2 := Lib.hid hB2
      clear b0 b1 c1 fr1
      have sd : Stp [] w2 o2 w2.drew o2 := (Stp.refl [] w2 o2).drew
      have hcap : cap ≠ 2 := by omega
      obtain ⟨cf, _, _, hcf⟩ := fresh o2 w2.drew.heap.size [c, c2]
      have t0d : w2.drew.cell? ⟨p, 0, none⟩ = some (.map (some mb)) := t0
      have q0d : w2.drew.cell? ⟨B, 0, none⟩ = some (.int .i64 id) := q0
      have q1d : w2.drew.cell? ⟨B, 1, none⟩ = some (.slice (some a) 8 cap) := q1
      have hrd := Lib.hid (by
        have := RdB.drop (hd2.out.stp sd (by simp)) 2 (by omega) (by omega) rfl
        rw [h8] at this
        exact this)
      have h3d := Lib.hid (h3.out.stp sd (by simp))
      have s2d := Lib.hid (s2.out.trans sd.none)
      have hdrop : (d.drop 2).length = 6 := by rw [List.length_drop, h8]
      have hde := dropJ_err s id
      have hdc := dropJ_cnt s id
      have hdn := dropJ_none s id
      replace hde := Lib.hid hde
      replace hdc := Lib.hid hdc
      replace hdn := Lib.hid hdn
      replace sd := Lib.hid sd
      go_wp2_with fail
      go_region_held3 (fun w' => w'.cell? ⟨p, 0, none⟩ = some (.map (some mb)) ∧ w'.cell? ⟨B, 0, none⟩ = some (.int .i64 id) ∧ w'.cell? ⟨B, 1, none⟩ = some (.slice (some a) 8 cap))
        (first | with_reducible exact ⟨t0d, q0d, q1d⟩ | with_reducible exact ⟨t0, q0, q1⟩ | with_reducible exact ⟨t3, q3, r3⟩ | with_reducible exact ⟨t4, q4, r4⟩ | with_reducible exact ⟨t5, q5, r5⟩)
        (first
          | (go_at_call 29
             refine (clone_calls c2 cf _ (d.drop 2) _ _ hrd.out (by rw [hdrop]; omega)).mono ?_
             rintro e w3 ⟨r, o3, rfl, s3, hv⟩
             obtain ⟨Av, capv, rfl⟩ := Own.shape hv
             have gen := Own.new_ge hv s3 hcf
             obtain ⟨oc, rc, s3c⟩ := (⟨_, Own.fresh hv s3 hcf c, s3.repaint c⟩ : ∃ oc, OwnB w3 oc c _ (d.drop 2) ∧ Stp [] _ o2 w3 oc)
             have t3 := s3.cell t0d (by simp)
             have q3 := s3.cell q0d (by simp)
             have r3 := s3.cell q1d (by simp)
             have sa : ∀ C : List Nat, Stp C w3 oc _ _ := fun C => (Stp.refl C w3 oc).alloc (.cells #[.slice Av (d.drop 2).length capv, .int .i64 N, .int .i64 1, .int .i64 now] 63) c
             have t4 := (sa []).cell t3 (by simp)
             have q4 := (sa []).cell q3 (by simp)
             have r4 := (sa []).cell r3 (by simp)
             have hz : (dropJ s id).cnt < 9223372036854775807 := by have := hdc.out; omega
             have h3e := h3d.out.stp s3c (by simp)
             obtain ⟨w5, hrun, h5, s5⟩ := JFl.put (h3e.stp (sa []) (by simp)) hw hdn.out hz w3.heap.size _ ⟨d.drop 2, N, 1, now⟩ (heap_alloc_new w3 _) (paint_at _ _ _) (OwnB.stp rc (sa []) (by simp)) (fun j e' hj => by
               have k1 := h3e.ent j e' hj
               have k2 := (Array.getElem?_eq_some_iff.1 k1.1).1
               have k3 := h3d.out.ent j e' hj
               refine ⟨by omega, fun k hk hk2 => ?_⟩
               have k4 := Own.lt k3.2.2 hk2
               have k5 := gen k hk
               omega)
             rw [hdrop] at hrun
             have t5 := h5.c0
             have hB3 : oc B = c + 1 := (s3c.colc q0d).trans hB2.out
             have hB4 : (paint oc w3.heap.size c) B = c + 1 := ((sa []).colc q3).trans hB3
             have q5 := s5.cell q4 (by rw [hB4]; exact nB.out)
             have r5 := s5.cell r4 (by rw [hB4]; exact nB.out)
             have st := Lib.hid (s2d.out.trans (s3c.none.trans ((sa [c]).trans s5)))
             replace h5 := Lib.hid h5
             replace rc := Lib.hid rc
             replace hv := Lib.hid hv
             replace h3e := Lib.hid h3e
             rw [hdrop] at t4 q4 r4
             rw [hdrop])
          | (refine step_mapUpdate _ _ _ (by rfl) (by rfl) (by rfl) (by rfl) (by rfl) hrun ?_))
      go_wp2
      go_end0
      exact Post.mk st.out ⟨rfl, _, _, h5.out⟩
  · have h8' : ((d.length : Int) != 8) = true := by simp; omega
    have hbj : beginJ s id d now = s.bad := by rw [beginJ, if_pos (.inl h8)]
    rw [hbj]
    go_enter Try.func23, Try.ntmps23
    go_wp2
    go_end0
    exact Post.mk fin.out ⟨rfl, Q, V, h1.out⟩

end Go.Proofs.Ytcbecidcfbhkfaa
