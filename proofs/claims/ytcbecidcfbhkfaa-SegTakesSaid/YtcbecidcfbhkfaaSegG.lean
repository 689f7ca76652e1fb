/- Messages that are open (chapter 15): the walk of what takes a further frame. -/
import Derived.Test.YtcbecidcfbhkfaaSegT
import Derived.Deep.RegionLaw
namespace Go.Proofs.Ytcbecidcfbhkfaa
set_option linter.unusedVariables false
set_option linter.unusedSimpArgs false
open Go.RowKit Go.ChangeMaps

def OE.ok (e : OE) : Prop := 6 ≤ e.m.length ∧ e.m.length < e.all ∧ e.all ≤ 600 ∧ 1 ≤ e.n ∧ e.n ≤ e.m.length ∧ -1000000000 ≤ e.last ∧ e.last ≤ 1000000000
def JS.ok (s : JS) : Prop := ∀ id e, s.f id = some e → e.ok
def grownE (e : OE) (d : List UInt8) (now : Int) : OE := ⟨e.m ++ d.tail, e.all, e.n + 1, now⟩
def goesJ (s : JS) (id : Int) (d : List UInt8) (now : Int) : JS × Option (List UInt8) := match s.f id with
  | none => (s.bad, none)
  | some e => if lowN d ≠ e.n % 16 ∨ d.length ≠ 1 + min 7 (e.all - e.m.length) then (dropJ s id, none)
    else if e.m.length + (d.length - 1) < e.all then (s.set id (grownE e d now), none)
    else ((s.set id (grownE e d now)).del id, some (e.m ++ d.tail))
/-- 'append' of bytes, as a run. -/
theorem appBRun {w : World} {o : Col} {c c2 n cap : Nat} {v : Value} {ad : Addr} {l m : List UInt8} (hown : OwnB w o c v l) (hrd : RdB w o c2 (.slice (some ad) n cap) m) (hn : n = m.length) (hm : 0 < m.length) (hb : l.length + m.length ≤ 140737488355328) (ty : TypeId) :
    ∃ A' cap' w' o', (Builtin.append_ #[22, 22] ty #[v, .slice (some ad) n cap]).run Try.prog w = .ok (.slice A' (l.length + m.length) cap') w' ∧ Stp [c] w o w' o' ∧ OwnB w' o' c (.slice A' (l.length + m.length) cap') (l ++ m) ∧
      ((Value.slice A' (l.length + m.length) cap').ownBlock = v.ownBlock ∨ (Value.slice A' (l.length + m.length) cap').ownBlock = some w.heap.size) ∧ w.grownBy w' v.ownBlock := by
  subst hn
  obtain ⟨i, hi, hz, hsz, hby⟩ := slB.info
  obtain ⟨hl, _, h1, A, cap2, e, hmc, hA, hcells⟩ := hrd
  injection e with e1 _ e3
  subst e1
  subst e3
  obtain ⟨a, e, _, _, hc⟩ := hcells hm
  injection e with e
  subst e
  obtain ⟨v', w', hr, o1, g1, n1, a1⟩ := run_app (P := Try.prog) w 22 ty 5 i _ 1 1 slB.under hi hz hsz hby slB.zsz slB.pos v l.length (vbs l) hown.own ad m.length cap (vbs m) hl hc h1 (by simp only [maxLen]; omega) (by omega)
  have hown' : Own w' (paint o w.heap.size c) c 5 1 v' (l.length + m.length) (vbs l ++ vbs m) := ⟨o1, fun u hu => by
    rcases List.mem_append.1 hu with hu | hu
    · exact hown.one u hu
    · exact h1 u hu, fun k hk => by
    rcases a1 with a1 | a1
    · rw [a1] at hk
      rw [paint_lt (hown.lt hk)]
      exact hown.col k hk
    · rw [a1] at hk
      injection hk with hk
      subst hk
      exact paint_at _ _ _⟩
  obtain ⟨A', cap', rfl⟩ := hown'.shape
  exact ⟨A', cap', w', _, hr, Stp.grown (Stp.refl _ _ _) g1 (fun k hk => by rw [hown.col k hk]; simp) c, by unfold OwnB; rw [vbs_append, List.length_append]; exact hown', a1, g1⟩
theorem step_delete {P : Program} {ops : Array Oper} {o : Oper} {a : Act} {K : Act → World → Prop} {Q : Exit → Act → World → Prop} {E : Prop} {w w2 : World} {t1 t2 ty : TypeId} {vx vy r : Value} (x y : Operand) (hgd : o.guard = none)
    (ho : o.op = .call { callee := .builtin .delete, args := #[x, y], argTypes := #[t1, t2] }) (hty : o.type = ty) (hx : a.eval x = vx) (hy : a.eval y = vy) (hrun : (Builtin.delete_ #[t1, t2] ty #[vx, vy]).run P w = .ok r w2) (h : K (a.put o.dst r) w2) :
    if Region.wanted o (yielded ops a.tmps) = true then Oper.wp P o a w K Q else E := by
  have hw : Region.wanted o (yielded ops a.tmps) = true := by simp [Region.wanted, hgd]
  rw [if_pos hw]
  subst hty
  unfold Oper.wp
  simp [execOp, ho, resolve, invoke, builtin, hx, hy, hrun, Result.andThen]
  exact h

theorem step_append {P : Program} {ops : Array Oper} {o : Oper} {a : Act} {K : Act → World → Prop} {Q : Exit → Act → World → Prop} {E : Prop} {w w2 : World} {t1 t2 ty : TypeId} {vx vy r : Value} (x y : Operand) (hgd : o.guard = none)
    (ho : o.op = .call { callee := .builtin .append, args := #[x, y], argTypes := #[t1, t2] }) (hty : o.type = ty) (hx : a.eval x = vx) (hy : a.eval y = vy) (hrun : (Builtin.append_ #[t1, t2] ty #[vx, vy]).run P w = .ok r w2) (h : K (a.put o.dst r) w2) :
    if Region.wanted o (yielded ops a.tmps) = true then Oper.wp P o a w K Q else E := by
  have hw : Region.wanted o (yielded ops a.tmps) = true := by simp [Region.wanted, hgd]
  rw [if_pos hw]
  subst hty
  unfold Oper.wp
  simp [execOp, ho, resolve, invoke, builtin, hx, hy, hrun, Result.andThen]
  exact h
theorem JS.set_set (s : JS) (id : Int) (e e' : OE) : (s.set id e).set id e' = s.set id e' := by
  have : upd (upd s.f id (some e)) id (some e') = upd s.f id (some e') := by
    funext i
    by_cases h : i = id
    · subst h; rw [upd_same, upd_same]
    · rw [upd_other _ _ h, upd_other _ _ h, upd_other _ _ h]
  unfold JS.set
  simp only [this]
set_option maxHeartbeats 2000000 in
set_option maxRecDepth 100000 in
theorem goes_calls (c c2 p mb : Nat) (Q : Int → Nat) (V : Int → Value) (s : JS) (id : Int) (vd : Value) (d : List UInt8) (now : Int) (w : World) (o : Col) (h : JFl w o c p mb Q V s) (hok : s.ok) (hw : (Lit.int .i64 id).wf = true) (hb : s.err ≤ 1000000) (hd : RdB w o c2 vd d) (h2 : c2 ≠ c) (h0 : 0 < d.length) (hl : d.length ≤ 1000000) :
    Calls Try.prog 24 #[.pointer (some ⟨p, 0, none⟩), .agg #[.int .i64 id, vd], .int .i64 now] w (Post [c] w o fun r w' o' => ∃ v, r = .tuple #[v, .bool (goesJ s id d now).2.isSome] ∧ RdB w' o' c v ((goesJ s id d now).2.getD []) ∧ ∃ Q' V', JFl w' o' c p mb Q' V' (goesJ s id d now).1) := by
  obtain ⟨A, cap, rfl, hlc, hA⟩ := hd.shape
  have s0 : Stp [] w o (w.alloc (.cells #[.int .i64 id, .slice A d.length cap] 37)) (paint o w.heap.size (c + 1)) := (Stp.refl [] w o).alloc _ (c + 1)
  have hB := heap_alloc_new w (.cells #[.int .i64 id, .slice A d.length cap] 37)
  have hO : paint o w.heap.size (c + 1) w.heap.size = c + 1 := paint_at _ _ _
  replace h := h.stp s0 (by simp)
  replace hd := hd.stp s0 (by simp)
  obtain ⟨w1, hw1⟩ : ∃ w1, w.alloc (.cells #[.int .i64 id, .slice A d.length cap] 37) = w1 := ⟨_, rfl⟩
  obtain ⟨o1, ho1⟩ : ∃ o1, paint o w.heap.size (c + 1) = o1 := ⟨_, rfl⟩
  obtain ⟨B, hBB⟩ : ∃ B, w.heap.size = B := ⟨_, rfl⟩
  rw [hw1, ho1] at s0 h hd
  rw [hw1, hBB] at hB
  rw [ho1, hBB] at hO
  have b0 : w1.cell? ⟨B, 0, none⟩ = some (.int .i64 id) := blk_cell hB 0
  have b1 : w1.cell? ⟨B, 1, none⟩ = some (.slice A d.length cap) := blk_cell hB 1
  have c0 := h.c0
  have c1 := h.c1
  have fr1 := blk_free h.blk 1
  have nB : ¬ (c + 1) ∈ [c] := by simp
  have n2 : ¬ c2 ∈ [c] := by simpa using h2
  have hlk : ∀ k, (Instr.lookup 58 (.map (some mb)) (.int .i64 id) false).run Try.prog (w1.drewN k) = .ok (ptrV Q s.f id) (w1.drewN k) := fun k => JFl.look (h.stp ((Stp.refl [] w1 o1).drewN k) (by simp)) hw
  have key : ∀ k k', JFl ((w1.drewN k).drewN k') o1 c p mb Q V s ∧ RdB ((w1.drewN k).drewN k') o1 c2 (.slice A d.length cap) d ∧ Stp [] w o ((w1.drewN k).drewN k') o1 ∧ ((w1.drewN k).drewN k').cell? ⟨B, 0, none⟩ = some (.int .i64 id) ∧ ((w1.drewN k).drewN k').cell? ⟨B, 1, none⟩ = some (.slice A d.length cap) := fun k k' =>
    ⟨h.stp (((Stp.refl [] w1 o1).drewN k).drewN k') (by simp), hd.stp (((Stp.refl [] w1 o1).drewN k).drewN k') (by simp), (s0.drewN k).drewN k', b0, b1⟩
  replace key := Lib.hid key
  have hJ := Lib.hid (fun k => h.stp ((Stp.refl [] w1 o1).drewN k) (by simp))
  have hS := Lib.hid (fun k => s0.drewN k)
  have hR := Lib.hid (fun k => hd.stp ((Stp.refl [] w1 o1).drewN k) (by simp))
  replace hO := Lib.hid hO
  replace hB := Lib.hid hB
  replace ho1 := Lib.hid ho1
  replace nB := Lib.hid nB
  cases hf : s.f id with
  | none =>
    rw [show ptrV Q s.f id = .pointer none from by rw [ptrV, hf]] at hlk
    rw [show goesJ s id d now = (s.bad, none) from by rw [goesJ, hf]]
    replace h := Lib.hid h
    replace hd := Lib.hid hd
    go_enter Try.func24, Try.ntmps24
    go_wp2_with fail
    go_quiet (fail)
    go_wp2
    refine bodyPost_ret (results_tmp2 rfl _ _ _) rfl ?_
    exact Post.mk ((hS.out nq).none.trans (hJ.out nq).bad.2) ⟨_, rfl, RdB.nil _ _ _, Q, V, (hJ.out nq).bad.1⟩
  | some e =>
    rw [show ptrV Q s.f id = .pointer (some ⟨Q id, 0, none⟩) from by rw [ptrV, hf]] at hlk
    have hek := hok id e hf
    obtain ⟨hq, hqc, hrow⟩ := h.ent id e hf
    obtain ⟨a, rfl, hc0⟩ := hd.at_ h0
    rw [head_at h0, show a.add 0 = a from rfl] at hc0
    obtain ⟨Av, capv, hV⟩ := Own.shape hrow
    rw [hV] at hq hrow
    obtain ⟨q, hQ⟩ : ∃ q, Q id = q := ⟨_, rfl⟩
    rw [hQ] at hq hqc hlk
    obtain ⟨em, eall, en, elast⟩ := e
    obtain ⟨u1, u2, u3, u4, u5, u6, u7⟩ := hek
    dsimp only at u1 u2 u3 u4 u5 u6 u7 hq hrow hV
    have k0 : w1.cell? ⟨q, 0, none⟩ = some (.slice Av em.length capv) := blk_cell hq 0
    have k1 : w1.cell? ⟨q, 1, none⟩ = some (.int .i64 eall) := blk_cell hq 1
    have k2 : w1.cell? ⟨q, 2, none⟩ = some (.int .i64 en) := blk_cell hq 2
    have hx := and15 (d.headD 0)
    obtain ⟨n, hn⟩ : ∃ n, (d.headD 0).toNat % 16 = n := ⟨_, rfl⟩
    have hn16 : n < 16 := by omega
    rw [hn] at hx
    have hlow : lowN d = n := hn
    obtain ⟨x, hx0⟩ : ∃ x, d.headD 0 = x := ⟨_, rfl⟩
    rw [hx0] at hx hc0
    obtain ⟨mm, hmm⟩ : ∃ mm, em.length = mm := ⟨_, rfl⟩
    have hgo : goesJ s id d now = if n ≠ en % 16 ∨ d.length ≠ 1 + min 7 (eall - mm) then (dropJ s id, none) else if mm + (d.length - 1) < eall then (s.set id (grownE ⟨em, eall, en, elast⟩ d now), none) else ((s.set id (grownE ⟨em, eall, en, elast⟩ d now)).del id, some (em ++ d.tail)) := by
      rw [goesJ, hf]
      show (if lowN d ≠ en % 16 ∨ d.length ≠ 1 + min 7 (eall - em.length) then _ else if em.length + (d.length - 1) < eall then _ else _) = _
      rw [hlow, hmm]
    rw [hmm] at k0 hq hrow u1 u2 u5 hV
    have n16 : (0 : Int) ≤ (n : Int) ∧ (n : Int) < 16 := by omega
    have v1 : (0 : Int) ≤ (eall : Int) ∧ (eall : Int) ≤ 600 := by omega
    have v2 : (0 : Int) ≤ (mm : Int) ∧ (mm : Int) < (eall : Int) := by omega
    have v3 : (1 : Int) ≤ (en : Int) ∧ (en : Int) ≤ 600 := by omega
    have v4 : (1 : Int) ≤ (d.length : Int) ∧ (d.length : Int) ≤ 1000000 := by omega
    replace hd := Lib.hid hd
    replace h := Lib.hid h
    replace hn := Lib.hid hn
    replace hx0 := Lib.hid hx0
    replace hlow := Lib.hid hlow
    replace hmm := Lib.hid hmm
    replace hV := Lib.hid hV
    replace hrow := Lib.hid hrow
    replace hq := Lib.hid hq
    replace hqc := Lib.hid hqc
    replace hf := Lib.hid hf
    replace hQ := Lib.hid hQ
    rw [hgo]
    clear hgo hok
    -- what stands behind the append
    have tail : ∀ w2, 1 < d.length → JFl w2 o1 c p mb Q V s → RdB w2 o1 c2 (.slice (some a) d.length cap) d → Stp [] w o w2 o1 → w2.cell? ⟨B, 0, none⟩ = some (.int .i64 id) → w2.cell? ⟨B, 1, none⟩ = some (.slice (some a) d.length cap) →
        ∃ A' cap' w4 o4, (Builtin.append_ #[22, 22] 22 #[.slice Av mm capv, .slice (some ⟨a.block, a.off + 1, none⟩) (d.length - 1) (cap - 1)]).run Try.prog w2.drew = .ok (.slice A' (mm + (d.length - 1)) cap') w4 ∧
          JFl (w4.setCell ⟨q, 0, none⟩ (.slice A' (mm + (d.length - 1)) cap')) o4 c p mb Q (upd V id (.slice A' (mm + (d.length - 1)) cap')) (s.set id ⟨em ++ d.tail, eall, en, elast⟩) ∧ Stp [c] w o (w4.setCell ⟨q, 0, none⟩ (.slice A' (mm + (d.length - 1)) cap')) o4 ∧ w4.frozen? ⟨q, 0, none⟩ = false ∧ w4.cell? ⟨q, 0, none⟩ = some (.slice Av mm capv) ∧ o4 B = c + 1 ∧
          w4.cell? ⟨B, 0, none⟩ = some (.int .i64 id) ∧ w4.cell? ⟨B, 1, none⟩ = some (.slice (some a) d.length cap) ∧ B ≠ q := by
      intro w2 h1 hJ2 hR2 hS2 q0 q1
      have hJ3 := hJ2.stp (Stp.refl [] w2 o1).drew (by simp)
      have hR3 := RdB.drop (hR2.stp (Stp.refl [] w2 o1).drew (by simp)) 1 (by omega) (by omega) rfl
      obtain ⟨g1, g2, g3⟩ := hJ3.ent id _ hf.out
      rw [hV.out] at g1 g3
      have hdl : (d.drop 1).length = d.length - 1 := by simp
      have hml := hmm.out
      obtain ⟨A', cap', w4, o4, hrun, st, ho, hal, hg⟩ := appBRun g3 hR3 (by simp) (by omega) (by simp only [hdl]; omega) 22
      rw [hdl] at hrun ho hal
      dsimp only at hrun ho hal
      rw [hml] at hrun ho hal
      have hgg : w2.drew.grownBy w4 (V id).ownBlock := by rw [hV.out]; exact hg
      have hk' : (Value.slice A' (mm + (d.length - 1)) cap').ownBlock = (V id).ownBlock ∨ (Value.slice A' (mm + (d.length - 1)) cap').ownBlock = some w2.drew.heap.size := by rw [hV.out]; exact hal
      obtain ⟨J5, S5⟩ := hJ3.grow hf.out _ (em ++ d.drop 1) st ho hgg hk'
      rw [List.drop_one] at J5
      rw [hQ.out] at J5 S5 g1 g2
      have hb4 : w4.heap[q]? = _ := (hgg.block q (Array.getElem?_eq_some_iff.1 g1).1 (fun e1 => by rw [hV.out] at e1; exact Own.ne g3 g1 (by decide) e1.symm)).trans g1
      refine ⟨A', cap', w4, o4, hrun, J5, (hS2.drew).none.trans S5, blk_free hb4 0, blk_cell hb4 0, (st.colc (show w2.drew.cell? ⟨B, 0, none⟩ = _ from q0)).trans hO.out, st.cell (show w2.drew.cell? ⟨B, 0, none⟩ = _ from q0) (by rw [hO.out]; exact nB.out), st.cell (show w2.drew.cell? ⟨B, 1, none⟩ = _ from q1) (by rw [hO.out]; exact nB.out), fun e => ?_⟩
      have := hO.out
      rw [e, g2] at this
      omega
    have fin : ∀ w5 o5 A' cap', JFl w5 o5 c p mb Q (upd V id (.slice A' (mm + (d.length - 1)) cap')) (s.set id ⟨em ++ d.tail, eall, en, elast⟩) →
        JFl ((w5.setCell ⟨q, 2, none⟩ (.int .i64 ((en : Int) + 1))).setCell ⟨q, 3, none⟩ (.int .i64 now)) o5 c p mb Q (upd V id (.slice A' (mm + (d.length - 1)) cap')) (s.set id ⟨em ++ d.tail, eall, en + 1, now⟩) ∧
        Stp [c] w5 o5 ((w5.setCell ⟨q, 2, none⟩ (.int .i64 ((en : Int) + 1))).setCell ⟨q, 3, none⟩ (.int .i64 now)) o5 ∧
        w5.cell? ⟨q, 0, none⟩ = some (.slice A' (mm + (d.length - 1)) cap') ∧ w5.cell? ⟨q, 1, none⟩ = some (.int .i64 eall) ∧ w5.cell? ⟨q, 2, none⟩ = some (.int .i64 en) ∧ w5.cell? ⟨q, 3, none⟩ = some (.int .i64 elast) ∧
        w5.frozen? ⟨q, 2, none⟩ = false ∧ w5.frozen? ⟨q, 3, none⟩ = false := by
      intro w5 o5 A' cap' J5
      have hh : (s.set id ⟨em ++ d.tail, eall, en, elast⟩).f id = some ⟨em ++ d.tail, eall, en, elast⟩ := upd_same _ _ _
      obtain ⟨g1, g2, g3⟩ := J5.ent id _ hh
      rw [upd_same] at g1
      rw [hQ.out] at g1
      obtain ⟨J6, S6⟩ := J5.setO hh ⟨em ++ d.tail, eall, en + 1, elast⟩ rfl 2 (.int .i64 ((en : Int) + 1)) (by rw [upd_same]; rfl)
      rw [JS.set_set] at J6
      have hh6 : (s.set id ⟨em ++ d.tail, eall, en + 1, elast⟩).f id = some ⟨em ++ d.tail, eall, en + 1, elast⟩ := upd_same _ _ _
      obtain ⟨J7, S7⟩ := J6.setO hh6 ⟨em ++ d.tail, eall, en + 1, now⟩ rfl 3 (.int .i64 now) (by rw [upd_same]; rfl)
      rw [JS.set_set] at J7
      rw [hQ.out] at J7 S7 S6
      exact ⟨J7, S6.trans S7, blk_cell g1 0, blk_cell g1 1, blk_cell g1 2, blk_cell g1 3, blk_free g1 2, blk_free g1 3⟩
    have fin2 : ∀ w7 o7 A' cap' k, JFl w7 o7 c p mb Q (upd V id (.slice A' (mm + (d.length - 1)) cap')) (s.set id ⟨em ++ d.tail, eall, en + 1, now⟩) →
        ∃ w9, (Builtin.delete_ #[58, 3] 0 #[.map (some mb), .int .i64 id]).run Try.prog (w7.drewN k).drew = .ok (.tuple #[]) w9 ∧ JFl w9 o7 c p mb Q (upd V id (.slice A' (mm + (d.length - 1)) cap')) ((s.set id ⟨em ++ d.tail, eall, en + 1, now⟩).del id) ∧ Stp [c] w7 o7 w9 o7 ∧
          w9.cell? ⟨q, 0, none⟩ = some (.slice A' (mm + (d.length - 1)) cap') ∧ RdB w9 o7 c (.slice A' (mm + (d.length - 1)) cap') (em ++ d.tail) := by
      intro w7 o7 A' cap' k J7
      have J8 := (J7.stp ((Stp.refl [] w7 o7).drewN k) (by simp)).stp (Stp.refl [] _ o7).drew (by simp)
      have hh : (s.set id ⟨em ++ d.tail, eall, en + 1, now⟩).f id = some ⟨em ++ d.tail, eall, en + 1, now⟩ := upd_same _ _ _
      obtain ⟨g1, g2, g3⟩ := J8.ent id _ hh
      rw [upd_same] at g1 g3
      rw [hQ.out] at g1
      obtain ⟨D, hD⟩ := J8.map
      obtain ⟨es, clock, hb⟩ := hD.blk
      obtain ⟨w9, hrun, J9, S9, hoth⟩ := J8.del hw hh 0
      refine ⟨w9, hrun, J9, (((Stp.refl [c] w7 o7).drewN k).drew).trans S9, ?_, OwnB.rd ?_⟩
      · exact blk_cell ((hoth _ (map_ne g1 hb)).trans g1) 0
      · exact Own.keep g3 (fun kk hk => ⟨hoth _ (fun e1 => own_ne g3 hb (by rw [hk, e1])), g3.col kk hk⟩)
    obtain ⟨M2, hm2⟩ : ∃ M2, mm + (d.length - 1) = M2 := ⟨_, rfl⟩
    have v5 : (0 : Int) ≤ (M2 : Int) ∧ (M2 : Int) ≤ 2000000 := by omega
    rw [hm2] at tail fin fin2 ⊢
    replace tail := Lib.hid tail
    replace fin := Lib.hid fin
    replace fin2 := Lib.hid fin2
    replace hm2 := Lib.hid hm2
    by_cases hnum : n = en % 16
    · have hg : ((n : Int) != (en : Int) % 16) = false := by simp; omega
      have hrem : 7 ≤ eall - mm ∨ eall - mm < 7 := by omega
      replace hnum := Lib.hid hnum
      rcases hrem with hrem | hrem
      · have m1 : decide ((eall : Int) - (mm : Int) < 7) = false := decide_eq_false (by omega)
        have m2 : (7 : Int) ≤ (eall : Int) - (mm : Int) := by omega
        rw [show min 7 (eall - mm) = 7 from by omega]
        by_cases hlen : d.length = 1 + 7
        · have hg2 : ((d.length : Int) - 1 != 7) = false := by simp; omega
          rw [if_neg (by have := hnum.out; omega)]
          have hd1 : 1 < d.length := by omega
          have hcap1 : cap ≠ 1 := by omega
          by_cases hcmp : M2 < eall
          · rw [if_pos hcmp]
            replace hlen := Lib.hid hlen
            go_enter Try.func24, Try.ntmps24
            go_wp2_with fail
            go_quiet (fail)
            obtain ⟨j1, rfl⟩ : ∃ j, j = nq := ⟨_, rfl⟩
            go_wp2_with fail
            go_quiet (fail)
            obtain ⟨w2, hw2⟩ : ∃ w2, (w1.drewN j1).drewN nq = w2 := ⟨_, rfl⟩
            obtain ⟨hJ2, hR2, hS2, q0, q1⟩ := key.out j1 nq
            rw [hw2] at hJ2 hR2 hS2 q0 q1
            obtain ⟨A', cap', w4, o4, hrun, J5, S5, fz4, kz4, hcol, b4, p4, hBq⟩ := tail.out w2 hd1 hJ2 hR2 hS2 q0 q1
            obtain ⟨J7, S7, e0, e1, e2, e3, e4, e5⟩ := fin.out _ _ _ _ J5
            obtain ⟨gq1, _, _⟩ := hJ2.ent id _ hf.out
            rw [hV.out, hQ.out] at gq1
            have k0' : w2.cell? ⟨q, 0, none⟩ = some (.slice Av mm capv) := blk_cell gq1 0
            have k0d : w2.drew.cell? ⟨q, 0, none⟩ = some (.slice Av mm capv) := k0'
            have q1d : w2.drew.cell? ⟨B, 1, none⟩ = some (.slice (some a) d.length cap) := q1
            replace gq1 := Lib.hid gq1
            replace hcol := Lib.hid hcol
            replace hJ2 := Lib.hid hJ2
            replace hS2 := Lib.hid hS2
            replace hR2 := Lib.hid hR2
            replace J5 := Lib.hid J5
            replace S5 := Lib.hid S5
            replace J7 := Lib.hid J7
            replace S7 := Lib.hid S7
            go_wp2_with fail
            go_region_law (refine step_append _ _ rfl (by rfl) (by rfl) (by rfl) (by rfl) hrun ?_)
            all_goals
              go_wp2_with fail
              obtain ⟨w7, hw7⟩ : ∃ w7, ((w4.setCell ⟨q, 0, none⟩ (.slice A' M2 cap')).setCell ⟨q, 2, none⟩ (.int .i64 ((en : Int) + 1))).setCell ⟨q, 3, none⟩ (.int .i64 now) = w7 := ⟨_, rfl⟩
              have x7 := J7.out
              have y7 := S7.out
              rw [hw7] at x7 y7 ⊢
              obtain ⟨gx, _, _⟩ := x7.ent id _ (upd_same _ _ _)
              rw [upd_same, hQ.out] at gx
              have f0 : w7.cell? ⟨q, 0, none⟩ = some (.slice A' M2 cap') := blk_cell gx 0
              have f1 : w7.cell? ⟨q, 1, none⟩ = some (.int .i64 eall) := blk_cell gx 1
              have f2 := x7.c0
              have f3 : w7.cell? ⟨B, 0, none⟩ = some (.int .i64 id) := by
                rw [← hw7, World.cell?_setCell_other _ _ _ _ (by simp [hBq]), World.cell?_setCell_other _ _ _ _ (by simp [hBq]), World.cell?_setCell_other _ _ _ _ (by simp [hBq])]
                exact b4
              have st7 := Lib.hid (S5.out.trans y7)
              replace x7 := Lib.hid x7
              replace y7 := Lib.hid y7
              replace gx := Lib.hid gx
              replace hw7 := Lib.hid hw7
              clear e0 e1 e2 e3 e4 e5 fz4 kz4 b4 p4 hrun
              have hc1 : decide ((M2 : Int) < (eall : Int)) = true := decide_eq_true (by omega)
              go_quiet (fail)
              go_wp2
              refine bodyPost_ret (results_tmp2 rfl _ _ _) rfl ?_
              exact Post.mk (st7.out.drewN nq) ⟨_, rfl, RdB.nil _ _ _, Q, _, x7.out.stp ((Stp.refl [] w7 o4).drewN nq) (by simp)⟩
          · rw [if_neg hcmp]
            replace hlen := Lib.hid hlen
            go_enter Try.func24, Try.ntmps24
            go_wp2_with fail
            go_quiet (fail)
            obtain ⟨j1, rfl⟩ : ∃ j, j = nq := ⟨_, rfl⟩
            go_wp2_with fail
            go_quiet (fail)
            obtain ⟨w2, hw2⟩ : ∃ w2, (w1.drewN j1).drewN nq = w2 := ⟨_, rfl⟩
            obtain ⟨hJ2, hR2, hS2, q0, q1⟩ := key.out j1 nq
            rw [hw2] at hJ2 hR2 hS2 q0 q1
            obtain ⟨A', cap', w4, o4, hrun, J5, S5, fz4, kz4, hcol, b4, p4, hBq⟩ := tail.out w2 hd1 hJ2 hR2 hS2 q0 q1
            obtain ⟨J7, S7, e0, e1, e2, e3, e4, e5⟩ := fin.out _ _ _ _ J5
            obtain ⟨gq1, _, _⟩ := hJ2.ent id _ hf.out
            rw [hV.out, hQ.out] at gq1
            have k0' : w2.cell? ⟨q, 0, none⟩ = some (.slice Av mm capv) := blk_cell gq1 0
            have k0d : w2.drew.cell? ⟨q, 0, none⟩ = some (.slice Av mm capv) := k0'
            have q1d : w2.drew.cell? ⟨B, 1, none⟩ = some (.slice (some a) d.length cap) := q1
            replace gq1 := Lib.hid gq1
            replace hcol := Lib.hid hcol
            replace hJ2 := Lib.hid hJ2
            replace hS2 := Lib.hid hS2
            replace hR2 := Lib.hid hR2
            replace J5 := Lib.hid J5
            replace S5 := Lib.hid S5
            replace J7 := Lib.hid J7
            replace S7 := Lib.hid S7
            go_wp2_with fail
            go_region_law (refine step_append _ _ rfl (by rfl) (by rfl) (by rfl) (by rfl) hrun ?_)
            all_goals
              go_wp2_with fail
              obtain ⟨w7, hw7⟩ : ∃ w7, ((w4.setCell ⟨q, 0, none⟩ (.slice A' M2 cap')).setCell ⟨q, 2, none⟩ (.int .i64 ((en : Int) + 1))).setCell ⟨q, 3, none⟩ (.int .i64 now) = w7 := ⟨_, rfl⟩
              have x7 := J7.out
              have y7 := S7.out
              rw [hw7] at x7 y7 ⊢
              obtain ⟨gx, _, _⟩ := x7.ent id _ (upd_same _ _ _)
              rw [upd_same, hQ.out] at gx
              have f0 : w7.cell? ⟨q, 0, none⟩ = some (.slice A' M2 cap') := blk_cell gx 0
              have f1 : w7.cell? ⟨q, 1, none⟩ = some (.int .i64 eall) := blk_cell gx 1
              have f2 := x7.c0
              have f3 : w7.cell? ⟨B, 0, none⟩ = some (.int .i64 id) := by
                rw [← hw7, World.cell?_setCell_other _ _ _ _ (by simp [hBq]), World.cell?_setCell_other _ _ _ _ (by simp [hBq]), World.cell?_setCell_other _ _ _ _ (by simp [hBq])]
                exact b4
              have st7 := Lib.hid (S5.out.trans y7)
              replace x7 := Lib.hid x7
              replace y7 := Lib.hid y7
              replace gx := Lib.hid gx
              replace hw7 := Lib.hid hw7
              clear e0 e1 e2 e3 e4 e5 fz4 kz4 b4 p4 hrun
              have hc1 : decide ((M2 : Int) < (eall : Int)) = false := decide_eq_false (by omega)
              go_quiet (fail)
              obtain ⟨w9, hrun9, J9, S9, z9, r9⟩ := fin2.out w7 o4 A' cap' nq x7.out
              replace J9 := Lib.hid J9
              replace S9 := Lib.hid S9
              replace r9 := Lib.hid r9
              go_wp2_with fail
              go_region_law (refine step_delete _ _ rfl (by rfl) (by rfl) (by rfl) (by rfl) hrun9 ?_)
              all_goals
                go_wp2
                refine bodyPost_ret (results_tmp2 rfl _ _ _) rfl ?_
                exact Post.mk (st7.out.trans S9.out) ⟨_, rfl, r9.out, Q, _, J9.out⟩
        · have hg2 : ((d.length : Int) - 1 != 7) = true := by simp; omega
          rw [if_pos (by omega)]
          go_enter Try.func24, Try.ntmps24
          go_wp2_with fail
          go_quiet (fail)
          obtain ⟨j1, rfl⟩ : ∃ j, j = nq := ⟨_, rfl⟩
          go_wp2_with fail
          go_quiet (fail)
          obtain ⟨w2, hw2⟩ : ∃ w2, (w1.drewN j1).drewN nq = w2 := ⟨_, rfl⟩
          obtain ⟨hJ2, hR2, hS2, q0, q1⟩ := key.out j1 nq
          rw [hw2] at hJ2 hR2 hS2 q0 q1
          replace hJ2 := Lib.hid hJ2
          go_wp2_with fail
          refine (drops_calls c p mb Q V s id _ _ hJ2.out hw hb).mono ?_
          rintro e w3 ⟨r, o3, rfl, s3, rfl, h3⟩
          have st := Lib.hid (hS2.none.trans s3)
          replace h3 := Lib.hid h3
          clear s3 hS2 hR2
          go_wp2
          refine bodyPost_ret (results_tmp2 rfl _ _ _) rfl ?_
          exact Post.mk st.out ⟨_, rfl, RdB.nil _ _ _, Q, V, h3.out⟩
      · have m1 : decide ((eall : Int) - (mm : Int) < 7) = true := decide_eq_true (by omega)
        have m2 : (eall : Int) - (mm : Int) < 7 := by omega
        have m3 : ¬ ((7 : Int) ≤ (eall : Int) - (mm : Int)) := by omega
        rw [show min 7 (eall - mm) = eall - mm from by omega]
        by_cases hlen : d.length = 1 + (eall - mm)
        · have hg2 : ((d.length : Int) - 1 != (eall : Int) - (mm : Int)) = false := by simp; omega
          rw [if_neg (by have := hnum.out; omega)]
          have hd1 : 1 < d.length := by omega
          have hcap1 : cap ≠ 1 := by omega
          by_cases hcmp : M2 < eall
          · rw [if_pos hcmp]
            replace hlen := Lib.hid hlen
            go_enter Try.func24, Try.ntmps24
            go_wp2_with fail
            go_quiet (fail)
            obtain ⟨j1, rfl⟩ : ∃ j, j = nq := ⟨_, rfl⟩
            go_wp2_with fail
            go_quiet (fail)
            obtain ⟨w2, hw2⟩ : ∃ w2, (w1.drewN j1).drewN nq = w2 := ⟨_, rfl⟩
            obtain ⟨hJ2, hR2, hS2, q0, q1⟩ := key.out j1 nq
            rw [hw2] at hJ2 hR2 hS2 q0 q1
            obtain ⟨A', cap', w4, o4, hrun, J5, S5, fz4, kz4, hcol, b4, p4, hBq⟩ := tail.out w2 hd1 hJ2 hR2 hS2 q0 q1
            obtain ⟨J7, S7, e0, e1, e2, e3, e4, e5⟩ := fin.out _ _ _ _ J5
            obtain ⟨gq1, _, _⟩ := hJ2.ent id _ hf.out
            rw [hV.out, hQ.out] at gq1
            have k0' : w2.cell? ⟨q, 0, none⟩ = some (.slice Av mm capv) := blk_cell gq1 0
            have k0d : w2.drew.cell? ⟨q, 0, none⟩ = some (.slice Av mm capv) := k0'
            have q1d : w2.drew.cell? ⟨B, 1, none⟩ = some (.slice (some a) d.length cap) := q1
            replace gq1 := Lib.hid gq1
            replace hcol := Lib.hid hcol
            replace hJ2 := Lib.hid hJ2
            replace hS2 := Lib.hid hS2
            replace hR2 := Lib.hid hR2
            replace J5 := Lib.hid J5
            replace S5 := Lib.hid S5
            replace J7 := Lib.hid J7
            replace S7 := Lib.hid S7
            go_wp2_with fail
            go_region_law (refine step_append _ _ rfl (by rfl) (by rfl) (by rfl) (by rfl) hrun ?_)
            all_goals
              go_wp2_with fail
              obtain ⟨w7, hw7⟩ : ∃ w7, ((w4.setCell ⟨q, 0, none⟩ (.slice A' M2 cap')).setCell ⟨q, 2, none⟩ (.int .i64 ((en : Int) + 1))).setCell ⟨q, 3, none⟩ (.int .i64 now) = w7 := ⟨_, rfl⟩
              have x7 := J7.out
              have y7 := S7.out
              rw [hw7] at x7 y7 ⊢
              obtain ⟨gx, _, _⟩ := x7.ent id _ (upd_same _ _ _)
              rw [upd_same, hQ.out] at gx
              have f0 : w7.cell? ⟨q, 0, none⟩ = some (.slice A' M2 cap') := blk_cell gx 0
              have f1 : w7.cell? ⟨q, 1, none⟩ = some (.int .i64 eall) := blk_cell gx 1
              have f2 := x7.c0
              have f3 : w7.cell? ⟨B, 0, none⟩ = some (.int .i64 id) := by
                rw [← hw7, World.cell?_setCell_other _ _ _ _ (by simp [hBq]), World.cell?_setCell_other _ _ _ _ (by simp [hBq]), World.cell?_setCell_other _ _ _ _ (by simp [hBq])]
                exact b4
              have st7 := Lib.hid (S5.out.trans y7)
              replace x7 := Lib.hid x7
              replace y7 := Lib.hid y7
              replace gx := Lib.hid gx
              replace hw7 := Lib.hid hw7
              clear e0 e1 e2 e3 e4 e5 fz4 kz4 b4 p4 hrun
              have hc1 : decide ((M2 : Int) < (eall : Int)) = true := decide_eq_true (by omega)
              go_quiet (fail)
              go_wp2
              refine bodyPost_ret (results_tmp2 rfl _ _ _) rfl ?_
              exact Post.mk (st7.out.drewN nq) ⟨_, rfl, RdB.nil _ _ _, Q, _, x7.out.stp ((Stp.refl [] w7 o4).drewN nq) (by simp)⟩
          · rw [if_neg hcmp]
            replace hlen := Lib.hid hlen
            go_enter Try.func24, Try.ntmps24
            go_wp2_with fail
            go_quiet (fail)
            obtain ⟨j1, rfl⟩ : ∃ j, j = nq := ⟨_, rfl⟩
            go_wp2_with fail
            go_quiet (fail)
            obtain ⟨w2, hw2⟩ : ∃ w2, (w1.drewN j1).drewN nq = w2 := ⟨_, rfl⟩
            obtain ⟨hJ2, hR2, hS2, q0, q1⟩ := key.out j1 nq
            rw [hw2] at hJ2 hR2 hS2 q0 q1
            obtain ⟨A', cap', w4, o4, hrun, J5, S5, fz4, kz4, hcol, b4, p4, hBq⟩ := tail.out w2 hd1 hJ2 hR2 hS2 q0 q1
            obtain ⟨J7, S7, e0, e1, e2, e3, e4, e5⟩ := fin.out _ _ _ _ J5
            obtain ⟨gq1, _, _⟩ := hJ2.ent id _ hf.out
            rw [hV.out, hQ.out] at gq1
            have k0' : w2.cell? ⟨q, 0, none⟩ = some (.slice Av mm capv) := blk_cell gq1 0
            have k0d : w2.drew.cell? ⟨q, 0, none⟩ = some (.slice Av mm capv) := k0'
            have q1d : w2.drew.cell? ⟨B, 1, none⟩ = some (.slice (some a) d.length cap) := q1
            replace gq1 := Lib.hid gq1
            replace hcol := Lib.hid hcol
            replace hJ2 := Lib.hid hJ2
            replace hS2 := Lib.hid hS2
            replace hR2 := Lib.hid hR2
            replace J5 := Lib.hid J5
            replace S5 := Lib.hid S5
            replace J7 := Lib.hid J7
            replace S7 := Lib.hid S7
            go_wp2_with fail
            go_region_law (refine step_append _ _ rfl (by rfl) (by rfl) (by rfl) (by rfl) hrun ?_)
            all_goals
              go_wp2_with fail
              obtain ⟨w7, hw7⟩ : ∃ w7, ((w4.setCell ⟨q, 0, none⟩ (.slice A' M2 cap')).setCell ⟨q, 2, none⟩ (.int .i64 ((en : Int) + 1))).setCell ⟨q, 3, none⟩ (.int .i64 now) = w7 := ⟨_, rfl⟩
              have x7 := J7.out
              have y7 := S7.out
              rw [hw7] at x7 y7 ⊢
              obtain ⟨gx, _, _⟩ := x7.ent id _ (upd_same _ _ _)
              rw [upd_same, hQ.out] at gx
              have f0 : w7.cell? ⟨q, 0, none⟩ = some (.slice A' M2 cap') := blk_cell gx 0
              have f1 : w7.cell? ⟨q, 1, none⟩ = some (.int .i64 eall) := blk_cell gx 1
              have f2 := x7.c0
              have f3 : w7.cell? ⟨B, 0, none⟩ = some (.int .i64 id) := by
                rw [← hw7, World.cell?_setCell_other _ _ _ _ (by simp [hBq]), World.cell?_setCell_other _ _ _ _ (by simp [hBq]), World.cell?_setCell_other _ _ _ _ (by simp [hBq])]
                exact b4
              have st7 := Lib.hid (S5.out.trans y7)
              replace x7 := Lib.hid x7
              replace y7 := Lib.hid y7
              replace gx := Lib.hid gx
              replace hw7 := Lib.hid hw7
              clear e0 e1 e2 e3 e4 e5 fz4 kz4 b4 p4 hrun
              have hc1 : decide ((M2 : Int) < (eall : Int)) = false := decide_eq_false (by omega)
              go_quiet (fail)
              obtain ⟨w9, hrun9, J9, S9, z9, r9⟩ := fin2.out w7 o4 A' cap' nq x7.out
              replace J9 := Lib.hid J9
              replace S9 := Lib.hid S9
              replace r9 := Lib.hid r9
              go_wp2_with fail
              go_region_law (refine step_delete _ _ rfl (by rfl) (by rfl) (by rfl) (by rfl) hrun9 ?_)
              all_goals
                go_wp2
                refine bodyPost_ret (results_tmp2 rfl _ _ _) rfl ?_
                exact Post.mk (st7.out.trans S9.out) ⟨_, rfl, r9.out, Q, _, J9.out⟩
        · have hg2 : ((d.length : Int) - 1 != (eall : Int) - (mm : Int)) = true := by simp; omega
          rw [if_pos (by omega)]
          go_enter Try.func24, Try.ntmps24
          go_wp2_with fail
          go_quiet (fail)
          obtain ⟨j1, rfl⟩ : ∃ j, j = nq := ⟨_, rfl⟩
          go_wp2_with fail
          go_quiet (fail)
          obtain ⟨w2, hw2⟩ : ∃ w2, (w1.drewN j1).drewN nq = w2 := ⟨_, rfl⟩
          obtain ⟨hJ2, hR2, hS2, q0, q1⟩ := key.out j1 nq
          rw [hw2] at hJ2 hR2 hS2 q0 q1
          replace hJ2 := Lib.hid hJ2
          go_wp2_with fail
          refine (drops_calls c p mb Q V s id _ _ hJ2.out hw hb).mono ?_
          rintro e w3 ⟨r, o3, rfl, s3, rfl, h3⟩
          have st := Lib.hid (hS2.none.trans s3)
          replace h3 := Lib.hid h3
          clear s3 hS2 hR2
          go_wp2
          refine bodyPost_ret (results_tmp2 rfl _ _ _) rfl ?_
          exact Post.mk st.out ⟨_, rfl, RdB.nil _ _ _, Q, V, h3.out⟩
    · have hg : ((n : Int) != (en : Int) % 16) = true := by simp; omega
      rw [if_pos (.inl hnum)]
      replace hnum := Lib.hid hnum
      go_enter Try.func24, Try.ntmps24
      go_wp2_with fail
      go_quiet (fail)
      obtain ⟨j1, rfl⟩ : ∃ j, j = nq := ⟨_, rfl⟩
      go_wp2_with fail
      go_quiet (fail)
      obtain ⟨w2, hw2⟩ : ∃ w2, (w1.drewN j1).drewN nq = w2 := ⟨_, rfl⟩
      obtain ⟨hJ2, hR2, hS2, q0, q1⟩ := key.out j1 nq
      rw [hw2] at hJ2 hR2 hS2 q0 q1
      replace hJ2 := Lib.hid hJ2
      go_wp2_with fail
      refine (drops_calls c p mb Q V s id _ _ hJ2.out hw hb).mono ?_
      rintro e w3 ⟨r, o3, rfl, s3, rfl, h3⟩
      have st := Lib.hid (hS2.none.trans s3)
      replace h3 := Lib.hid h3
      clear s3 hS2 hR2
      go_wp2
      refine bodyPost_ret (results_tmp2 rfl _ _ _) rfl ?_
      exact Post.mk st.out ⟨_, rfl, RdB.nil _ _ _, Q, V, h3.out⟩

end Go.Proofs.Ytcbecidcfbhkfaa
