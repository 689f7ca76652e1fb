/- Banks (chapter 13): state: the walk. -/
import Derived.Test.YtpjnmijfmfgdpaaBankD
import Derived.StillTailTactics
namespace Go.Proofs.Ytpjnmijfmfgdpaa
set_option linter.unusedVariables false
set_option linter.unusedSimpArgs false
open Go.RowKit

theorem loadVar_cells {w : World} (ty : TypeId) (ad : Addr) (cs : List Value) (d : TypeDesc) (hc : ∀ (j : Nat) (u : Value), cs[j]? = some u → w.cell? (ad.add j) = some u) (hu : Try.prog.underlying ty = some d) (hd : d.isRow = true) (hi : (Try.prog.info? ty).map (·.size) = some cs.length) : (loadVar ty ad).run Try.prog w = .ok (.agg cs.toArray) w := by
  have hl : (loadCells ad cs.length).run Try.prog w = .ok cs.toArray w := run_loadCells_list (P := Try.prog) w ad cs hc
  cases hq : Try.prog.info? ty with
  | none => simp [hq] at hi
  | some i =>
    have hs : i.size = cs.length := by simpa [hq] using hi
    have hagg : (isAgg ty).run Try.prog w = .ok true w := by
      unfold isAgg
      rw [Sem.run_bind, run_underlying hu w]
      cases d <;> simp_all
    simp [loadVar, Sem.run_bind, hagg, sizeOf, typeInfo, hq, hs, hl]
theorem stateRes2 {fn : Func} {a u : Tmp} (h : fn.results = #[.cell a 59, .tmp u]) (tmps : Array Value) {w : World} {o : Col} {c g : Nat} {t : BS} {vm : Value} (ht : tmps.getD a undef = .pointer (some ⟨g, 0, none⟩)) (hs : Sb w o c g t vm) :
    (results fn tmps).run Try.prog w = .ok (.tuple #[.agg (cellsBS t vm).toArray, tmps.getD u undef]) w := by
  have hr := loadVar_cells 59 ⟨g, 0, none⟩ (cellsBS t vm) _ hs.all Try.underlying59 rfl (stateInfo hs.sum)
  have ha : (asAddr (tmps.getD a undef)).run Try.prog w = .ok ⟨g, 0, none⟩ w := by rw [ht]; rfl
  rw [Array.getD_eq_getD_getElem?] at ha
  simp [results, h, Sem.run_bind, ha, hr, Result.andThen]
theorem stateRes3 {fn : Func} {a u v : Tmp} (h : fn.results = #[.cell a 59, .tmp u, .tmp v]) (tmps : Array Value) {w : World} {o : Col} {c g : Nat} {t : BS} {vm : Value} (ht : tmps.getD a undef = .pointer (some ⟨g, 0, none⟩)) (hs : Sb w o c g t vm) :
    (results fn tmps).run Try.prog w = .ok (.tuple #[.agg (cellsBS t vm).toArray, tmps.getD u undef, tmps.getD v undef]) w := by
  have hr := loadVar_cells 59 ⟨g, 0, none⟩ (cellsBS t vm) _ hs.all Try.underlying59 rfl (stateInfo hs.sum)
  have ha : (asAddr (tmps.getD a undef)).run Try.prog w = .ok ⟨g, 0, none⟩ w := by rw [ht]; rfl
  rw [Array.getD_eq_getD_getElem?] at ha
  simp [results, h, Sem.run_bind, ha, hr, Result.andThen]

theorem still_row {ops : Array Oper} {w : World} {Q : Act → Prop} {a : Act} {op : Oper} {rest : List Oper} (hgd : op.guard = none) (ty : TypeId) (x : Operand) (ho : op.op = .load ty x) (ad : Addr) (hx : a.eval x = .pointer (some ad)) (cs : List Value) (d : TypeDesc)
    (hc : ∀ (j : Nat) (u : Value), cs[j]? = some u → w.cell? (ad.add j) = some u) (hu : Try.prog.underlying ty = some d) (hd : d.isRow = true) (hi : (Try.prog.info? ty).map (·.size) = some cs.length) (h : wpStill Try.prog ops w Q rest (a.put op.dst (.agg cs.toArray))) : wpStill Try.prog ops w Q (op :: rest) a := by
  refine wpStill_step fun K hK => ?_
  rw [if_pos (by simp [Region.wanted, hgd])]
  have hr := loadVar_cells ty ad cs d hc hu hd hi
  unfold Oper.still execOp
  simp only [ho, hx, Instr.loadAt, Instr.sureAddr, Sem.run_bind, Sem.run_pure, Result.andThen_ok, hr]
  rw [Oper.stillUpon_value]
  exact hK _ h

theorem setRow_same (w : World) (g : Nat) (cs : Array Value) (t : TypeId) (fz : Nat × Nat) (hg : w.heap[g]? = some (.cells cs t fz)) : w.setRow g cs = w := by
  have hh : (w.setRow g cs).heap = w.heap := by
    apply Array.ext_getElem?
    intro i
    by_cases e : i = g
    · subst e
      rw [setRow_heap w i cs cs t fz hg, hg]
    · unfold World.setRow
      simp [Array.getElem?_modify, Ne.symm e]
  have : w.setRow g cs = { w with heap := (w.setRow g cs).heap } := rfl
  rw [this, hh]
theorem still_store {ops : Array Oper} {w : World} {Q : Act → Prop} {a : Act} {op : Oper} {rest : List Oper} (hgd : op.guard = none) (ty : TypeId) (x y : Operand) (ho : op.op = .store ty x y) (g : Nat) (cells : Array Value) (hx : a.eval x = .pointer (some ⟨g, 0, none⟩)) (hy : a.eval y = .agg cells)
    (t : TypeId) (hg : w.heap[g]? = some (.cells cells t (0, 0))) (hi : (Try.prog.info? ty).map (·.size) = some cells.size) (h1 : cells.all (·.oneCell') = true) (h : wpStill Try.prog ops w Q rest (a.put op.dst undef)) : wpStill Try.prog ops w Q (op :: rest) a := by
  refine wpStill_step fun K hK => ?_
  rw [if_pos (by simp [Region.wanted, hgd])]
  unfold Oper.still execOp
  simp only [ho, hx, hy, Instr.storeAt, Instr.sureAddr, Sem.run_bind, Sem.run_pure, Result.andThen_ok, run_storeVar_row w g t ty cells cells hg hi rfl h1, setRow_same w g cells t (0, 0) hg]
  rw [Oper.stillUpon_skip]
  exact hK _ h

set_option maxHeartbeats 8000000 in
set_option maxRecDepth 100000 in
theorem state_calls (c0 e0 : Nat) (v : Value) (l : List UInt8) (w : World) (o : Col) (hb : RdB w o c0 v l) (hl : l.length ≤ 1000000) :
    Calls Try.prog 70 #[v] w (Post [] w o fun r w' o' => ∃ vm, r = .tuple #[.agg (cellsBS (stateS l).1 vm).toArray, .bool (stateS l).2] ∧ OwnB w' o' e0 vm (stateS l).1.mind) := by
  obtain ⟨A, cap, rfl, _, _⟩ := hb.shape
  obtain ⟨e, he1, _, hef⟩ := fresh o w.heap.size [c0, e0]
  obtain ⟨c, hc1, _, hcf⟩ := fresh o w.heap.size [c0, e0, e]
  obtain ⟨d, hd1, _, hdf⟩ := fresh o w.heap.size [c0, e0, e, c]
  obtain ⟨f, hf1, _, hff⟩ := fresh o w.heap.size [c0, e0, e, c, d]
  obtain ⟨g, hg1, _, hgf⟩ := fresh o w.heap.size [c0, e0, e, c, d, f]
  obtain ⟨m, hm1, _, hmf⟩ := fresh o w.heap.size [c0, e0, e, c, d, f, g]
  simp only [List.mem_cons, List.not_mem_nil, or_false, not_or] at he1 hc1 hd1 hf1 hg1 hm1
  replace he1 := Lib.hid he1
  replace hc1 := Lib.hid hc1
  replace hd1 := Lib.hid hd1
  replace hf1 := Lib.hid hf1
  replace hg1 := Lib.hid hg1
  replace hm1 := Lib.hid hm1
  obtain ⟨a, l1, b1, xa⟩ : ∃ a l1 b1, nNum l false = (a, l1, b1) := ⟨_, _, _, rfl⟩
  obtain ⟨b, l2, b2, xb⟩ : ∃ b l2 b2, nNum l1 b1 = (b, l2, b2) := ⟨_, _, _, rfl⟩
  obtain ⟨r3, l3, b3, xc⟩ : ∃ r l3 b3, nRaw 32 l2 b2 = (r, l3, b3) := ⟨_, _, _, rfl⟩
  obtain ⟨d4, l4, b4, xd⟩ : ∃ d l4 b4, nNum l3 b3 = (d, l4, b4) := ⟨_, _, _, rfl⟩
  obtain ⟨nm, l5, b5, xe⟩ : ∃ n l5 b5, nBytes l4 b4 = (n, l5, b5) := ⟨_, _, _, rfl⟩
  obtain ⟨md, l6, b6, xf⟩ : ∃ m l6 b6, nBytes l5 b5 = (m, l6, b6) := ⟨_, _, _, rfl⟩
  have hst : stateS l = (⟨a, b, sum32 r3, d4, nm, md⟩, (!b6 && l6.isEmpty) && decide (a < 2) && decide (b ≤ 512)) := by
    unfold stateS
    simp only [xa, xb, xc, xd, xe, xf]
  have q1 := nNum_le l false
  have q2 := nNum_le l1 b1
  have q3 := nRaw_le 32 l2 b2
  have q4 := nNum_le l3 b3
  have q5 := nBytes_le l4 b4
  have q6 := nBytes_le l5 b5
  rw [xa] at q1
  rw [xb] at q2
  rw [xc] at q3
  rw [xd] at q4
  rw [xe] at q5
  rw [xf] at q6
  dsimp only at q1 q2 q3 q4 q5 q6
  have hr3 : r3.length = 32 ∨ r3.length = 0 := by
    have : r3 = (nRaw 32 l2 b2).1 := by rw [xc]
    rw [this]
    unfold nRaw
    split
    · exact .inr rfl
    · refine .inl ?_
      simp
      omega
  have hab : a < 4611686018427387905 ∧ b < 4611686018427387905 ∧ d4 < 4611686018427387905 := by omega
  obtain ⟨OK, hOK⟩ : ∃ OK, ((!b6 && l6.isEmpty) && decide (a < 2) && decide (b ≤ 512)) = OK := ⟨_, rfl⟩
  rw [hst]
  dsimp only
  rw [hOK]
  have S0 := Sb.new w o e zeroBS (.slice none 0 0) rfl
  have s0 : Stp [] w o (w.alloc (.cells (cellsBS zeroBS (.slice none 0 0)).toArray 59)) (paint o w.heap.size e) := (Stp.refl [] w o).alloc _ e
  have b0 := hb.stp s0 (by simp)
  obtain ⟨w0, hw0⟩ : ∃ w0, w.alloc (.cells (cellsBS zeroBS (.slice none 0 0)).toArray 59) = w0 := ⟨_, rfl⟩
  obtain ⟨o0, ho0⟩ : ∃ o0, paint o w.heap.size e = o0 := ⟨_, rfl⟩
  obtain ⟨S, hS⟩ : ∃ S, w.heap.size = S := ⟨_, rfl⟩
  rw [hw0, ho0] at S0 s0 b0
  rw [hS] at S0
  replace hst := Lib.hid hst
  replace xa := Lib.hid xa
  replace xb := Lib.hid xb
  replace xc := Lib.hid xc
  replace xd := Lib.hid xd
  replace xe := Lib.hid xe
  replace xf := Lib.hid xf
  replace hw0 := Lib.hid hw0
  replace ho0 := Lib.hid ho0
  replace S0 := Lib.hid S0
  replace s0 := Lib.hid s0
  replace b0 := Lib.hid b0
  replace hb := Lib.hid hb
  have hnr := newreader_calls c0 c d hd1.out.2.2.2 _ l w0 o0 b0.out (by omega)
  go_enter Try.func70, Try.ntmps70
  go_wp2_with fail
  rw [show w.alloc (.cells #[.int .i64 0, .int .i64 0, .int .u8 0, .int .u8 0, .int .u8 0, .int .u8 0, .int .u8 0, .int .u8 0, .int .u8 0, .int .u8 0, .int .u8 0, .int .u8 0, .int .u8 0, .int .u8 0, .int .u8 0, .int .u8 0, .int .u8 0, .int .u8 0, .int .u8 0, .int .u8 0, .int .u8 0, .int .u8 0, .int .u8 0, .int .u8 0, .int .u8 0, .int .u8 0, .int .u8 0, .int .u8 0, .int .u8 0, .int .u8 0, .int .u8 0, .int .u8 0, .int .u8 0, .int .u8 0, .int .i64 0, .string ⟨#[]⟩, .slice none 0 0] 59) = w0 from hw0.out]
  replace hS := Lib.hid hS
  refine hnr.mono ?_
  clear hnr
  rintro ex w1 ⟨r, o1, rfl, s1, q, v1, rfl, R1⟩
  have S1 := S0.out.stp s1 (by simp)
  have st1 := s0.out.trans s1
  -- the pointers of the first two numbers
  have s2 : Stp [] w1 o1 (w1.alloc (.cells #[.pointer (some ⟨S, 0, none⟩), .pointer (some ⟨S, 1, none⟩)] 131)) (paint o1 w1.heap.size f) := (Stp.refl [] w1 o1).alloc _ f
  have R2 := R1.stp s2 (by simp) (by simp)
  have S2 := S1.stp s2 (by simp)
  have hg2 : (w1.alloc (.cells #[.pointer (some ⟨S, 0, none⟩), .pointer (some ⟨S, 1, none⟩)] 131)).heap[w1.heap.size]? = some (.cells #[.pointer (some ⟨S, 0, none⟩), .pointer (some ⟨S, 1, none⟩)] 131 (0, 0)) := heap_alloc_new _ _
  have hn2 := rnumsS_calls c d e f q S w1.heap.size 2 59 (fun k => k) _ v1 l false _ _ R2 (by omega) (by omega) S2.blk S2.col (fun k hk => by rw [List.size_toArray, cellsBS_len S2.sum]; omega) hc1.out.2.2 hd1.out.2.2.1 (paint_at _ _ _) hf1.out.2.2.2.1 hf1.out.2.2.1 (fun k hk => by
    rw [blk_cell hg2]
    rcases (show k = 0 ∨ k = 1 by omega) with rfl | rfl <;> rfl)
  have hp2 : putN (cellsBS zeroBS (.slice none 0 0)).toArray (fun k => k) l false 2 = (cellsBS ⟨a, b, zeroBS.sum, 0, [], []⟩ (.slice none 0 0)).toArray := by
    show (((cellsBS zeroBS (.slice none 0 0)).toArray.setIfInBounds 0 (.int .i64 (nmN l false 0 : Int))).setIfInBounds 1 (.int .i64 (nmN l false 1 : Int))) = _
    rw [cells_set0, cells_set1]
    have e1 : nmN l false 0 = a := by show (nNum l false).1 = a; rw [xa.out]
    have e2 : nmN l false 1 = b := by show (nNum (nNum l false).2.1 (nNum l false).2.2).1 = b; rw [xa.out]; show (nNum l1 b1).1 = b; rw [xb.out]
    rw [e1, e2]
    rfl
  have hnl : nmL l false 2 = (l2, b2) := by
    show ((nNum (nNum l false).2.1 (nNum l false).2.2).2.1, (nNum (nNum l false).2.1 (nNum l false).2.2).2.2) = (l2, b2)
    rw [xa.out]
    show ((nNum l1 b1).2.1, (nNum l1 b1).2.2) = (l2, b2)
    rw [xb.out]
  rw [hp2, hnl] at hn2
  dsimp only at hn2
  have st2 := st1.trans s2
  replace R1 := Lib.hid R1
  replace R2 := Lib.hid R2
  replace S1 := Lib.hid S1
  replace S2 := Lib.hid S2
  replace s1 := Lib.hid s1
  replace s2 := Lib.hid s2
  replace st1 := Lib.hid st1
  replace st2 := Lib.hid st2
  replace hg2 := Lib.hid hg2
  replace hp2 := Lib.hid hp2
  replace hnl := Lib.hid hnl
  go_wp2_with fail
  refine hn2.mono ?_
  clear hn2
  rintro ex w3 ⟨r, o3, rfl, s3, rfl, v3, R3, hS3⟩
  have S3 : Sb w3 o3 e S ⟨a, b, zeroBS.sum, 0, [], []⟩ (.slice none 0 0) := ⟨hS3, (s3.colb S2.out.blk).trans S2.out.col, rfl⟩
  have st3 := Lib.hid ((st2.out.none : Stp [c, e] _ _ _ _).trans s3)
  have R3d := R3.stp (Stp.refl [] w3 o3).drew (by simp) (by simp)
  have S3d := S3.stp (Stp.refl [] w3 o3).drew (by simp)
  have st3d : Hid (Stp [c, e] w o w3.drew o3) := Lib.hid st3.out.drew
  have hraw := rraw_calls c d g q v3 l2 b2 32 w3.drew o3 R3d (by omega)
  rw [xc.out] at hraw
  dsimp only at hraw
  replace R3 := Lib.hid R3
  replace R3d := Lib.hid R3d
  replace S3 := Lib.hid S3
  replace S3d := Lib.hid S3d
  replace hS3 := Lib.hid hS3
  replace hraw := Lib.hid hraw
  clear s3
  go_wp2_with fail
  go_region_held_law (fun _ => True) (trivial) (first
    | (go_at_call 83
       refine hraw.out.mono ?_
       rintro ex w4 ⟨r, o4, rfl, s4, q4, v4, R4⟩
       obtain ⟨A4, cap4, rfl⟩ := Own.shape q4
       have S4 := S3d.out.stp s4 (by simpa using fun x => hc1.out.2.2 x.symm)
       have st4 := Lib.hid (st3d.out.trans (s4.mono (by simp)))
       obtain ⟨w5, hrun, s5, S5⟩ := S4.copy (OwnB.rd q4) rfl hr3
       have R5 := R4.stp s5 (by simpa using hc1.out.2.2) (by simpa using hd1.out.2.2.1)
       have st5 := Lib.hid (st4.out.trans (s5.mono (D := [c, e]) (by simp)))
       replace R4 := Lib.hid R4
       replace R5 := Lib.hid R5
       replace S4 := Lib.hid S4
       replace S5 := Lib.hid S5
       replace q4 := Lib.hid q4
       replace s4 := Lib.hid s4
       replace s5 := Lib.hid s5)
    | (refine step_copy _ _ rfl (by rfl) (by rfl) (by rfl) (by rfl) hrun ?_))
  -- the pointer of the third number
  have s6 : Stp [] w5 o4 (w5.alloc (.cells #[.pointer (some ⟨S, 34, none⟩)] 131)) (paint o4 w5.heap.size f) := (Stp.refl [] w5 o4).alloc _ f
  have R6 := R5.out.stp s6 (by simp) (by simp)
  have S6 := S5.out.stp s6 (by simp)
  have hg6 : (w5.alloc (.cells #[.pointer (some ⟨S, 34, none⟩)] 131)).heap[w5.heap.size]? = some (.cells #[.pointer (some ⟨S, 34, none⟩)] 131 (0, 0)) := heap_alloc_new _ _
  have hn6 := rnumsS_calls c d e f q S w5.heap.size 1 59 (fun _ => 34) _ v4 l3 b3 _ _ R6 (by omega) (by omega) S6.blk S6.col (fun k hk => by rw [List.size_toArray, cellsBS_len S6.sum]; omega) hc1.out.2.2 hd1.out.2.2.1 (paint_at _ _ _) hf1.out.2.2.2.1 hf1.out.2.2.1 (fun k hk => by
    rw [blk_cell hg6]
    rcases (show k = 0 by omega) with rfl
    rfl)
  have hp6 : putN (cellsBS ⟨a, b, sum32 r3, 0, [], []⟩ (.slice none 0 0)).toArray (fun _ => 34) l3 b3 1 = (cellsBS ⟨a, b, sum32 r3, d4, [], []⟩ (.slice none 0 0)).toArray := by
    show ((cellsBS ⟨a, b, sum32 r3, 0, [], []⟩ (.slice none 0 0)).toArray.setIfInBounds 34 (.int .i64 (nmN l3 b3 0 : Int))) = _
    rw [cells_set34 _ _ _ S6.sum]
    have e1 : nmN l3 b3 0 = d4 := by show (nNum l3 b3).1 = d4; rw [xd.out]
    rw [e1]
  have hnl6 : nmL l3 b3 1 = (l4, b4) := by
    show ((nNum l3 b3).2.1, (nNum l3 b3).2.2) = (l4, b4)
    rw [xd.out]
  rw [hp6, hnl6] at hn6
  dsimp only at hn6
  have st6 := Lib.hid (st5.out.trans s6.none)
  replace R6 := Lib.hid R6
  replace S6 := Lib.hid S6
  replace s6 := Lib.hid s6
  replace hg6 := Lib.hid hg6
  replace hp6 := Lib.hid hp6
  replace hnl6 := Lib.hid hnl6
  clear hrun
  go_wp2_with fail
  refine hn6.mono ?_
  clear hn6
  rintro ex w7 ⟨r, o7, rfl, s7, rfl, v7, R7, hS7⟩
  have S7 : Sb w7 o7 e S ⟨a, b, sum32 r3, d4, [], []⟩ (.slice none 0 0) := ⟨hS7, (s7.colb S6.out.blk).trans S6.out.col, S6.out.sum⟩
  have st7 := Lib.hid (st6.out.trans s7)
  have R7d := R7.stp (Stp.refl [] w7 o7).drew (by simp) (by simp)
  have S7d := S7.stp (Stp.refl [] w7 o7).drew (by simp)
  have st7d : Hid (Stp [c, e] w o w7.drew o7) := Lib.hid st7.out.drew
  have hb1 := rbytes_calls c d g q v7 l4 b4 w7.drew o7 R7d (by omega)
  rw [xe.out] at hb1
  dsimp only at hb1
  replace R7 := Lib.hid R7
  replace R7d := Lib.hid R7d
  replace S7 := Lib.hid S7
  replace S7d := Lib.hid S7d
  replace hS7 := Lib.hid hS7
  replace hb1 := Lib.hid hb1
  clear s7
  go_wp2_with fail
  go_region_held_law (fun _ => True) (trivial) (first
    | (go_at_call 84
       refine hb1.out.mono ?_
       rintro ex w8 ⟨r, o8, rfl, s8, q8, v8, R8⟩
       obtain ⟨A8, cap8, rfl⟩ := Own.shape q8
       have cv8 := convBS (OwnB.rd q8) rfl
       have S8 := Lib.hid (S7d.out.stp s8 (by simpa using fun x => hc1.out.2.2 x.symm))
       have st8 := Lib.hid (st7d.out.trans (s8.mono (by simp)))
       have hb2 := rbytes_calls c d m q v8 l5 b5 w8 o8 R8 (by omega)
       rw [xf.out] at hb2
       dsimp only at hb2
       replace hb2 := Lib.hid hb2
       replace R8 := Lib.hid R8
       replace q8 := Lib.hid q8
       replace s8 := Lib.hid s8)
    | (go_at_call 84
       refine hb2.out.mono ?_
       rintro ex w9 ⟨r, o9, rfl, s9, q9, v9, R9⟩
       obtain ⟨A9, cap9, rfl⟩ := Own.shape q9
       have cv9 := convBS (OwnB.rd (OwnB.stp q8.out s9 (by simpa using hg1.out.2.2.2.1))) rfl
       have S9 := S8.out.stp s9 (by simpa using fun x => hc1.out.2.2 x.symm)
       have d35 := S9.c35
       have d36 := S9.c36
       have f35 := S9.free 35
       have f36 := S9.free 36
       have st9 := Lib.hid (st8.out.trans (s9.mono (by simp)))
       replace S9 := Lib.hid S9
       replace R9 := Lib.hid R9
       replace q9 := Lib.hid q9
       replace s9 := Lib.hid s9))
  all_goals
    clear cv8 cv9 d35 d36 f35 f36
    have h35 := blk_set (j := 35) S9.out.blk (.string ⟨nm.toArray⟩)
    rw [cells_set35 _ _ _ S9.out.sum] at h35
    have h36 := blk_set (j := 36) h35 (.slice A9 md.length cap9)
    rw [cells_set36 _ _ _ md (by exact S9.out.sum)] at h36
    have s10 := ((Stp.refl [e] w9 o9).setCell (p := ⟨S, 35, none⟩) (fun _ => by show o9 S ∈ _; rw [S9.out.col]; simp) (.string ⟨nm.toArray⟩)).setCell (p := ⟨S, 36, none⟩) (fun _ => by show o9 S ∈ _; rw [S9.out.col]; simp) (.slice A9 md.length cap9)
    obtain ⟨w10, hw10⟩ : ∃ w10, (w9.setCell ⟨S, 35, none⟩ (.string ⟨nm.toArray⟩)).setCell ⟨S, 36, none⟩ (.slice A9 md.length cap9) = w10 := ⟨_, rfl⟩
    rw [hw10] at h36 s10 ⊢
    have S10 : Sb w10 o9 e S ⟨a, b, sum32 r3, d4, nm, md⟩ (.slice A9 md.length cap9) := ⟨h36, S9.out.col, S9.out.sum⟩
    have R10 := R9.out.stp s10 (by simpa using hc1.out.2.2) (by simpa using hd1.out.2.2.1)
    have q10 := OwnB.stp q9.out s10 (by simpa using hm1.out.2.2.1)
    have st10 := st9.out.trans (s10.mono (D := [c, e]) (by simp))
    have S11 := S10.stp (Stp.refl [] w10 o9).drew (by simp)
    have R11 := R10.stp (Stp.refl [] w10 o9).drew (by simp) (by simp)
    have q11 := OwnB.stp q10 (Stp.refl [] w10 o9).drew (by simp)
    have st11 : Stp [c, e] w o w10.drew o9 := st10.drew
    have hwh := rwhole_calls c d q v9 l6 b6 w10.drew o9 R11
    obtain ⟨WB, hWB⟩ : ∃ WB, (!b6 && l6.isEmpty) = WB := ⟨_, rfl⟩
    rw [hWB] at hwh
    have hOK2 : (WB && decide (a < 2) && decide (b ≤ 512)) = OK := by rw [← hWB]; exact hOK
    have d0 := S11.c0
    have d1 := S11.c1
    dsimp only at d0 d1
    have hone : (cellsBS ⟨a, b, sum32 r3, d4, nm, md⟩ (.slice A9 md.length cap9)).toArray.all (·.oneCell') = true := by
      rw [Array.all_eq_true']
      intro x hx
      simp only [List.mem_toArray, cellsBS, List.mem_cons, List.mem_append, List.not_mem_nil, or_false] at hx
      rcases hx with rfl | rfl | hx | rfl | rfl | rfl
      · rfl
      · rfl
      · exact vbs_one _ x hx
      · rfl
      · rfl
      · rfl
    have hinf := stateInfo (vm := .slice A9 md.length cap9) S11.sum
    have hfin : OwnB _ (paint o w.heap.size e0) e0 _ md := Own.fresh q11 st11 hmf e0
    have sfin := ((st11.drop hcf).drop hef).repaint e0
    have Sf : Sb w10.drew (fun _ => e) e S ⟨a, b, sum32 r3, d4, nm, md⟩ (.slice A9 md.length cap9) := ⟨S11.blk, rfl, S11.sum⟩
    obtain ⟨CL, hCL⟩ : ∃ CL, cellsBS ⟨a, b, sum32 r3, d4, nm, md⟩ (.slice A9 md.length cap9) = CL := ⟨_, rfl⟩
    have hload := S11.all
    have hblk := S11.blk
    rw [hCL] at hload hblk hone hinf
    have hcs : (WB = false ∧ OK = false) ∨ (WB = true ∧ (decide ((a : Int) < 2) = false ∧ OK = false)) ∨ (WB = true ∧ (decide ((a : Int) < 2) = true ∧ decide ((b : Int) ≤ 512) = false ∧ OK = false)) ∨ (WB = true ∧ (decide ((a : Int) < 2) = true ∧ decide ((b : Int) ≤ 512) = true ∧ OK = true)) := by
      cases WB
      · exact .inl ⟨rfl, by rw [← hOK2]; simp⟩
      · refine .inr ?_
        by_cases ha : a < 2
        · by_cases hb' : b ≤ 512
          · exact .inr (.inr ⟨rfl, decide_eq_true (by omega), decide_eq_true (by omega), by rw [← hOK2]; simp [ha, hb']⟩)
          · exact .inr (.inl ⟨rfl, decide_eq_true (by omega), decide_eq_false (by omega), by rw [← hOK2]; simp [hb']⟩)
        · exact .inl ⟨rfl, decide_eq_false (by omega), by rw [← hOK2]; simp [ha]⟩
    replace S10 := Lib.hid S10
    replace R10 := Lib.hid R10
    replace q10 := Lib.hid q10
    replace st10 := Lib.hid st10
    replace S11 := Lib.hid S11
    replace R11 := Lib.hid R11
    replace q11 := Lib.hid q11
    replace st11 := Lib.hid st11
    replace s10 := Lib.hid s10
    replace hfin := Lib.hid hfin
    replace sfin := Lib.hid sfin
    replace Sf := Lib.hid Sf
    replace hone := Lib.hid hone
    replace hinf := Lib.hid hinf
    replace hload := Lib.hid hload
    replace hblk := Lib.hid hblk
    replace hwh := Lib.hid hwh
    replace hWB := Lib.hid hWB
    replace hOK := Lib.hid hOK
    replace hOK2 := Lib.hid hOK2
    replace hw10 := Lib.hid hw10
    replace hCL := Lib.hid hCL
    replace h36 := Lib.hid h36
    replace h35 := Lib.hid h35
    rcases hcs with ⟨rfl, rfl⟩ | ⟨rfl, k1, rfl⟩ | ⟨rfl, k1, k2, rfl⟩ | ⟨rfl, k1, k2, rfl⟩
    all_goals
      go_wp2_with fail
      refine wp_region_still_lit (by kernel_rfl) (by kernel_rfl) ?_
      refine still_row rfl 59 _ rfl ⟨S, 0, none⟩ rfl CL _ hload.out Try.underlying59 rfl hinf.out ?_
      repeat still_step
      still_call (hwh.out.mono (fun _ _ h => ⟨h.1, h.2.symm⟩))
      repeat still_step
      refine still_store rfl 59 _ _ rfl S CL.toArray rfl rfl 59 hblk.out (by rw [hinf.out]; simp) hone.out ?_
      repeat still_step
      refine wpStill_nil ?_
      change Exit.then _ _ _ _ w10.drew
      clear d0 d1
      go_wp2
      refine bodyPost_ret (stateRes2 rfl _ rfl Sf.out) rfl ?_
      exact Post.mk sfin.out ⟨_, by rw [hCL.out]; rfl, hfin.out⟩
end Go.Proofs.Ytpjnmijfmfgdpaa
