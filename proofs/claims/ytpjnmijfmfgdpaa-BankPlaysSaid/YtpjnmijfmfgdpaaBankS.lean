/- The document's bank (ref13): read: the walk. Printed by wip/bankxgen.py. -/
import Derived.Test.YtpjnmijfmfgdpaaBankQR
import Derived.Test.YtpjnmijfmfgdpaaXSlotC
import Derived.Great.BuildSlice
namespace Go.Proofs.Ytpjnmijfmfgdpaa
set_option linter.unusedVariables false
set_option linter.unusedSimpArgs false
open Go.RowKit

set_option maxRecDepth 100000 in
theorem built_num (a : Int) : Try.prog.built 72 [(0, .int .i64 a)] = some (cellsBS ⟨a, 0, List.replicate 32 0, 0, [], []⟩ (.slice none 0 0)).toArray := by
  change @Eq _ _ _
  kernel_rfl
theorem storeAt_row {w : World} {g t : Nat} (ty : TypeId) (old cells : Array Value) (hg : w.heap[g]? = some (.cells old t (0, 0))) (hi : (Try.prog.info? ty).map (·.size) = some cells.size) (hold : old.size = cells.size) (h1 : cells.all (·.oneCell') = true) :
    (Instr.storeAt ty (.pointer (some ⟨g, 0, none⟩)) (.agg cells)).run Try.prog w = .ok () (w.setRow g cells) := by
  simp only [Instr.storeAt, Instr.sureAddr, Sem.run_bind, Sem.run_pure, Result.andThen_ok, run_storeVar_row w g t ty old cells hg hi hold h1]
theorem loadAt_row {w : World} (ty : TypeId) (ad : Addr) (cs : List Value) (d : TypeDesc) (hc : ∀ (j : Nat) (u : Value), cs[j]? = some u → w.cell? (ad.add j) = some u) (hu : Try.prog.underlying ty = some d) (hd : d.isRow = true) (hi : (Try.prog.info? ty).map (·.size) = some cs.length) :
    (Instr.loadAt ty (.pointer (some ad))).run Try.prog w = .ok (.agg cs.toArray) w := by
  simp only [Instr.loadAt, Instr.sureAddr, Sem.run_bind, Sem.run_pure, Result.andThen_ok, loadVar_cells ty ad cs d hc hu hd hi]
theorem run_store {w w' : World} {op : Oper} {a : Act} (ty : TypeId) (x y : Operand) (ho : op.op = .store ty x y) (g : Nat) {V : Value} (hx : a.eval x = .pointer (some ⟨g, 0, none⟩)) (hy : a.eval y = V) (hr : (Instr.storeAt ty (.pointer (some ⟨g, 0, none⟩)) V).run Try.prog w = .ok () w') : (execOp a.eval op).run Try.prog w = .ok .skip w' := by
  unfold execOp
  simp only [ho, hx, hy, Sem.run_bind, Sem.run_pure, Result.andThen_ok, hr]
theorem step_store {w w' : World} {op : Oper} {a : Act} {K : Act → World → Prop} {Q : Exit → Act → World → Prop} {ops : Array Oper} {E : Prop} (ty : TypeId) (x y : Operand) (hgd : op.guard = none) (ho : op.op = .store ty x y) (g : Nat) {V : Value} (hx : a.eval x = .pointer (some ⟨g, 0, none⟩)) (hy : a.eval y = V) (hr : (Instr.storeAt ty (.pointer (some ⟨g, 0, none⟩)) V).run Try.prog w = .ok () w') (h : K (a.put op.dst undef) w') :
    if Region.wanted op (yielded ops a.tmps) = true then Oper.wp Try.prog op a w K Q else E := by
  rw [if_pos (by simp [Region.wanted, hgd])]
  unfold Oper.wp
  rw [run_store ty x y ho g hx hy hr]
  exact h
theorem run_load {w : World} {op : Oper} {a : Act} (ty : TypeId) (x : Operand) (ho : op.op = .load ty x) (ad : Addr) (hx : a.eval x = .pointer (some ad)) {V : Value} (hr : (loadVar ty ad).run Try.prog w = .ok V w) : (execOp a.eval op).run Try.prog w = .ok (.value V) w := by
  unfold execOp
  simp only [ho, hx, Instr.loadAt, Instr.sureAddr, Sem.run_bind, Sem.run_pure, Result.andThen_ok, hr]
set_option maxHeartbeats 4000000 in
set_option maxRecDepth 100000 in
theorem xread_calls (c0 e0 : Nat) (v : Value) (l : List UInt8) (w : World) (o : Col) (hb : RdB w o c0 v l) (hl : l.length ≤ 1000000) :
    Calls Try.prog 75 #[v] w (Post [] w o fun r w' o' => ∃ vm, r = .tuple #[.agg (cellsBS (stateS l).1 vm).toArray, .bool (stateS l).2] ∧ OwnB w' o' e0 vm (stateS l).1.mind) := by
  obtain ⟨A, cap, rfl, _, _⟩ := hb.shape
  obtain ⟨e, he1, _, hef⟩ := fresh o w.heap.size [c0, e0]
  obtain ⟨c, hc1, _, hcf⟩ := fresh o w.heap.size [c0, e0, e]
  obtain ⟨g, hg1, _, hgf⟩ := fresh o w.heap.size [c0, e0, e, c]
  obtain ⟨m, hm1, _, hmf⟩ := fresh o w.heap.size [c0, e0, e, c, g]
  simp only [List.mem_cons, List.not_mem_nil, or_false, not_or] at he1 hc1 hg1 hm1
  have nec : ¬ e = c := fun x => hc1.2.2 x.symm
  have nce : ¬ c = e := hc1.2.2
  have n0c : ¬ c0 = c := fun x => hc1.1 x.symm
  have n0e : ¬ c0 = e := fun x => he1.1 x.symm
  have ngc : ¬ g = c := hg1.2.2.2
  have nge : ¬ g = e := hg1.2.2.1
  have nmc : ¬ m = c := hm1.2.2.2.1
  have nme : ¬ m = e := hm1.2.2.1
  obtain ⟨a, l1, b1, xa⟩ : ∃ a l1 b1, nNum l false = (a, l1, b1) := ⟨_, _, _, rfl⟩
  obtain ⟨b, l2, b2, xb⟩ : ∃ b l2 b2, nNum l1 b1 = (b, l2, b2) := ⟨_, _, _, rfl⟩
  obtain ⟨r3, l3, b3, xc⟩ : ∃ r l3 b3, nRaw 32 l2 b2 = (r, l3, b3) := ⟨_, _, _, rfl⟩
  obtain ⟨d4, l4, b4, xd⟩ : ∃ d l4 b4, nNum l3 b3 = (d, l4, b4) := ⟨_, _, _, rfl⟩
  obtain ⟨nm, l5, b5, xe⟩ : ∃ n l5 b5, nBytes l4 b4 = (n, l5, b5) := ⟨_, _, _, rfl⟩
  obtain ⟨md, l6, b6, xf⟩ : ∃ m l6 b6, nBytes l5 b5 = (m, l6, b6) := ⟨_, _, _, rfl⟩
  have hst : stateS l = (⟨a, b, sum32 r3, d4, nm, md⟩, (!b6 && l6.isEmpty) && decide (a < 2) && decide (b ≤ 512)) := by
    unfold stateS
    simp only [xa, xb, xc, xd, xe, xf]
  have q1 := nNum_le l false
  have q2 := nNum_le l1 b1
  have q3 := nRaw_le 32 l2 b2
  have q4 := nNum_le l3 b3
  have q5 := nBytes_le l4 b4
  have q6 := nBytes_le l5 b5
  rw [xa] at q1
  rw [xb] at q2
  rw [xc] at q3
  rw [xd] at q4
  rw [xe] at q5
  rw [xf] at q6
  dsimp only at q1 q2 q3 q4 q5 q6
  have hr3 : r3.length = 32 ∨ r3.length = 0 := by
    have : r3 = (nRaw 32 l2 b2).1 := by rw [xc]
    rw [this]
    unfold nRaw
    split
    · exact .inr rfl
    · refine .inl ?_
      simp
      omega
  have hab : a < 4611686018427387905 ∧ b < 4611686018427387905 ∧ d4 < 4611686018427387905 := by omega
  obtain ⟨OK, hOK⟩ : ∃ OK, ((!b6 && l6.isEmpty) && decide (a < 2) && decide (b ≤ 512)) = OK := ⟨_, rfl⟩
  rw [hst]
  dsimp only
  rw [hOK]
  have hbad0 : (false = true) → l = [] := by simp
  have hbad1 : b1 = true → l1 = [] := by have := nNum_bad hbad0; rw [xa] at this; exact this
  have hbad2 : b2 = true → l2 = [] := by have := nNum_bad hbad1; rw [xb] at this; exact this
  have hbad3 : b3 = true → l3 = [] := by have := nRaw_bad (n := 32) hbad2; rw [xc] at this; exact this
  have hbad4 : b4 = true → l4 = [] := by have := nNum_bad hbad3; rw [xd] at this; exact this
  have hbad5 : b5 = true → l5 = [] := by have := nBytes_bad hbad4; rw [xe] at this; exact this
  have RX := Xb.new w o g zeroBS (.slice none 0 0) rfl
  have s0 : Stp [c, e] w o (w.alloc (.cells (cellsBS zeroBS (.slice none 0 0)).toArray 72)) (paint o w.heap.size g) := (Stp.refl [c, e] w o).alloc _ g
  have b0 := hb.stp ((Stp.refl [] w o).alloc (.cells (cellsBS zeroBS (.slice none 0 0)).toArray 72) g) (by simp)
  have z0 : (w.alloc (.cells (cellsBS zeroBS (.slice none 0 0)).toArray 72)).heap.size = w.heap.size + 1 := World.size_alloc _ _
  obtain ⟨w0, hw0⟩ : ∃ w0, w.alloc (.cells (cellsBS zeroBS (.slice none 0 0)).toArray 72) = w0 := ⟨_, rfl⟩
  obtain ⟨o0, ho0⟩ : ∃ o0, paint o w.heap.size g = o0 := ⟨_, rfl⟩
  obtain ⟨R, hR⟩ : ∃ R, w.heap.size = R := ⟨_, rfl⟩
  rw [hw0, ho0] at RX s0 b0
  rw [hR] at RX
  rw [hw0, hR] at z0
  replace XR := Xr.new c b0 n0c
  rw [z0] at XR
  have s1 : Stp [] w0 o0 (w0.alloc (.cells #[.slice A l.length cap, .bool false] 136)) (paint o0 (R + 1) c) := by rw [← z0]; exact (Stp.refl [] w0 o0).alloc _ c
  replace RX := RX.stp s1 (by simp)
  have ST : Stp [c, e] w o _ _ := s0.trans s1.none
  obtain ⟨w1, hw1⟩ : ∃ w1, w0.alloc (.cells #[.slice A l.length cap, .bool false] 136) = w1 := ⟨_, rfl⟩
  obtain ⟨o1, ho1⟩ : ∃ o1, paint o0 (R + 1) c = o1 := ⟨_, rfl⟩
  obtain ⟨q, hq⟩ : ∃ q, R + 1 = q := ⟨_, rfl⟩
  rw [hw1, ho1] at XR RX ST
  rw [hq] at XR
  have hnum := xnum_calls c c0 q _ l false w1 o1 XR hbad0 (by omega)
  rw [xa] at hnum
  dsimp only at hnum
  replace hst := Lib.hid hst
  replace xa := Lib.hid xa
  replace xb := Lib.hid xb
  replace xc := Lib.hid xc
  replace xd := Lib.hid xd
  replace xe := Lib.hid xe
  replace xf := Lib.hid xf
  replace hw0 := Lib.hid hw0
  replace ho0 := Lib.hid ho0
  replace hw1 := Lib.hid hw1
  replace ho1 := Lib.hid ho1
  replace hR := Lib.hid hR
  replace hq := Lib.hid hq
  replace z0 := Lib.hid z0
  replace RX := Lib.hid RX
  replace XR := Lib.hid XR
  replace ST := Lib.hid ST
  replace b0 := Lib.hid b0
  replace hb := Lib.hid hb
  replace hbad0 := Lib.hid hbad0
  replace hbad1 := Lib.hid hbad1
  replace hbad2 := Lib.hid hbad2
  replace hbad3 := Lib.hid hbad3
  replace hbad4 := Lib.hid hbad4
  replace hbad5 := Lib.hid hbad5
  replace hOK := Lib.hid hOK
  clear s0 s1
  go_enter Try.func75, Try.ntmps75
  go_wp2_with fail
  rw [show w.alloc (.cells #[.int .i64 0, .int .i64 0, .int .u8 0, .int .u8 0, .int .u8 0, .int .u8 0, .int .u8 0, .int .u8 0, .int .u8 0, .int .u8 0, .int .u8 0, .int .u8 0, .int .u8 0, .int .u8 0, .int .u8 0, .int .u8 0, .int .u8 0, .int .u8 0, .int .u8 0, .int .u8 0, .int .u8 0, .int .u8 0, .int .u8 0, .int .u8 0, .int .u8 0, .int .u8 0, .int .u8 0, .int .u8 0, .int .u8 0, .int .u8 0, .int .u8 0, .int .u8 0, .int .u8 0, .int .u8 0, .int .i64 0, .string ⟨#[]⟩, .slice none 0 0] 72) = w0 from hw0.out, hR.out, hw1.out, hq.out]
  refine hnum.mono ?_
  clear hnum
  rintro ex w2 ⟨r, o2, rfl, s2, rfl, v2, X2⟩
  replace XR := X2
  replace RX := RX.out.stp s2 (by simpa using ngc)
  replace ST := ST.out.trans (s2.mono (D := [c, e]) (by simp))
  have SX := Xb.new w2 o2 e zeroBS (.slice none 0 0) rfl
  have sA : Stp [] w2 o2 (w2.alloc (.cells (cellsBS zeroBS (.slice none 0 0)).toArray 72)) (paint o2 w2.heap.size e) := (Stp.refl [] w2 o2).alloc _ e
  replace XR := XR.stp sA (by simp) (by simp)
  replace RX := RX.stp sA (by simp)
  replace ST := ST.trans sA.none
  have hbu := built_num (a : Int)
  obtain ⟨C1, hC1⟩ : ∃ C1, (cellsBS ⟨a, 0, List.replicate 32 0, 0, [], []⟩ (.slice none 0 0)).toArray = C1 := ⟨_, rfl⟩
  rw [hC1] at hbu
  have hi1 : (Try.prog.info? 72).map (·.size) = some C1.size := by rw [← hC1]; simpa using xstateInfo (t := ⟨a, 0, List.replicate 32 0, 0, [], []⟩) (vm := .slice none 0 0) (by simp)
  have hi2 : (cellsBS zeroBS (.slice none 0 0)).toArray.size = C1.size := by rw [← hC1, List.size_toArray, List.size_toArray, cellsBS_len (t := zeroBS) rfl, cellsBS_len (by simp)]
  have hi3 : C1.all (·.oneCell') = true := by rw [← hC1]; exact cells_one _ _ _ _
  have hz := SX.blk
  have s3 : Stp [e] _ _ ((w2.alloc (.cells (cellsBS zeroBS (.slice none 0 0)).toArray 72)).setRow w2.heap.size C1) _ := setRow_stp (o := paint o2 w2.heap.size e) (by rw [SX.col]; simp) _
  have SX2 : Xb ((w2.alloc (.cells (cellsBS zeroBS (.slice none 0 0)).toArray 72)).setRow w2.heap.size C1) (paint o2 w2.heap.size e) e w2.heap.size ⟨a, 0, List.replicate 32 0, 0, [], []⟩ (.slice none 0 0) := ⟨by rw [hC1]; exact setRow_heap _ _ _ _ _ _ hz, SX.col, by simp⟩
  clear SX
  have SX := SX2
  clear SX2
  replace XR := XR.stp s3 (by simpa using nce) (by simpa using n0e)
  replace RX := RX.stp s3 (by simpa using nge)
  replace ST := ST.trans (s3.mono (D := [c, e]) (by simp))
  obtain ⟨wA, hwA⟩ : ∃ wA, w2.alloc (.cells (cellsBS zeroBS (.slice none 0 0)).toArray 72) = wA := ⟨_, rfl⟩
  rw [hwA] at hz
  obtain ⟨w3, hw3⟩ : ∃ w3, (w2.alloc (.cells (cellsBS zeroBS (.slice none 0 0)).toArray 72)).setRow w2.heap.size C1 = w3 := ⟨_, rfl⟩
  have hw3' : wA.setRow w2.heap.size C1 = w3 := by rw [← hwA]; exact hw3
  obtain ⟨o3, ho3⟩ : ∃ o3, paint o2 w2.heap.size e = o3 := ⟨_, rfl⟩
  rw [hw3, ho3] at XR RX ST SX
  obtain ⟨S, hS⟩ : ∃ S, w2.heap.size = S := ⟨_, rfl⟩
  rw [hS] at SX hz hw3'
  replace SX := Lib.hid SX
  replace RX := Lib.hid RX
  replace XR := Lib.hid XR
  replace ST := Lib.hid ST
  replace hz := Lib.hid hz
  replace hwA := Lib.hid hwA
  replace hw3 := Lib.hid hw3
  replace hw3' := Lib.hid hw3'
  replace ho3 := Lib.hid ho3
  replace hS := Lib.hid hS
  replace hi1 := Lib.hid hi1
  replace hi2 := Lib.hid hi2
  replace hi3 := Lib.hid hi3
  replace hC1 := Lib.hid hC1
  clear s2 sA s3 X2
  go_wp2_with (refine holdAt 11 ?_)
  apply Hold.mk
  refine wpList_buildTo rfl 72 _ rfl (some 11) rfl C1 ?_ ?_
  · have hb' := hbu
    simp
    exact hb'
  clear hbu
  go_wp2_with (refine holdSt 72 ?_)
  apply Hold.mk
  rw [show w2.alloc (.cells ((Value.int .i64 0 :: .int .i64 0 :: .int .u8 0 :: .int .u8 0 :: .int .u8 0 :: .int .u8 0 :: .int .u8 0 :: .int .u8 0 :: .int .u8 0 :: .int .u8 0 :: .int .u8 0 :: .int .u8 0 :: .int .u8 0 :: .int .u8 0 :: .int .u8 0 :: .int .u8 0 :: .int .u8 0 :: .int .u8 0 :: .int .u8 0 :: .int .u8 0 :: .int .u8 0 :: .int .u8 0 :: .int .u8 0 :: .int .u8 0 :: .int .u8 0 :: .int .u8 0 :: .int .u8 0 :: .int .u8 0 :: .int .u8 0 :: .int .u8 0 :: .int .u8 0 :: .int .u8 0 :: .int .u8 0 :: .int .u8 0 :: .int .i64 0 :: .string ⟨#[]⟩ :: .slice none 0 0 :: []).toArray) 72) = wA from hwA.out, hS.out]
  refine wpList_store_row rfl 72 _ _ rfl S C1 rfl rfl 72 _ hz.out hi1.out hi2.out hi3.out ?_
  rw [hw3'.out]
  have hnum := xnum_calls c c0 q _ _ _ w3 o3 XR.out hbad1.out (by omega)
  rw [xb.out] at hnum
  dsimp only at hnum
  go_wp2_with fail
  refine hnum.mono ?_
  clear hnum
  rintro ex w4 ⟨r, o4, rfl, s4, rfl, v4, X4⟩
  replace XR := X4
  replace RX := RX.out.stp s4 (by simpa using ngc)
  replace SX := SX.out.stp s4 (by simpa using nec)
  replace ST := ST.out.trans (s4.mono (D := [c, e]) (by simp))
  have dc := SX.c1
  have df := SX.free 1
  have hk := blk_set (j := 1) SX.blk (.int .i64 (b : Int))
  rw [cells_set1 _ _ _] at hk
  have s5 := (Stp.refl [e] w4 o4).setCell (p := ⟨S, 1, none⟩) (fun _ => by show o4 S ∈ _; rw [SX.col]; simp) (.int .i64 (b : Int))
  obtain ⟨w5, hw5⟩ : ∃ w', w4.setCell ⟨S, 1, none⟩ (.int .i64 (b : Int)) = w' := ⟨_, rfl⟩
  rw [hw5] at hk s5
  replace SX : Xb w5 o4 e S ⟨a, b, List.replicate 32 0, 0, [], []⟩ (.slice none 0 0) := ⟨hk, SX.col, SX.sum⟩
  replace XR := XR.stp s5 (by simpa using nce) (by simpa using n0e)
  replace RX := RX.stp s5 (by simpa using nge)
  replace ST := ST.trans (s5.mono (D := [c, e]) (by simp))
  replace SX := Lib.hid SX
  replace RX := Lib.hid RX
  replace XR := Lib.hid XR
  replace ST := Lib.hid ST
  replace hw5 := Lib.hid hw5
  clear s4 s5 X4 hk
  have XRd := XR.out.stp (Stp.refl [] w5 o4).drew (by simp) (by simp)
  have SXd := SX.out.stp (Stp.refl [] w5 o4).drew (by simp)
  have RXd := RX.out.stp (Stp.refl [] w5 o4).drew (by simp)
  have STd := ST.out.drew
  have hraw := xraw_calls c c0 m q _ _ _ 32 w5.drew o4 XRd hbad2.out (by omega)
  rw [xc.out] at hraw
  dsimp only at hraw
  replace XRd := Lib.hid XRd
  replace SXd := Lib.hid SXd
  replace RXd := Lib.hid RXd
  replace STd := Lib.hid STd
  replace hraw := Lib.hid hraw
  go_wp2_with fail
  rw [hw5.out]
  clear dc df
  go_region_held_law (fun _ => True) (trivial) (first
    | (go_at_call 89
       refine hraw.out.mono ?_
       rintro ex w6 ⟨r, o6, rfl, s6, q6, v6, X6⟩
       obtain ⟨A6, cap6, rfl⟩ := Own.shape q6
       have S6 := SXd.out.stp s6 (by simpa using nec)
       obtain ⟨w7, hrun, s7, S7⟩ := S6.copy (OwnB.rd q6) rfl hr3
       have XR := Lib.hid (X6.stp s7 (by simpa using nce) (by simpa using n0e))
       have RX := Lib.hid ((RXd.out.stp s6 (by simpa using ngc)).stp s7 (by simpa using nge))
       have ST := Lib.hid ((STd.out.trans (s6.mono (D := [c, e]) (by simp))).trans (s7.mono (D := [c, e]) (by simp)))
       have SX := Lib.hid S7
       replace q6 := Lib.hid q6
       replace s6 := Lib.hid s6
       replace s7 := Lib.hid s7
       replace S6 := Lib.hid S6
       replace S7 := Lib.hid S7
       replace X6 := Lib.hid X6)
    | (refine step_copy _ _ rfl (by rfl) (by rfl) (by rfl) (by rfl) hrun ?_))
  clear hrun
  go_wp2_with fail
  have hnum := xnum_calls c c0 q _ _ _ w7 o6 XR.out hbad3.out (by omega)
  rw [xd.out] at hnum
  dsimp only at hnum
  go_wp2_with fail
  refine hnum.mono ?_
  clear hnum
  rintro ex w8 ⟨r, o8, rfl, s8, rfl, v8, X8⟩
  replace XR := X8
  replace RX := RX.out.stp s8 (by simpa using ngc)
  replace SX := SX.out.stp s8 (by simpa using nec)
  replace ST := ST.out.trans (s8.mono (D := [c, e]) (by simp))
  have dc := SX.c34
  have df := SX.free 34
  have hk := blk_set (j := 34) SX.blk (.int .i64 (d4 : Int))
  rw [cells_set34 _ _ _ SX.sum] at hk
  have s9 := (Stp.refl [e] w8 o8).setCell (p := ⟨S, 34, none⟩) (fun _ => by show o8 S ∈ _; rw [SX.col]; simp) (.int .i64 (d4 : Int))
  obtain ⟨w9, hw9⟩ : ∃ w', w8.setCell ⟨S, 34, none⟩ (.int .i64 (d4 : Int)) = w' := ⟨_, rfl⟩
  rw [hw9] at hk s9
  replace SX : Xb w9 o8 e S ⟨a, b, sum32 r3, d4, [], []⟩ (.slice none 0 0) := ⟨hk, SX.col, SX.sum⟩
  replace XR := XR.stp s9 (by simpa using nce) (by simpa using n0e)
  replace RX := RX.stp s9 (by simpa using nge)
  replace ST := ST.trans (s9.mono (D := [c, e]) (by simp))
  replace SX := Lib.hid SX
  replace RX := Lib.hid RX
  replace XR := Lib.hid XR
  replace ST := Lib.hid ST
  replace hw9 := Lib.hid hw9
  clear s8 s9 X8 hk
  have hnum := xbytes_calls c c0 m q _ _ _ w9 o8 XR.out hbad4.out (by omega)
  rw [xe.out] at hnum
  dsimp only at hnum
  go_wp2_with fail
  rw [hw9.out]
  refine hnum.mono ?_
  clear hnum
  rintro ex w10 ⟨r, o10, rfl, s10, q10, v10, X10⟩
  obtain ⟨A10, cap10, rfl⟩ := Own.shape q10
  have cv := convBS (OwnB.rd q10) rfl
  replace XR := X10
  replace RX := RX.out.stp s10 (by simpa using ngc)
  replace SX := SX.out.stp s10 (by simpa using nec)
  replace ST := ST.out.trans (s10.mono (D := [c, e]) (by simp))
  have dc := SX.c35
  have df := SX.free 35
  have hk := blk_set (j := 35) SX.blk (.string ⟨nm.toArray⟩)
  rw [cells_set35 _ _ _ SX.sum] at hk
  have s11 := (Stp.refl [e] w10 o10).setCell (p := ⟨S, 35, none⟩) (fun _ => by show o10 S ∈ _; rw [SX.col]; simp) (.string ⟨nm.toArray⟩)
  obtain ⟨w11, hw11⟩ : ∃ w', w10.setCell ⟨S, 35, none⟩ (.string ⟨nm.toArray⟩) = w' := ⟨_, rfl⟩
  rw [hw11] at hk s11
  replace SX : Xb w11 o10 e S ⟨a, b, sum32 r3, d4, nm, []⟩ (.slice none 0 0) := ⟨hk, SX.col, SX.sum⟩
  replace XR := XR.stp s11 (by simpa using nce) (by simpa using n0e)
  replace RX := RX.stp s11 (by simpa using nge)
  replace ST := ST.trans (s11.mono (D := [c, e]) (by simp))
  replace SX := Lib.hid SX
  replace RX := Lib.hid RX
  replace XR := Lib.hid XR
  replace ST := Lib.hid ST
  replace hw11 := Lib.hid hw11
  replace q10 := Lib.hid q10
  clear s10 s11 X10 hk
  have hnum := xbytes_calls c c0 m q _ _ _ w11 o10 XR.out hbad5.out (by omega)
  rw [xf.out] at hnum
  dsimp only at hnum
  go_wp2_with fail
  rw [hw11.out]
  refine hnum.mono ?_
  clear hnum
  rintro ex w12 ⟨r, o12, rfl, s12, q12, v12, X12⟩
  obtain ⟨A12, cap12, rfl⟩ := Own.shape q12
  replace XR := X12
  replace RX := RX.out.stp s12 (by simpa using ngc)
  replace SX := SX.out.stp s12 (by simpa using nec)
  replace ST := ST.out.trans (s12.mono (D := [c, e]) (by simp))
  have dc := SX.c36
  have df := SX.free 36
  have hk := blk_set (j := 36) SX.blk (.slice A12 md.length cap12)
  rw [cells_set36 _ _ _ md SX.sum] at hk
  have s13 := (Stp.refl [e] w12 o12).setCell (p := ⟨S, 36, none⟩) (fun _ => by show o12 S ∈ _; rw [SX.col]; simp) (.slice A12 md.length cap12)
  obtain ⟨w13, hw13⟩ : ∃ w', w12.setCell ⟨S, 36, none⟩ (.slice A12 md.length cap12) = w' := ⟨_, rfl⟩
  rw [hw13] at hk s13
  replace SX : Xb w13 o12 e S ⟨a, b, sum32 r3, d4, nm, md⟩ (.slice A12 md.length cap12) := ⟨hk, SX.col, SX.sum⟩
  replace XR := XR.stp s13 (by simpa using nce) (by simpa using n0e)
  replace RX := RX.stp s13 (by simpa using nge)
  replace ST := ST.trans (s13.mono (D := [c, e]) (by simp))
  have qm := Lib.hid (OwnB.stp q12 s13 (by simpa using nme))
  replace SX := Lib.hid SX
  replace RX := Lib.hid RX
  replace XR := Lib.hid XR
  replace ST := Lib.hid ST
  replace hw13 := Lib.hid hw13
  replace q12 := Lib.hid q12
  clear s12 s13 X12 hk
  go_wp2_with fail
  rw [hw13.out]
  have SXd := SX.out.stp (Stp.refl [] w13 o12).drew (by simp)
  have RXd := RX.out.stp (Stp.refl [] w13 o12).drew (by simp)
  have XRd := XR.out.stp (Stp.refl [] w13 o12).drew (by simp) (by simp)
  have STd : Stp [c, e] w o w13.drew o12 := ST.out.drew
  have qmd := OwnB.stp qm.out (Stp.refl [] w13 o12).drew (by simp)
  have d0 := SXd.c0
  have d1 := SXd.c1
  have hall := SXd.all
  have hinf := xstateInfo (vm := .slice A12 md.length cap12) SXd.sum
  have hone := cells_one ⟨a, b, sum32 r3, d4, nm, md⟩ A12 md.length cap12
  have hlz : (cellsBS zeroBS (.slice none 0 0)).toArray.size = (cellsBS ⟨a, b, sum32 r3, d4, nm, md⟩ (.slice A12 md.length cap12)).toArray.size := by rw [List.size_toArray, List.size_toArray, cellsBS_len (t := zeroBS) rfl, cellsBS_len SXd.sum]
  have s14 : Stp [g] w13.drew o12 (w13.drew.setRow R (cellsBS ⟨a, b, sum32 r3, d4, nm, md⟩ (.slice A12 md.length cap12)).toArray) o12 := setRow_stp (by rw [RXd.col]; simp) _
  have hR14 := setRow_heap _ _ _ (cellsBS ⟨a, b, sum32 r3, d4, nm, md⟩ (.slice A12 md.length cap12)).toArray _ _ RXd.blk
  have RX2 : Xb _ o12 g R ⟨a, b, sum32 r3, d4, nm, md⟩ (.slice A12 md.length cap12) := ⟨hR14, RXd.col, SXd.sum⟩
  have SX2 := SXd.stp s14 (by simpa using fun x => nge x.symm)
  have XR2 := XRd.stp s14 (by simpa using fun x => ngc x.symm) (by simpa using fun x => hg1.1 x.symm)
  have ST2 : Stp [g, c, e] w o _ o12 := (STd.mono (D := [g, c, e]) (by simp)).trans (s14.mono (by simp))
  have qm2 := OwnB.stp qmd s14 (by simpa using hm1.2.2.2.2)
  have hstR := storeAt_row 72 _ _ RXd.blk (by rw [List.size_toArray]; exact hinf) hlz hone
  have hldA := loadVar_cells 72 ⟨S, 0, none⟩ _ _ SXd.all Try.underlying72 rfl hinf
  have hldB := loadVar_cells 72 ⟨S, 0, none⟩ _ _ SX2.all Try.underlying72 rfl hinf
  have e0' := SX2.c0
  have e1' := SX2.c1
  obtain ⟨CL, hCL⟩ : ∃ CL, (cellsBS ⟨a, b, sum32 r3, d4, nm, md⟩ (.slice A12 md.length cap12)).toArray = CL := ⟨_, rfl⟩
  rw [hCL] at hstR hldA hldB s14 hR14 SX2 XR2 ST2 RX2 qm2 e0' e1'
  obtain ⟨wz, hwz⟩ : ∃ wz, w13.drew.setRow R CL = wz := ⟨_, rfl⟩
  rw [hwz] at hstR hldB s14 hR14 SX2 XR2 ST2 RX2 qm2 e0' e1'
  have hwhA := xwhole_calls c c0 q _ _ _ _ _ XRd
  have hwhB := xwhole_calls c c0 q _ _ _ _ _ XR2
  obtain ⟨WB, hWB⟩ : ∃ WB, (!b6 && l6.isEmpty) = WB := ⟨_, rfl⟩
  rw [hWB] at hwhA hwhB
  have hOK2 : (WB && decide (a < 2) && decide (b ≤ 512)) = OK := by rw [← hWB]; exact hOK.out
  have hfin : OwnB wz (paint o w.heap.size e0) e0 _ md := Own.fresh qm2 ST2 hmf e0
  have sfin := ((((ST2.drop hgf).drop hcf).drop hef)).repaint e0
  have RXf : Xb wz (fun _ => g) g R ⟨a, b, sum32 r3, d4, nm, md⟩ (.slice A12 md.length cap12) := ⟨RX2.blk, rfl, RX2.sum⟩
  have hcs : (WB = false ∧ OK = false) ∨ (WB = true ∧ (decide ((a : Int) ≤ 1) = false ∧ OK = false)) ∨ (WB = true ∧ (decide ((a : Int) ≤ 1) = true ∧ decide ((b : Int) ≤ 512) = false ∧ OK = false)) ∨ (WB = true ∧ (decide ((a : Int) ≤ 1) = true ∧ decide ((b : Int) ≤ 512) = true ∧ OK = true)) := by
    cases WB
    · exact .inl ⟨rfl, by rw [← hOK2]; simp⟩
    · refine .inr ?_
      by_cases ha : a < 2
      · by_cases hb' : b ≤ 512
        · exact .inr (.inr ⟨rfl, decide_eq_true (by omega), decide_eq_true (by omega), by rw [← hOK2]; simp [ha, hb']⟩)
        · exact .inr (.inl ⟨rfl, decide_eq_true (by omega), decide_eq_false (by omega), by rw [← hOK2]; simp [hb']⟩)
      · exact .inl ⟨rfl, decide_eq_false (by omega), by rw [← hOK2]; simp [ha]⟩
  replace SXd := Lib.hid SXd
  replace RXd := Lib.hid RXd
  replace XRd := Lib.hid XRd
  replace STd := Lib.hid STd
  replace qmd := Lib.hid qmd
  replace hall := Lib.hid hall
  replace hinf := Lib.hid hinf
  replace hone := Lib.hid hone
  replace hlz := Lib.hid hlz
  replace s14 := Lib.hid s14
  replace hR14 := Lib.hid hR14
  replace RX2 := Lib.hid RX2
  replace SX2 := Lib.hid SX2
  replace XR2 := Lib.hid XR2
  replace ST2 := Lib.hid ST2
  replace qm2 := Lib.hid qm2
  replace hstR := Lib.hid hstR
  replace hwhA := Lib.hid hwhA
  replace hwhB := Lib.hid hwhB
  replace hfin := Lib.hid hfin
  replace sfin := Lib.hid sfin
  replace RXf := Lib.hid RXf
  replace hOK2 := Lib.hid hOK2
  replace hWB := Lib.hid hWB
  replace hCL := Lib.hid hCL
  replace hwz := Lib.hid hwz
  replace hOK := Lib.hid hOK
  clear dc df
  rcases hcs with ⟨rfl, rfl⟩ | ⟨rfl, k1, rfl⟩ | ⟨rfl, k1, k2, rfl⟩ | ⟨rfl, k1, k2, rfl⟩
  · refine wp_region_held_drew (S := fun w' => w' = w13.drew ∨ w' = wz) (by kernel_rfl) (.inl rfl) (fun hHeld => ?_)
    refine wpAnyH_take (i := 0) (oi := ⟨some 30, _, _, _, _, _⟩) (v := ?_) rfl (by kernel_rfl) (by kernel_rfl) (by kernel_rfl) (fun _ _ _ h => h) (Or.inl ⟨by kernel_rfl, ?_⟩) (by assumption) ?_
    rotate_left
    · intro w' hSw
      rcases hSw with rfl | rfl
      all_goals (first | (rw [run_load 72 _ rfl ⟨S, 0, none⟩ rfl hldA]) | (rw [run_load 72 _ rfl ⟨S, 0, none⟩ rfl hldB]))
    simp only [Act.put, List.setIfInBounds_toArray, List.set_cons_zero, List.set_cons_succ]
    refine wpAnyH_take (i := 1) (oi := ⟨some 31, _, _, _, _, _⟩) (v := ?_) rfl (by kernel_rfl) (by kernel_rfl) (by kernel_rfl) (fun _ _ _ h => h) (Or.inl ⟨by kernel_rfl, ?_⟩) (by assumption) ?_
    rotate_left
    · intro w' hSw
      rcases hSw with rfl | rfl
      all_goals (go_simp; try with_reducible rfl)
    simp only [Act.put, List.setIfInBounds_toArray, List.set_cons_zero, List.set_cons_succ]
    refine wpAnyH_ready (rs := [2]) (by kernel_rfl) (by simp) ?_
    refine AllReadyH.cons (o := ⟨some 32, _, _, _, _, _⟩) rfl (fun K hK => ?_) AllReadyH.nil
    go_simp
    go_at_call 91
    refine hwhA.out.mono ?_
    rintro ex wq ⟨rfl, rfl⟩
    refine hK.out _ _ (.inl rfl) (fun hHeld => ?_)
    clear hK K
    try simp only [Act.put, List.setIfInBounds_toArray, List.set_cons_zero, List.set_cons_succ]
    refine wpAnyH_take (i := 3) (oi := ⟨some 33, _, _, _, _, _⟩) (v := ?_) rfl (by kernel_rfl) (by kernel_rfl) (by kernel_rfl) (fun _ _ _ h => h) (Or.inl ⟨by kernel_rfl, ?_⟩) (by assumption) ?_
    rotate_left
    · intro w' hSw
      rcases hSw with rfl | rfl
      all_goals (go_simp; try with_reducible rfl)
    simp only [Act.put, List.setIfInBounds_toArray, List.set_cons_zero, List.set_cons_succ]
    refine wpAnyH_take (i := 4) (oi := ⟨some 34, _, _, _, _, _⟩) (v := undef) rfl (by kernel_rfl) (by kernel_rfl) (by kernel_rfl) (fun _ _ _ h => h) (Or.inr ⟨by kernel_rfl, rfl⟩) (by assumption) ?_
    simp only [Act.put, List.setIfInBounds_toArray, List.set_cons_zero, List.set_cons_succ]
    refine wpAnyH_take (i := 5) (oi := ⟨some 35, _, _, _, _, _⟩) (v := undef) rfl (by kernel_rfl) (by kernel_rfl) (by kernel_rfl) (fun _ _ _ h => h) (Or.inr ⟨by kernel_rfl, rfl⟩) (by assumption) ?_
    simp only [Act.put, List.setIfInBounds_toArray, List.set_cons_zero, List.set_cons_succ]
    refine wpAnyH_take (i := 6) (oi := ⟨some 36, _, _, _, _, _⟩) (v := undef) rfl (by kernel_rfl) (by kernel_rfl) (by kernel_rfl) (fun _ _ _ h => h) (Or.inr ⟨by kernel_rfl, rfl⟩) (by assumption) ?_
    simp only [Act.put, List.setIfInBounds_toArray, List.set_cons_zero, List.set_cons_succ]
    refine wpAnyH_take (i := 7) (oi := ⟨some 37, _, _, _, _, _⟩) (v := ?_) rfl (by kernel_rfl) (by kernel_rfl) (by kernel_rfl) (fun _ _ _ h => h) (Or.inl ⟨by kernel_rfl, ?_⟩) (by assumption) ?_
    rotate_left
    · intro w' hSw
      rcases hSw with rfl | rfl
      all_goals (go_simp; try with_reducible rfl)
    simp only [Act.put, List.setIfInBounds_toArray, List.set_cons_zero, List.set_cons_succ]
    refine wpAnyH_take (i := 8) (oi := ⟨some 38, _, _, _, _, _⟩) (v := ?_) rfl (by kernel_rfl) (by kernel_rfl) (by kernel_rfl) (fun _ _ _ h => h) (Or.inl ⟨by kernel_rfl, ?_⟩) (by assumption) ?_
    rotate_left
    · intro w' hSw
      rcases hSw with rfl | rfl
      all_goals (go_simp; try with_reducible rfl)
    simp only [Act.put, List.setIfInBounds_toArray, List.set_cons_zero, List.set_cons_succ]
    refine wpAnyH_take (i := 9) (oi := ⟨some 39, _, _, _, _, _⟩) (v := undef) rfl (by kernel_rfl) (by kernel_rfl) (by kernel_rfl) (fun _ _ _ h => h) (Or.inr ⟨by kernel_rfl, rfl⟩) (by assumption) ?_
    simp only [Act.put, List.setIfInBounds_toArray, List.set_cons_zero, List.set_cons_succ]
    refine wpAnyH_take (i := 10) (oi := ⟨some 40, _, _, _, _, _⟩) (v := undef) rfl (by kernel_rfl) (by kernel_rfl) (by kernel_rfl) (fun _ _ _ h => h) (Or.inr ⟨by kernel_rfl, rfl⟩) (by assumption) ?_
    simp only [Act.put, List.setIfInBounds_toArray, List.set_cons_zero, List.set_cons_succ]
    refine wpAnyH_take (i := 11) (oi := ⟨some 41, _, _, _, _, _⟩) (v := undef) rfl (by kernel_rfl) (by kernel_rfl) (by kernel_rfl) (fun _ _ _ h => h) (Or.inr ⟨by kernel_rfl, rfl⟩) (by assumption) ?_
    simp only [Act.put, List.setIfInBounds_toArray, List.set_cons_zero, List.set_cons_succ]
    refine wpAnyH_take (i := 12) (oi := ⟨some 42, _, _, _, _, _⟩) (v := ?_) rfl (by kernel_rfl) (by kernel_rfl) (by kernel_rfl) (fun _ _ _ h => h) (Or.inl ⟨by kernel_rfl, ?_⟩) (by assumption) ?_
    rotate_left
    · intro w' hSw
      rcases hSw with rfl | rfl
      all_goals (go_simp; try with_reducible rfl)
    simp only [Act.put, List.setIfInBounds_toArray, List.set_cons_zero, List.set_cons_succ]
    refine wpAnyH_ready (rs := [13]) (by kernel_rfl) (by simp) ?_
    refine AllReadyH.cons (o := ⟨none, _, _, _, _, _⟩) rfl (fun K hK => ?_) AllReadyH.nil
    refine step_store (V := .agg CL) 72 (.tmp 2) (.tmp 30) (by kernel_rfl) (by kernel_rfl) R (by kernel_rfl) (by kernel_rfl) hstR.out ?_
    refine hK.out _ _ (.inr rfl) (fun hHeld => ?_)
    clear hK K
    try simp only [Act.put, List.setIfInBounds_toArray, List.set_cons_zero, List.set_cons_succ]
    refine wpAnyH_take (i := 14) (oi := ⟨some 3, _, _, _, _, _⟩) (v := ?_) rfl (by kernel_rfl) (by kernel_rfl) (by kernel_rfl) (fun _ _ _ h => h) (Or.inl ⟨by kernel_rfl, ?_⟩) (by assumption) ?_
    rotate_left
    · intro w' hSw
      rcases hSw with rfl | rfl
      all_goals (go_simp; try with_reducible rfl)
    simp only [Act.put, List.setIfInBounds_toArray, List.set_cons_zero, List.set_cons_succ]
    refine wpAnyH_done (by kernel_rfl) ?_ _
    clear hHeld hldA hldB d0 d1 e0' e1'
    repeat go_step
    refine bodyPost_ret (xstateRes2 rfl _ rfl RXf.out) rfl ?_
    exact Post.mk sfin.out ⟨_, rfl, hfin.out⟩
  · refine wp_region_held_drew (S := fun w' => w' = w13.drew ∨ w' = wz) (by kernel_rfl) (.inl rfl) (fun hHeld => ?_)
    refine wpAnyH_take (i := 0) (oi := ⟨some 30, _, _, _, _, _⟩) (v := ?_) rfl (by kernel_rfl) (by kernel_rfl) (by kernel_rfl) (fun _ _ _ h => h) (Or.inl ⟨by kernel_rfl, ?_⟩) (by assumption) ?_
    rotate_left
    · intro w' hSw
      rcases hSw with rfl | rfl
      all_goals (first | (rw [run_load 72 _ rfl ⟨S, 0, none⟩ rfl hldA]) | (rw [run_load 72 _ rfl ⟨S, 0, none⟩ rfl hldB]))
    simp only [Act.put, List.setIfInBounds_toArray, List.set_cons_zero, List.set_cons_succ]
    refine wpAnyH_take (i := 1) (oi := ⟨some 31, _, _, _, _, _⟩) (v := ?_) rfl (by kernel_rfl) (by kernel_rfl) (by kernel_rfl) (fun _ _ _ h => h) (Or.inl ⟨by kernel_rfl, ?_⟩) (by assumption) ?_
    rotate_left
    · intro w' hSw
      rcases hSw with rfl | rfl
      all_goals (go_simp; try with_reducible rfl)
    simp only [Act.put, List.setIfInBounds_toArray, List.set_cons_zero, List.set_cons_succ]
    refine wpAnyH_ready (rs := [2]) (by kernel_rfl) (by simp) ?_
    refine AllReadyH.cons (o := ⟨some 32, _, _, _, _, _⟩) rfl (fun K hK => ?_) AllReadyH.nil
    go_simp
    go_at_call 91
    refine hwhA.out.mono ?_
    rintro ex wq ⟨rfl, rfl⟩
    refine hK.out _ _ (.inl rfl) (fun hHeld => ?_)
    clear hK K
    try simp only [Act.put, List.setIfInBounds_toArray, List.set_cons_zero, List.set_cons_succ]
    refine wpAnyH_take (i := 3) (oi := ⟨some 33, _, _, _, _, _⟩) (v := ?_) rfl (by kernel_rfl) (by kernel_rfl) (by kernel_rfl) (fun _ _ _ h => h) (Or.inl ⟨by kernel_rfl, ?_⟩) (by assumption) ?_
    rotate_left
    · intro w' hSw
      rcases hSw with rfl | rfl
      all_goals (go_simp; try with_reducible rfl)
    simp only [Act.put, List.setIfInBounds_toArray, List.set_cons_zero, List.set_cons_succ]
    refine wpAnyH_take (i := 4) (oi := ⟨some 34, _, _, _, _, _⟩) (v := ?_) rfl (by kernel_rfl) (by kernel_rfl) (by kernel_rfl) (fun _ _ _ h => h) (Or.inl ⟨by kernel_rfl, ?_⟩) (by assumption) ?_
    rotate_left
    · intro w' hSw
      rcases hSw with rfl | rfl
      all_goals (go_simp; try with_reducible rfl)
    simp only [Act.put, List.setIfInBounds_toArray, List.set_cons_zero, List.set_cons_succ]
    refine wpAnyH_take (i := 5) (oi := ⟨some 35, _, _, _, _, _⟩) (v := ?_) rfl (by kernel_rfl) (by kernel_rfl) (by kernel_rfl) (fun _ _ _ h => h) (Or.inl ⟨by kernel_rfl, ?_⟩) (by assumption) ?_
    rotate_left
    · intro w' hSw
      rcases hSw with rfl | rfl
      all_goals (go_simp; try with_reducible rfl)
    simp only [Act.put, List.setIfInBounds_toArray, List.set_cons_zero, List.set_cons_succ]
    refine wpAnyH_take (i := 6) (oi := ⟨some 36, _, _, _, _, _⟩) (v := ?_) rfl (by kernel_rfl) (by kernel_rfl) (by kernel_rfl) (fun _ _ _ h => h) (Or.inl ⟨by kernel_rfl, ?_⟩) (by assumption) ?_
    rotate_left
    · intro w' hSw
      rcases hSw with rfl | rfl
      all_goals (go_simp; try with_reducible rfl)
    simp only [Act.put, List.setIfInBounds_toArray, List.set_cons_zero, List.set_cons_succ]
    refine wpAnyH_take (i := 7) (oi := ⟨some 37, _, _, _, _, _⟩) (v := ?_) rfl (by kernel_rfl) (by kernel_rfl) (by kernel_rfl) (fun _ _ _ h => h) (Or.inl ⟨by kernel_rfl, ?_⟩) (by assumption) ?_
    rotate_left
    · intro w' hSw
      rcases hSw with rfl | rfl
      all_goals (go_simp; try with_reducible rfl)
    simp only [Act.put, List.setIfInBounds_toArray, List.set_cons_zero, List.set_cons_succ]
    refine wpAnyH_take (i := 8) (oi := ⟨some 38, _, _, _, _, _⟩) (v := ?_) rfl (by kernel_rfl) (by kernel_rfl) (by kernel_rfl) (fun _ _ _ h => h) (Or.inl ⟨by kernel_rfl, ?_⟩) (by assumption) ?_
    rotate_left
    · intro w' hSw
      rcases hSw with rfl | rfl
      all_goals (go_simp; try with_reducible rfl)
    simp only [Act.put, List.setIfInBounds_toArray, List.set_cons_zero, List.set_cons_succ]
    refine wpAnyH_take (i := 9) (oi := ⟨some 39, _, _, _, _, _⟩) (v := undef) rfl (by kernel_rfl) (by kernel_rfl) (by kernel_rfl) (fun _ _ _ h => h) (Or.inr ⟨by kernel_rfl, rfl⟩) (by assumption) ?_
    simp only [Act.put, List.setIfInBounds_toArray, List.set_cons_zero, List.set_cons_succ]
    refine wpAnyH_take (i := 10) (oi := ⟨some 40, _, _, _, _, _⟩) (v := undef) rfl (by kernel_rfl) (by kernel_rfl) (by kernel_rfl) (fun _ _ _ h => h) (Or.inr ⟨by kernel_rfl, rfl⟩) (by assumption) ?_
    simp only [Act.put, List.setIfInBounds_toArray, List.set_cons_zero, List.set_cons_succ]
    refine wpAnyH_take (i := 11) (oi := ⟨some 41, _, _, _, _, _⟩) (v := undef) rfl (by kernel_rfl) (by kernel_rfl) (by kernel_rfl) (fun _ _ _ h => h) (Or.inr ⟨by kernel_rfl, rfl⟩) (by assumption) ?_
    simp only [Act.put, List.setIfInBounds_toArray, List.set_cons_zero, List.set_cons_succ]
    refine wpAnyH_take (i := 12) (oi := ⟨some 42, _, _, _, _, _⟩) (v := ?_) rfl (by kernel_rfl) (by kernel_rfl) (by kernel_rfl) (fun _ _ _ h => h) (Or.inl ⟨by kernel_rfl, ?_⟩) (by assumption) ?_
    rotate_left
    · intro w' hSw
      rcases hSw with rfl | rfl
      all_goals (go_simp; try with_reducible rfl)
    simp only [Act.put, List.setIfInBounds_toArray, List.set_cons_zero, List.set_cons_succ]
    refine wpAnyH_ready (rs := [13]) (by kernel_rfl) (by simp) ?_
    refine AllReadyH.cons (o := ⟨none, _, _, _, _, _⟩) rfl (fun K hK => ?_) AllReadyH.nil
    refine step_store (V := .agg CL) 72 (.tmp 2) (.tmp 30) (by kernel_rfl) (by kernel_rfl) R (by kernel_rfl) (by kernel_rfl) hstR.out ?_
    refine hK.out _ _ (.inr rfl) (fun hHeld => ?_)
    clear hK K
    try simp only [Act.put, List.setIfInBounds_toArray, List.set_cons_zero, List.set_cons_succ]
    refine wpAnyH_take (i := 14) (oi := ⟨some 3, _, _, _, _, _⟩) (v := ?_) rfl (by kernel_rfl) (by kernel_rfl) (by kernel_rfl) (fun _ _ _ h => h) (Or.inl ⟨by kernel_rfl, ?_⟩) (by assumption) ?_
    rotate_left
    · intro w' hSw
      rcases hSw with rfl | rfl
      all_goals (go_simp; try with_reducible rfl)
    simp only [Act.put, List.setIfInBounds_toArray, List.set_cons_zero, List.set_cons_succ]
    refine wpAnyH_done (by kernel_rfl) ?_ _
    clear hHeld hldA hldB d0 d1 e0' e1'
    repeat go_step
    refine bodyPost_ret (xstateRes2 rfl _ rfl RXf.out) rfl ?_
    exact Post.mk sfin.out ⟨_, rfl, hfin.out⟩
  · refine wp_region_held_drew (S := fun w' => w' = w13.drew ∨ w' = wz) (by kernel_rfl) (.inl rfl) (fun hHeld => ?_)
    refine wpAnyH_take (i := 0) (oi := ⟨some 30, _, _, _, _, _⟩) (v := ?_) rfl (by kernel_rfl) (by kernel_rfl) (by kernel_rfl) (fun _ _ _ h => h) (Or.inl ⟨by kernel_rfl, ?_⟩) (by assumption) ?_
    rotate_left
    · intro w' hSw
      rcases hSw with rfl | rfl
      all_goals (first | (rw [run_load 72 _ rfl ⟨S, 0, none⟩ rfl hldA]) | (rw [run_load 72 _ rfl ⟨S, 0, none⟩ rfl hldB]))
    simp only [Act.put, List.setIfInBounds_toArray, List.set_cons_zero, List.set_cons_succ]
    refine wpAnyH_take (i := 1) (oi := ⟨some 31, _, _, _, _, _⟩) (v := ?_) rfl (by kernel_rfl) (by kernel_rfl) (by kernel_rfl) (fun _ _ _ h => h) (Or.inl ⟨by kernel_rfl, ?_⟩) (by assumption) ?_
    rotate_left
    · intro w' hSw
      rcases hSw with rfl | rfl
      all_goals (go_simp; try with_reducible rfl)
    simp only [Act.put, List.setIfInBounds_toArray, List.set_cons_zero, List.set_cons_succ]
    refine wpAnyH_ready (rs := [2]) (by kernel_rfl) (by simp) ?_
    refine AllReadyH.cons (o := ⟨some 32, _, _, _, _, _⟩) rfl (fun K hK => ?_) AllReadyH.nil
    go_simp
    go_at_call 91
    refine hwhA.out.mono ?_
    rintro ex wq ⟨rfl, rfl⟩
    refine hK.out _ _ (.inl rfl) (fun hHeld => ?_)
    clear hK K
    try simp only [Act.put, List.setIfInBounds_toArray, List.set_cons_zero, List.set_cons_succ]
    refine wpAnyH_take (i := 3) (oi := ⟨some 33, _, _, _, _, _⟩) (v := ?_) rfl (by kernel_rfl) (by kernel_rfl) (by kernel_rfl) (fun _ _ _ h => h) (Or.inl ⟨by kernel_rfl, ?_⟩) (by assumption) ?_
    rotate_left
    · intro w' hSw
      rcases hSw with rfl | rfl
      all_goals (go_simp; try with_reducible rfl)
    simp only [Act.put, List.setIfInBounds_toArray, List.set_cons_zero, List.set_cons_succ]
    refine wpAnyH_take (i := 4) (oi := ⟨some 34, _, _, _, _, _⟩) (v := ?_) rfl (by kernel_rfl) (by kernel_rfl) (by kernel_rfl) (fun _ _ _ h => h) (Or.inl ⟨by kernel_rfl, ?_⟩) (by assumption) ?_
    rotate_left
    · intro w' hSw
      rcases hSw with rfl | rfl
      all_goals (go_simp; try with_reducible rfl)
    simp only [Act.put, List.setIfInBounds_toArray, List.set_cons_zero, List.set_cons_succ]
    refine wpAnyH_take (i := 5) (oi := ⟨some 35, _, _, _, _, _⟩) (v := ?_) rfl (by kernel_rfl) (by kernel_rfl) (by kernel_rfl) (fun _ _ _ h => h) (Or.inl ⟨by kernel_rfl, ?_⟩) (by assumption) ?_
    rotate_left
    · intro w' hSw
      rcases hSw with rfl | rfl
      all_goals (go_simp; try with_reducible rfl)
    simp only [Act.put, List.setIfInBounds_toArray, List.set_cons_zero, List.set_cons_succ]
    refine wpAnyH_take (i := 6) (oi := ⟨some 36, _, _, _, _, _⟩) (v := ?_) rfl (by kernel_rfl) (by kernel_rfl) (by kernel_rfl) (fun _ _ _ h => h) (Or.inl ⟨by kernel_rfl, ?_⟩) (by assumption) ?_
    rotate_left
    · intro w' hSw
      rcases hSw with rfl | rfl
      all_goals (go_simp; try with_reducible rfl)
    simp only [Act.put, List.setIfInBounds_toArray, List.set_cons_zero, List.set_cons_succ]
    refine wpAnyH_take (i := 7) (oi := ⟨some 37, _, _, _, _, _⟩) (v := ?_) rfl (by kernel_rfl) (by kernel_rfl) (by kernel_rfl) (fun _ _ _ h => h) (Or.inl ⟨by kernel_rfl, ?_⟩) (by assumption) ?_
    rotate_left
    · intro w' hSw
      rcases hSw with rfl | rfl
      all_goals (go_simp; try with_reducible rfl)
    simp only [Act.put, List.setIfInBounds_toArray, List.set_cons_zero, List.set_cons_succ]
    refine wpAnyH_take (i := 8) (oi := ⟨some 38, _, _, _, _, _⟩) (v := ?_) rfl (by kernel_rfl) (by kernel_rfl) (by kernel_rfl) (fun _ _ _ h => h) (Or.inl ⟨by kernel_rfl, ?_⟩) (by assumption) ?_
    rotate_left
    · intro w' hSw
      rcases hSw with rfl | rfl
      all_goals (go_simp; try with_reducible rfl)
    simp only [Act.put, List.setIfInBounds_toArray, List.set_cons_zero, List.set_cons_succ]
    refine wpAnyH_take (i := 9) (oi := ⟨some 39, _, _, _, _, _⟩) (v := ?_) rfl (by kernel_rfl) (by kernel_rfl) (by kernel_rfl) (fun _ _ _ h => h) (Or.inl ⟨by kernel_rfl, ?_⟩) (by assumption) ?_
    rotate_left
    · intro w' hSw
      rcases hSw with rfl | rfl
      all_goals (go_simp; try with_reducible rfl)
    simp only [Act.put, List.setIfInBounds_toArray, List.set_cons_zero, List.set_cons_succ]
    refine wpAnyH_take (i := 10) (oi := ⟨some 40, _, _, _, _, _⟩) (v := ?_) rfl (by kernel_rfl) (by kernel_rfl) (by kernel_rfl) (fun _ _ _ h => h) (Or.inl ⟨by kernel_rfl, ?_⟩) (by assumption) ?_
    rotate_left
    · intro w' hSw
      rcases hSw with rfl | rfl
      all_goals (go_simp; try with_reducible rfl)
    simp only [Act.put, List.setIfInBounds_toArray, List.set_cons_zero, List.set_cons_succ]
    refine wpAnyH_take (i := 11) (oi := ⟨some 41, _, _, _, _, _⟩) (v := ?_) rfl (by kernel_rfl) (by kernel_rfl) (by kernel_rfl) (fun _ _ _ h => h) (Or.inl ⟨by kernel_rfl, ?_⟩) (by assumption) ?_
    rotate_left
    · intro w' hSw
      rcases hSw with rfl | rfl
      all_goals (go_simp; try with_reducible rfl)
    simp only [Act.put, List.setIfInBounds_toArray, List.set_cons_zero, List.set_cons_succ]
    refine wpAnyH_take (i := 12) (oi := ⟨some 42, _, _, _, _, _⟩) (v := ?_) rfl (by kernel_rfl) (by kernel_rfl) (by kernel_rfl) (fun _ _ _ h => h) (Or.inl ⟨by kernel_rfl, ?_⟩) (by assumption) ?_
    rotate_left
    · intro w' hSw
      rcases hSw with rfl | rfl
      all_goals (go_simp; try with_reducible rfl)
    simp only [Act.put, List.setIfInBounds_toArray, List.set_cons_zero, List.set_cons_succ]
    refine wpAnyH_ready (rs := [13]) (by kernel_rfl) (by simp) ?_
    refine AllReadyH.cons (o := ⟨none, _, _, _, _, _⟩) rfl (fun K hK => ?_) AllReadyH.nil
    refine step_store (V := .agg CL) 72 (.tmp 2) (.tmp 30) (by kernel_rfl) (by kernel_rfl) R (by kernel_rfl) (by kernel_rfl) hstR.out ?_
    refine hK.out _ _ (.inr rfl) (fun hHeld => ?_)
    clear hK K
    try simp only [Act.put, List.setIfInBounds_toArray, List.set_cons_zero, List.set_cons_succ]
    refine wpAnyH_take (i := 14) (oi := ⟨some 3, _, _, _, _, _⟩) (v := ?_) rfl (by kernel_rfl) (by kernel_rfl) (by kernel_rfl) (fun _ _ _ h => h) (Or.inl ⟨by kernel_rfl, ?_⟩) (by assumption) ?_
    rotate_left
    · intro w' hSw
      rcases hSw with rfl | rfl
      all_goals (go_simp; try with_reducible rfl)
    simp only [Act.put, List.setIfInBounds_toArray, List.set_cons_zero, List.set_cons_succ]
    refine wpAnyH_done (by kernel_rfl) ?_ _
    clear hHeld hldA hldB d0 d1 e0' e1'
    repeat go_step
    refine bodyPost_ret (xstateRes2 rfl _ rfl RXf.out) rfl ?_
    exact Post.mk sfin.out ⟨_, rfl, hfin.out⟩
  · refine wp_region_held_drew (S := fun w' => w' = w13.drew ∨ w' = wz) (by kernel_rfl) (.inl rfl) (fun hHeld => ?_)
    refine wpAnyH_take (i := 0) (oi := ⟨some 30, _, _, _, _, _⟩) (v := ?_) rfl (by kernel_rfl) (by kernel_rfl) (by kernel_rfl) (fun _ _ _ h => h) (Or.inl ⟨by kernel_rfl, ?_⟩) (by assumption) ?_
    rotate_left
    · intro w' hSw
      rcases hSw with rfl | rfl
      all_goals (first | (rw [run_load 72 _ rfl ⟨S, 0, none⟩ rfl hldA]) | (rw [run_load 72 _ rfl ⟨S, 0, none⟩ rfl hldB]))
    simp only [Act.put, List.setIfInBounds_toArray, List.set_cons_zero, List.set_cons_succ]
    refine wpAnyH_take (i := 1) (oi := ⟨some 31, _, _, _, _, _⟩) (v := ?_) rfl (by kernel_rfl) (by kernel_rfl) (by kernel_rfl) (fun _ _ _ h => h) (Or.inl ⟨by kernel_rfl, ?_⟩) (by assumption) ?_
    rotate_left
    · intro w' hSw
      rcases hSw with rfl | rfl
      all_goals (go_simp; try with_reducible rfl)
    simp only [Act.put, List.setIfInBounds_toArray, List.set_cons_zero, List.set_cons_succ]
    refine wpAnyH_ready (rs := [2]) (by kernel_rfl) (by simp) ?_
    refine AllReadyH.cons (o := ⟨some 32, _, _, _, _, _⟩) rfl (fun K hK => ?_) AllReadyH.nil
    go_simp
    go_at_call 91
    refine hwhA.out.mono ?_
    rintro ex wq ⟨rfl, rfl⟩
    refine hK.out _ _ (.inl rfl) (fun hHeld => ?_)
    clear hK K
    try simp only [Act.put, List.setIfInBounds_toArray, List.set_cons_zero, List.set_cons_succ]
    refine wpAnyH_take (i := 3) (oi := ⟨some 33, _, _, _, _, _⟩) (v := ?_) rfl (by kernel_rfl) (by kernel_rfl) (by kernel_rfl) (fun _ _ _ h => h) (Or.inl ⟨by kernel_rfl, ?_⟩) (by assumption) ?_
    rotate_left
    · intro w' hSw
      rcases hSw with rfl | rfl
      all_goals (go_simp; try with_reducible rfl)
    simp only [Act.put, List.setIfInBounds_toArray, List.set_cons_zero, List.set_cons_succ]
    refine wpAnyH_take (i := 4) (oi := ⟨some 34, _, _, _, _, _⟩) (v := ?_) rfl (by kernel_rfl) (by kernel_rfl) (by kernel_rfl) (fun _ _ _ h => h) (Or.inl ⟨by kernel_rfl, ?_⟩) (by assumption) ?_
    rotate_left
    · intro w' hSw
      rcases hSw with rfl | rfl
      all_goals (go_simp; try with_reducible rfl)
    simp only [Act.put, List.setIfInBounds_toArray, List.set_cons_zero, List.set_cons_succ]
    refine wpAnyH_take (i := 5) (oi := ⟨some 35, _, _, _, _, _⟩) (v := ?_) rfl (by kernel_rfl) (by kernel_rfl) (by kernel_rfl) (fun _ _ _ h => h) (Or.inl ⟨by kernel_rfl, ?_⟩) (by assumption) ?_
    rotate_left
    · intro w' hSw
      rcases hSw with rfl | rfl
      all_goals (go_simp; try with_reducible rfl)
    simp only [Act.put, List.setIfInBounds_toArray, List.set_cons_zero, List.set_cons_succ]
    refine wpAnyH_take (i := 6) (oi := ⟨some 36, _, _, _, _, _⟩) (v := ?_) rfl (by kernel_rfl) (by kernel_rfl) (by kernel_rfl) (fun _ _ _ h => h) (Or.inl ⟨by kernel_rfl, ?_⟩) (by assumption) ?_
    rotate_left
    · intro w' hSw
      rcases hSw with rfl | rfl
      all_goals (go_simp; try with_reducible rfl)
    simp only [Act.put, List.setIfInBounds_toArray, List.set_cons_zero, List.set_cons_succ]
    refine wpAnyH_take (i := 7) (oi := ⟨some 37, _, _, _, _, _⟩) (v := ?_) rfl (by kernel_rfl) (by kernel_rfl) (by kernel_rfl) (fun _ _ _ h => h) (Or.inl ⟨by kernel_rfl, ?_⟩) (by assumption) ?_
    rotate_left
    · intro w' hSw
      rcases hSw with rfl | rfl
      all_goals (go_simp; try with_reducible rfl)
    simp only [Act.put, List.setIfInBounds_toArray, List.set_cons_zero, List.set_cons_succ]
    refine wpAnyH_take (i := 8) (oi := ⟨some 38, _, _, _, _, _⟩) (v := ?_) rfl (by kernel_rfl) (by kernel_rfl) (by kernel_rfl) (fun _ _ _ h => h) (Or.inl ⟨by kernel_rfl, ?_⟩) (by assumption) ?_
    rotate_left
    · intro w' hSw
      rcases hSw with rfl | rfl
      all_goals (go_simp; try with_reducible rfl)
    simp only [Act.put, List.setIfInBounds_toArray, List.set_cons_zero, List.set_cons_succ]
    refine wpAnyH_take (i := 9) (oi := ⟨some 39, _, _, _, _, _⟩) (v := ?_) rfl (by kernel_rfl) (by kernel_rfl) (by kernel_rfl) (fun _ _ _ h => h) (Or.inl ⟨by kernel_rfl, ?_⟩) (by assumption) ?_
    rotate_left
    · intro w' hSw
      rcases hSw with rfl | rfl
      all_goals (go_simp; try with_reducible rfl)
    simp only [Act.put, List.setIfInBounds_toArray, List.set_cons_zero, List.set_cons_succ]
    refine wpAnyH_take (i := 10) (oi := ⟨some 40, _, _, _, _, _⟩) (v := ?_) rfl (by kernel_rfl) (by kernel_rfl) (by kernel_rfl) (fun _ _ _ h => h) (Or.inl ⟨by kernel_rfl, ?_⟩) (by assumption) ?_
    rotate_left
    · intro w' hSw
      rcases hSw with rfl | rfl
      all_goals (go_simp; try with_reducible rfl)
    simp only [Act.put, List.setIfInBounds_toArray, List.set_cons_zero, List.set_cons_succ]
    refine wpAnyH_take (i := 11) (oi := ⟨some 41, _, _, _, _, _⟩) (v := ?_) rfl (by kernel_rfl) (by kernel_rfl) (by kernel_rfl) (fun _ _ _ h => h) (Or.inl ⟨by kernel_rfl, ?_⟩) (by assumption) ?_
    rotate_left
    · intro w' hSw
      rcases hSw with rfl | rfl
      all_goals (go_simp; try with_reducible rfl)
    simp only [Act.put, List.setIfInBounds_toArray, List.set_cons_zero, List.set_cons_succ]
    refine wpAnyH_take (i := 12) (oi := ⟨some 42, _, _, _, _, _⟩) (v := ?_) rfl (by kernel_rfl) (by kernel_rfl) (by kernel_rfl) (fun _ _ _ h => h) (Or.inl ⟨by kernel_rfl, ?_⟩) (by assumption) ?_
    rotate_left
    · intro w' hSw
      rcases hSw with rfl | rfl
      all_goals (go_simp; try with_reducible rfl)
    simp only [Act.put, List.setIfInBounds_toArray, List.set_cons_zero, List.set_cons_succ]
    refine wpAnyH_ready (rs := [13]) (by kernel_rfl) (by simp) ?_
    refine AllReadyH.cons (o := ⟨none, _, _, _, _, _⟩) rfl (fun K hK => ?_) AllReadyH.nil
    refine step_store (V := .agg CL) 72 (.tmp 2) (.tmp 30) (by kernel_rfl) (by kernel_rfl) R (by kernel_rfl) (by kernel_rfl) hstR.out ?_
    refine hK.out _ _ (.inr rfl) (fun hHeld => ?_)
    clear hK K
    try simp only [Act.put, List.setIfInBounds_toArray, List.set_cons_zero, List.set_cons_succ]
    refine wpAnyH_take (i := 14) (oi := ⟨some 3, _, _, _, _, _⟩) (v := ?_) rfl (by kernel_rfl) (by kernel_rfl) (by kernel_rfl) (fun _ _ _ h => h) (Or.inl ⟨by kernel_rfl, ?_⟩) (by assumption) ?_
    rotate_left
    · intro w' hSw
      rcases hSw with rfl | rfl
      all_goals (go_simp; try with_reducible rfl)
    simp only [Act.put, List.setIfInBounds_toArray, List.set_cons_zero, List.set_cons_succ]
    refine wpAnyH_done (by kernel_rfl) ?_ _
    clear hHeld hldA hldB d0 d1 e0' e1'
    repeat go_step
    refine bodyPost_ret (xstateRes2 rfl _ rfl RXf.out) rfl ?_
    exact Post.mk sfin.out ⟨_, rfl, hfin.out⟩
end Go.Proofs.Ytpjnmijfmfgdpaa
