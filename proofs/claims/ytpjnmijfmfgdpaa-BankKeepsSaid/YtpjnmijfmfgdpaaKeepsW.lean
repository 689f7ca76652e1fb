/- BankKeeps: the walk. Printed by wip/keepsgen.py. -/
import Derived.Test.YtpjnmijfmfgdpaaKnown13
import Derived.Test.YtpjnmijfmfgdpaaBankH
import Derived.Test.YtpjnmijfmfgdpaaBankJ
namespace Go.Proofs.Ytpjnmijfmfgdpaa
set_option linter.unusedVariables false
set_option linter.unusedSimpArgs false
open Go.RowKit

theorem madeK (n : Nat) : (madeCells (Value.int .u8 0).cells n).toList = vbs (List.replicate n 0) := by
  apply List.ext_getElem
  · simp [madeCells, vbs]
  · intro j h1 h2
    simp [madeCells, Value.cells, Nat.mod_one, vbs]
/-- 'make' of so many bytes. -/
theorem mkBk {w : World} {o : Col} {ops : Array Oper} {rest : List Oper} {op : Oper} {a : Act} {Q : Exit → Act → World → Prop} (x y : Operand) (hgd : op.guard = none) (hop : op.op = .makeSlice 22 x y) (N : Nat) (i : Int) (hi : i = N) (c : Nat) (hx : a.eval x = .int .i64 i) (hy : a.eval y = .int .i64 i) (hN : N ≤ 100000)
    (h : ∀ w', Stp [] w o w' (paint o w.heap.size c) → OwnB w' (paint o w.heap.size c) c (.slice (some ⟨w.heap.size, 0, none⟩) N N) (List.replicate N 0) → wpList Try.prog ops Q rest (a.put op.dst (.slice (some ⟨w.heap.size, 0, none⟩) N N)) w') : wpList Try.prog ops Q (op :: rest) a w := by
  subst hi
  obtain ⟨i, hi, hz, hsz, hby⟩ : ∃ i, Try.prog.info? 5 = some i ∧ i.zero = some (.int .u8 0) ∧ i.size = 1 ∧ i.bytes = 1 := info_parts (by kernel_rfl)
  have hrun := run_make (P := Try.prog) w 22 5 i _ Try.underlying22 hi hz .i64 .i64 N N (by omega) (by omega) (by rw [hby]; omega) (by omega)
  simp only [Int.toNat_natCast, hsz, Nat.mul_one] at hrun
  refine wpList_plain hgd fun K hK => ?_
  have key := h _ ((Stp.refl [] w o).alloc (.cells (madeCells (Value.int .u8 0).cells N) 5) c) (OwnB.new w o c _ (List.replicate N 0) (madeK N) N (by simp) (by omega) _ rfl)
  unfold Oper.wp execOp
  simp only [hop, hx, hy, hrun, Sem.run_bind, Sem.run_pure, Result.andThen_ok]
  exact hK _ _ key

set_option maxHeartbeats 4000000 in
set_option maxRecDepth 100000 in
theorem keeps_law (v1 : Value) (m : List UInt8) (v2 : Value) (d : List UInt8) (ov : Int) (w : World) (hm : RdB w (fun _ => 0) 0 v1 m) (hd : RdB w (fun _ => 0) 0 v2 d) (_ho : (Lit.int .i64 ov).wf = true) : Calls Try.prog 12 #[v1, v2, .int .i64 ov] w (Post [] w (fun _ => 0) fun r _ _ => r = .bool true) := by
  obtain ⟨A, capA, rfl, _, _⟩ := hm.shape
  obtain ⟨D, capD, rfl, _, _⟩ := hd.shape
  replace hm := Lib.hid hm
  replace hd := Lib.hid hd
  by_cases h1 : 512 < m.length
  · have g : decide ((512 : Int) < (m.length : Int)) = true := decide_eq_true (by omega)
    go_enter Try.func12, Try.ntmps12
    go_wp2
    go_ret
    exact Post.mk (Stp.refl _ _ _) rfl
  have gh1 : decide ((512 : Int) < (m.length : Int)) = false := decide_eq_false (by omega)
  by_cases h2 : 2000 < d.length
  · have g : decide ((2000 : Int) < (d.length : Int)) = true := decide_eq_true (by omega)
    go_enter Try.func12, Try.ntmps12
    go_wp2
    go_ret
    exact Post.mk (Stp.refl _ _ _) rfl
  have gh2 : decide ((2000 : Int) < (d.length : Int)) = false := decide_eq_false (by omega)
  by_cases h3 : ov < 1
  · have g : decide (ov < 1) = true := decide_eq_true h3
    go_enter Try.func12, Try.ntmps12
    go_wp2
    go_ret
    exact Post.mk (Stp.refl _ _ _) rfl
  have gh3 : decide (ov < 1) = false := decide_eq_false h3
  by_cases h4 : 60 < ov
  · have g : decide (60 < ov) = true := decide_eq_true h4
    go_enter Try.func12, Try.ntmps12
    go_wp2
    go_ret
    exact Post.mk (Stp.refl _ _ _) rfl
  have gh4 : decide (60 < ov) = false := decide_eq_false h4
  obtain ⟨M, hM⟩ : ∃ M : Nat, M = (2000 + ov).toNat := ⟨_, rfl⟩
  have hM2 : (2000 + ov : Int) = M := by omega
  have hMl : 2000 < M ∧ M ≤ 2060 := by omega
  obtain ⟨N, hN⟩ : ∃ N : Nat, N = (512 + ov).toNat := ⟨_, rfl⟩
  have hN2 : (512 + ov : Int) = N := by omega
  have hNl : 512 < N ∧ N ≤ 572 := by omega
  obtain ⟨S1, e1, b1, _⟩ := install_first [102] m [] 7 (by omega) (by simp) (by simp) (by omega)
  obtain ⟨S2, e2, b2⟩ := b1.keep (by omega) (nextB_ok (by omega) (by omega) (by omega) (by simp) (by omega)) d (by omega)
  have e0 := keep_none d
  have e3 := b2.boot
  obtain ⟨Y, hY⟩ : ∃ Y : List UInt8, List.replicate M 0 = Y := ⟨_, rfl⟩
  obtain ⟨X, hX⟩ : ∃ X : List UInt8, List.replicate N 0 = X := ⟨_, rfl⟩
  have hYl : Y.length = M := by rw [← hY, List.length_replicate]
  have hXl : X.length = N := by rw [← hX, List.length_replicate]
  have e4 : keepS S2 Y = (S2, 10) := b2.keep_long (by omega)
  have e5 : installS S2 [103] X 9 [] = (S2, 10) := b2.install_long (by omega)
  obtain ⟨S0, hS0⟩ : ∃ S0, newS 96 = S0 := ⟨_, rfl⟩
  have hnew := new96_calls 1 w (fun _ => 0)
  rw [hS0] at e0 e1 hnew
  have hpg := bpages_calls w
  obtain ⟨NB, hNB⟩ : ∃ NB, ({ nextB 0 [102] m 7 [] with mind := d } : BS) = NB := ⟨_, rfl⟩
  have hNc : NB.counter = 7 := by rw [← hNB]; rfl
  have hNn : NB.name = [102] := by rw [← hNB]; rfl
  have hNm : NB.mind = d := by rw [← hNB]
  have hNs : NB.sum.length = 32 := by rw [← hNB]; exact sha_len m
  rw [hNB] at e3
  replace hS0 := Lib.hid hS0
  replace e0 := Lib.hid e0
  replace e1 := Lib.hid e1
  replace e2 := Lib.hid e2
  replace e3 := Lib.hid e3
  replace e4 := Lib.hid e4
  replace e5 := Lib.hid e5
  replace b1 := Lib.hid b1
  replace b2 := Lib.hid b2
  replace hNB := Lib.hid hNB
  replace hNc := Lib.hid hNc
  replace hNn := Lib.hid hNn
  replace hNm := Lib.hid hNm
  replace hNs := Lib.hid hNs
  replace hM := Lib.hid hM
  replace hN := Lib.hid hN
  replace hM2 := Lib.hid hM2
  replace hN2 := Lib.hid hN2
  replace hY := Lib.hid hY
  replace hX := Lib.hid hX
  replace hYl := Lib.hid hYl
  replace hXl := Lib.hid hXl
  go_enter Try.func12, Try.ntmps12
  go_wp2_with fail
  refine hpg.mono ?_
  clear hpg
  rintro e w1 ⟨rfl, he⟩
  replace he := he.symm
  subst he
  go_wp2_with fail
  refine hnew.mono ?_
  clear hnew
  rintro e w1 ⟨r, o1, rfl, s1, p, g, cap, rfl, f1⟩
  have st1 : Stp [1] w (fun _ => 0) w1 o1 := s1.none
  replace st1 := Lib.hid st1
  replace f1 := Lib.hid f1
  clear s1
  go_wp2_with fail
  refine (keep_calls 1 0 p g cap S0 d _ w1 o1 f1.out (hd.out.stp st1.out (by simp)) (by decide)).mono ?_
  rw [e0.out]
  rintro e w2 ⟨r, o2, rfl, s2, rfl, f2⟩
  dsimp only at f2
  have st2 := st1.out.trans s2
  replace f2 := Lib.hid f2
  replace st2 := Lib.hid st2
  clear s2
  go_wp2_with fail
  refine (install_calls 1 0 4 p g cap S0 [102] m [] _ (.slice none 0 0) 7 w2 o2 f2.out (hm.out.stp st2.out (by simp)) (RdB.nil _ _ _) (by decide) (by decide)).mono ?_
  rw [e1.out]
  rintro e w3 ⟨r, o3, rfl, s3, rfl, f3⟩
  dsimp only at f3
  have st3 := st2.out.trans s3
  replace f3 := Lib.hid f3
  replace st3 := Lib.hid st3
  clear s3
  go_wp2_with fail
  refine (keep_calls 1 0 p g cap S1 d _ w3 o3 f3.out (hd.out.stp st3.out (by simp)) (by decide)).mono ?_
  rw [e2.out]
  rintro e w4 ⟨r, o4, rfl, s4, rfl, f4⟩
  dsimp only at f4
  have st4 := st3.out.trans s4
  replace f4 := Lib.hid f4
  replace st4 := Lib.hid st4
  clear s4
  have hbo := bboot_calls 1 4 4 p g cap S2 w4 o4 f4.out
  rw [e3.out] at hbo
  dsimp only at hbo
  go_wp2_with fail
  refine hbo.mono ?_
  clear hbo
  rintro e w5 ⟨r, o5, rfl, s5, vm, vi, rfl, q5, r5⟩
  obtain ⟨A5, capA5, rfl⟩ := Own.shape q5
  obtain ⟨I5, capI5, rfl, _, _⟩ := r5.shape
  obtain ⟨w6, w7, o7, hwa7, hwb7, hz7, s7, B7, i1, i2, i3⟩ := Sb.lay (w := w5) (o := o5) (e := 4) NB (.slice A5 NB.mind.length capA5) _ _ _ rfl hNs.out
  have sx := s5.trans s7
  have st7 := st4.out.trans sx.none
  have r7 := r5.stp s7 (by simp)
  have q7 := OwnB.stp q5 s7 (by simp)
  have f7 := f4.out.stp sx (by simp)
  obtain ⟨CB7, hCB7⟩ : ∃ CB, (cellsBS NB (.slice A5 NB.mind.length capA5)).toArray = CB := ⟨_, rfl⟩
  rw [hCB7] at hwb7 i1 i2 i3
  replace hz7 := Lib.hid hz7
  replace B7 := Lib.hid B7
  replace st7 := Lib.hid st7
  replace r7 := Lib.hid r7
  replace q7 := Lib.hid q7
  replace f7 := Lib.hid f7
  replace q5 := Lib.hid q5
  replace r5 := Lib.hid r5
  replace i1 := Lib.hid i1
  replace i2 := Lib.hid i2
  replace i3 := Lib.hid i3
  replace hwa7 := Lib.hid hwa7
  replace hwb7 := Lib.hid hwb7
  replace hCB7 := Lib.hid hCB7
  clear sx s5 s7
  go_wp2_with (refine holdSt 59 ?_)
  apply Hold.mk
  rw [show w5.alloc (.cells (Value.int .i64 0 :: .int .i64 0 :: .int .u8 0 :: .int .u8 0 :: .int .u8 0 :: .int .u8 0 :: .int .u8 0 :: .int .u8 0 :: .int .u8 0 :: .int .u8 0 :: .int .u8 0 :: .int .u8 0 :: .int .u8 0 :: .int .u8 0 :: .int .u8 0 :: .int .u8 0 :: .int .u8 0 :: .int .u8 0 :: .int .u8 0 :: .int .u8 0 :: .int .u8 0 :: .int .u8 0 :: .int .u8 0 :: .int .u8 0 :: .int .u8 0 :: .int .u8 0 :: .int .u8 0 :: .int .u8 0 :: .int .u8 0 :: .int .u8 0 :: .int .u8 0 :: .int .u8 0 :: .int .u8 0 :: .int .u8 0 :: .int .i64 0 :: .string ⟨#[]⟩ :: .slice none 0 0 :: []).toArray 59) = w6 from hwa7.out, hCB7.out]
  refine wpList_store_row rfl 59 _ _ rfl w5.heap.size CB7 rfl rfl 59 _ hz7.out i1.out i2.out i3.out ?_
  rw [hwb7.out]
  obtain ⟨T7, hT7⟩ : ∃ T, w5.heap.size = T := ⟨_, rfl⟩
  rw [hT7] at B7 ⊢
  replace hT7 := Lib.hid hT7
  clear i1 i2 i3
  go_wp2_with (refine holdAt 61 ?_)
  apply Hold.mk
  refine mkBk (o := o7) _ _ rfl rfl M _ hM2.out 4 rfl rfl (by omega) fun w8 s8 h8 => ?_
  obtain ⟨o8, ho8⟩ : ∃ o', paint o7 w7.heap.size 4 = o' := ⟨_, rfl⟩
  rw [ho8] at s8 h8
  have f8 := f7.out.stp s8 (by simp)
  have st8 := st7.out.trans s8.none
  have r8 := OwnB.rd h8
  have B_8 := B7.out.stp s8 (by simp)
  have r_8 := r7.out.stp s8 (by simp)
  have q_8 := OwnB.stp q7.out s8 (by simp)
  replace f8 := Lib.hid f8
  replace st8 := Lib.hid st8
  replace r8 := Lib.hid r8
  replace h8 := Lib.hid h8
  replace ho8 := Lib.hid ho8
  replace B_8 := Lib.hid B_8
  replace r_8 := Lib.hid r_8
  replace q_8 := Lib.hid q_8
  clear s8
  have hr8 := r8.out
  rw [hY.out] at hr8
  have hl8 := hYl.out
  replace hr8 := Lib.hid hr8
  replace hl8 := Lib.hid hl8
  go_wp2_with fail
  refine (keep_calls 1 4 p g cap S2 Y _ w8 o8 f8.out hr8.out (by decide)).mono ?_
  rw [e4.out]
  rintro e w9 ⟨r, o9, rfl, s9, rfl, f9⟩
  dsimp only at f9
  have st9 := st8.out.trans s9
  have B_9 := B_8.out.stp s9 (by simp)
  have r_9 := r_8.out.stp s9 (by simp)
  have q_9 := OwnB.stp q_8.out s9 (by simp)
  replace f9 := Lib.hid f9
  replace st9 := Lib.hid st9
  replace B_9 := Lib.hid B_9
  replace r_9 := Lib.hid r_9
  replace q_9 := Lib.hid q_9
  clear s9
  go_wp2_with (refine holdAt 66 ?_)
  apply Hold.mk
  refine mkBk (o := o9) _ _ rfl rfl N _ hN2.out 4 rfl rfl (by omega) fun w10 s10 h10 => ?_
  obtain ⟨o10, ho10⟩ : ∃ o', paint o9 w9.heap.size 4 = o' := ⟨_, rfl⟩
  rw [ho10] at s10 h10
  have f10 := f9.out.stp s10 (by simp)
  have st10 := st9.out.trans s10.none
  have r10 := OwnB.rd h10
  have B_10 := B_9.out.stp s10 (by simp)
  have r_10 := r_9.out.stp s10 (by simp)
  have q_10 := OwnB.stp q_9.out s10 (by simp)
  replace f10 := Lib.hid f10
  replace st10 := Lib.hid st10
  replace r10 := Lib.hid r10
  replace h10 := Lib.hid h10
  replace ho10 := Lib.hid ho10
  replace B_10 := Lib.hid B_10
  replace r_10 := Lib.hid r_10
  replace q_10 := Lib.hid q_10
  clear s10
  have hr10 := r10.out
  rw [hX.out] at hr10
  replace hr10 := Lib.hid hr10
  go_wp2_with fail
  refine (install_calls 1 4 4 p g cap S2 [103] X [] _ (.slice none 0 0) 9 w10 o10 f10.out hr10.out (RdB.nil _ _ _) (by decide) (by decide)).mono ?_
  rw [e5.out]
  rintro e w11 ⟨r, o11, rfl, s11, rfl, f11⟩
  dsimp only at f11
  have st11 := st10.out.trans s11
  have B_11 := B_10.out.stp s11 (by simp)
  have r_11 := r_10.out.stp s11 (by simp)
  have q_11 := OwnB.stp q_10.out s11 (by simp)
  replace f11 := Lib.hid f11
  replace st11 := Lib.hid st11
  replace B_11 := Lib.hid B_11
  replace r_11 := Lib.hid r_11
  replace q_11 := Lib.hid q_11
  clear s11
  have hbo := bboot_calls 1 4 4 p g cap S2 w11 o11 f11.out
  rw [e3.out] at hbo
  dsimp only at hbo
  go_wp2_with fail
  refine hbo.mono ?_
  clear hbo
  rintro e w12 ⟨r, o12, rfl, s12, vm, vi, rfl, q12, r12⟩
  obtain ⟨A12, capA12, rfl⟩ := Own.shape q12
  obtain ⟨I12, capI12, rfl, _, _⟩ := r12.shape
  obtain ⟨w13, w14, o14, hwa14, hwb14, hz14, s14, B14, i1, i2, i3⟩ := Sb.lay (w := w12) (o := o12) (e := 4) NB (.slice A12 NB.mind.length capA12) _ _ _ rfl hNs.out
  have sx := s12.trans s14
  have st14 := st11.out.trans sx.none
  have r14 := r12.stp s14 (by simp)
  have q14 := OwnB.stp q12 s14 (by simp)
  have f14 := f11.out.stp sx (by simp)
  have B_14 := B_11.out.stp sx (by simp)
  have r_14 := r_11.out.stp sx (by simp)
  have q_14 := OwnB.stp q_11.out sx (by simp)
  obtain ⟨CB14, hCB14⟩ : ∃ CB, (cellsBS NB (.slice A12 NB.mind.length capA12)).toArray = CB := ⟨_, rfl⟩
  rw [hCB14] at hwb14 i1 i2 i3
  replace hz14 := Lib.hid hz14
  replace B14 := Lib.hid B14
  replace st14 := Lib.hid st14
  replace r14 := Lib.hid r14
  replace q14 := Lib.hid q14
  replace f14 := Lib.hid f14
  replace q12 := Lib.hid q12
  replace r12 := Lib.hid r12
  replace i1 := Lib.hid i1
  replace i2 := Lib.hid i2
  replace i3 := Lib.hid i3
  replace hwa14 := Lib.hid hwa14
  replace hwb14 := Lib.hid hwb14
  replace hCB14 := Lib.hid hCB14
  replace B_14 := Lib.hid B_14
  replace r_14 := Lib.hid r_14
  replace q_14 := Lib.hid q_14
  clear sx s12 s14
  go_wp2_with (refine holdSt 59 ?_)
  apply Hold.mk
  rw [show w12.alloc (.cells (Value.int .i64 0 :: .int .i64 0 :: .int .u8 0 :: .int .u8 0 :: .int .u8 0 :: .int .u8 0 :: .int .u8 0 :: .int .u8 0 :: .int .u8 0 :: .int .u8 0 :: .int .u8 0 :: .int .u8 0 :: .int .u8 0 :: .int .u8 0 :: .int .u8 0 :: .int .u8 0 :: .int .u8 0 :: .int .u8 0 :: .int .u8 0 :: .int .u8 0 :: .int .u8 0 :: .int .u8 0 :: .int .u8 0 :: .int .u8 0 :: .int .u8 0 :: .int .u8 0 :: .int .u8 0 :: .int .u8 0 :: .int .u8 0 :: .int .u8 0 :: .int .u8 0 :: .int .u8 0 :: .int .u8 0 :: .int .u8 0 :: .int .i64 0 :: .string ⟨#[]⟩ :: .slice none 0 0 :: []).toArray 59) = w13 from hwa14.out, hCB14.out]
  refine wpList_store_row rfl 59 _ _ rfl w12.heap.size CB14 rfl rfl 59 _ hz14.out i1.out i2.out i3.out ?_
  rw [hwb14.out]
  obtain ⟨T14, hT14⟩ : ∃ T, w12.heap.size = T := ⟨_, rfl⟩
  rw [hT14] at B14 ⊢
  replace hT14 := Lib.hid hT14
  clear i1 i2 i3
  have d34 := B_14.out.c34
  have d35 := B_14.out.c35
  have d36 := B_14.out.c36
  have t35 := B14.out.c35
  have t36 := B14.out.c36
  rw [hNc.out] at d34
  rw [hNn.out] at d35 t35
  rw [hNm.out] at d36 t36
  have cv1 := convBS r_14.out rfl
  have cv2 := convBS (hm.out.stp st14.out (by simp)) rfl
  have q1 := OwnB.rd q_14.out
  have q2 := OwnB.rd q14.out
  rw [hNm.out] at q1 q2
  have cv3 := convBS q1 rfl
  have cv4 := convBS (hd.out.stp st14.out (by simp)) rfl
  have cv5 := convBS q2 rfl
  have hkn := known13_calls w14 o14
  replace q1 := Lib.hid q1
  replace q2 := Lib.hid q2
  go_wp2_with fail
  refine hkn.mono ?_
  clear hkn cv1 cv2 cv3 cv4 cv5 d34 d35 d36 t35 t36
  rintro e w15 ⟨rr, o15, rfl, s15, rfl⟩
  have st15 := Lib.hid (st14.out.trans s15.none)
  clear s15
  go_wp2
  go_ret
  exact Post.mk (st15.out.law (by simp)) rfl
end Go.Proofs.Ytpjnmijfmfgdpaa
