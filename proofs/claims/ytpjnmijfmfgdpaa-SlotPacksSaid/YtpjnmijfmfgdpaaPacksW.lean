/- SlotPacks: the walk. -/
import Derived.Test.YtpjnmijfmfgdpaaKnown12
import Derived.Test.YtpjnmijfmfgdpaaXSlotA
import Derived.Deep.RegionHeldLaw
namespace Go.Proofs.Ytpjnmijfmfgdpaa
set_option linter.unusedVariables false
set_option linter.unusedSimpArgs false
open Go.RowKit

theorem madeB (n : Nat) : (madeCells (Value.int .u8 0).cells n).toList = vbs (List.replicate n 0) := by
  apply List.ext_getElem
  · simp [madeCells, vbs]
  · intro j h1 h2
    simp [madeCells, Value.cells, Nat.mod_one, vbs]
/-- 'make' of so many bytes. -/
theorem mkBn {w : World} {o : Col} {ops : Array Oper} {rest : List Oper} {op : Oper} {a : Act} {Q : Exit → Act → World → Prop} (x y : Operand) (hgd : op.guard = none) (hop : op.op = .makeSlice 22 x y) (N : Nat) (i : Int) (hi : i = N) (c : Nat) (hx : a.eval x = .int .i64 i) (hy : a.eval y = .int .i64 i) (hN : N ≤ 100000)
    (h : ∀ w', Stp [] w o w' (paint o w.heap.size c) → OwnB w' (paint o w.heap.size c) c (.slice (some ⟨w.heap.size, 0, none⟩) N N) (List.replicate N 0) → wpList Try.prog ops Q rest (a.put op.dst (.slice (some ⟨w.heap.size, 0, none⟩) N N)) w') : wpList Try.prog ops Q (op :: rest) a w := by
  subst hi
  obtain ⟨i, hi, hz, hsz, hby⟩ : ∃ i, Try.prog.info? 5 = some i ∧ i.zero = some (.int .u8 0) ∧ i.size = 1 ∧ i.bytes = 1 := info_parts (by kernel_rfl)
  have hrun := run_make (P := Try.prog) w 22 5 i _ Try.underlying22 hi hz .i64 .i64 N N (by omega) (by omega) (by rw [hby]; omega) (by omega)
  simp only [Int.toNat_natCast, hsz, Nat.mul_one] at hrun
  refine wpList_plain hgd fun K hK => ?_
  have key := h _ ((Stp.refl [] w o).alloc (.cells (madeCells (Value.int .u8 0).cells N) 5) c) (OwnB.new w o c _ (List.replicate N 0) (madeB N) N (by simp) (by omega) _ rfl)
  unfold Oper.wp execOp
  simp only [hop, hx, hy, hrun, Sem.run_bind, Sem.run_pure, Result.andThen_ok]
  exact hK _ _ key

set_option maxHeartbeats 8000000 in
set_option maxRecDepth 100000 in
theorem packs_law (n : Int) (v : Value) (b : List UInt8) (ov : Int) (w : World) (_hn : (Lit.int .i64 n).wf = true) (hb : RdB w (fun _ => 0) 0 v b) (_ho : (Lit.int .i64 ov).wf = true) : Calls Try.prog 3 #[.int .i64 n, v, .int .i64 ov] w (Post [] w (fun _ => 0) fun r _ _ => r = .bool true) := by
  obtain ⟨A, capA, rfl, hlc, hA⟩ := hb.shape
  replace hb := Lib.hid hb
  by_cases h1 : 2600 < b.length
  · have g1 : decide ((2600 : Int) < (b.length : Int)) = true := decide_eq_true (by omega)
    go_enter Try.func3, Try.ntmps3
    go_wp2
    go_ret
    exact Post.mk (Stp.refl _ _ _) rfl
  have g1 : decide ((2600 : Int) < (b.length : Int)) = false := decide_eq_false (by omega)
  by_cases h2 : ov < 1
  · have g2 : decide (ov < 1) = true := decide_eq_true h2
    go_enter Try.func3, Try.ntmps3
    go_wp2
    go_ret
    exact Post.mk (Stp.refl _ _ _) rfl
  have g2 : decide (ov < 1) = false := decide_eq_false h2
  by_cases h3 : 50 < ov
  · have g3 : decide (50 < ov) = true := decide_eq_true h3
    go_enter Try.func3, Try.ntmps3
    go_wp2
    go_ret
    exact Post.mk (Stp.refl _ _ _) rfl
  have g3 : decide (50 < ov) = false := decide_eq_false h3
  obtain ⟨M, hM⟩ : ∃ M : Nat, M = (2500 + ov).toNat := ⟨_, rfl⟩
  have hM2 : (2500 + ov : Int) = M := by omega
  have hMl : 2500 < M ∧ M ≤ 2550 := by omega
  have t0 := Tells.new (n := 80) (by omega)
  obtain ⟨S1, e1, t1, l1⟩ := t0.save (b' := [107]) (by simp) (by omega)
  rw [if_neg (by omega)] at t1
  have e2 : saveS S1 (List.replicate M 0) = (S1, 10) := by
    have := t1.room
    rw [saveS, if_neg (by omega), if_neg (by rw [t1.calm.2]; simp), if_pos (by rw [List.length_replicate]; omega)]
  have e3 : loadS S1 = ([107], 1, 0) := t1.load (by omega)
  obtain ⟨S0, hS0⟩ : ∃ S0, newS 80 = S0 := ⟨_, rfl⟩
  have hnew := new_calls' 1 w (fun _ => 0)
  rw [hS0] at e1 hnew
  obtain ⟨PK, hPK⟩ : ∃ PK, packS n b = PK := ⟨_, rfl⟩
  have hp1 := fun w' o' h => pack_calls 0 3 n (.slice A b.length capA) b w' o' h (by omega)
  have hp2 := fun w' o' h => xpack_calls 0 3 n (.slice A b.length capA) b w' o' h (by omega)
  rw [hPK] at hp1 hp2
  replace hp1 := Lib.hid hp1
  replace hp2 := Lib.hid hp2
  replace hPK := Lib.hid hPK
  replace hS0 := Lib.hid hS0
  replace t0 := Lib.hid t0
  replace t1 := Lib.hid t1
  replace l1 := Lib.hid l1
  replace e1 := Lib.hid e1
  replace e2 := Lib.hid e2
  replace e3 := Lib.hid e3
  replace hM := Lib.hid hM
  replace hM2 := Lib.hid hM2
  go_enter Try.func3, Try.ntmps3
  go_wp2_with fail
  refine hnew.mono ?_
  clear hnew
  rintro e w1 ⟨r, o1, rfl, s1, p, g, cap, rfl, f1⟩
  have k1 := constB w1 #[.int .u8 107] 1 1
  have a1 := (Stp.refl [] w1 o1).alloc (.cells #[.int .u8 107] 5 (1, 2)) 4
  have r1 := Lib.hid (RdB.newz w1 o1 4 #[.int .u8 107] [107] rfl 1 rfl (by omega) 5 (1, 2) _ rfl)
  have f1' := Lib.hid (f1.stp a1 (by simp))
  have st1 := Lib.hid (s1.trans a1.none)
  replace f1 := Lib.hid f1
  replace s1 := Lib.hid s1
  clear a1
  go_wp2_with fail
  refine (save_calls 1 4 p g cap S0 _ [107] _ _ f1'.out r1.out (by omega) (by simp)).mono ?_
  rw [e1.out]
  rintro e w2 ⟨r, o2, rfl, s2, rfl, f2⟩
  dsimp only at f2
  clear k1
  have st2 := Lib.hid (st1.out.none.trans s2 : Stp [1] w (fun _ => 0) w2 o2)
  replace f2 := Lib.hid f2
  replace s2 := Lib.hid s2
  go_wp2_with (refine holdAt 36 ?_)
  apply Hold.mk
  refine mkBn (o := o2) _ _ rfl rfl M _ hM2.out 4 rfl rfl (by omega) fun w3 s3 h3 => ?_
  have f3 := Lib.hid (f2.out.stp s3 (by simp))
  have st3 := Lib.hid (st2.out.trans s3.none)
  have r3 := OwnB.rd h3
  obtain ⟨Z, hZ⟩ : ∃ Z : List UInt8, List.replicate M 0 = Z := ⟨_, rfl⟩
  have hZl : Z.length = M := by rw [← hZ, List.length_replicate]
  rw [hZ] at r3 e2
  replace hZ := Lib.hid hZ
  replace r3 := Lib.hid r3
  replace h3 := Lib.hid h3
  clear s3
  go_wp2_with fail
  refine (save_calls 1 4 p g cap S1 _ Z _ _ f3.out r3.out (by omega) (by omega)).mono ?_
  rw [e2.out]
  rintro e w4 ⟨r, o4, rfl, s4, rfl, f4⟩
  dsimp only at f4
  have hld := load_calls 1 3 p g cap S1 w4 o4 f4
  rw [e3.out] at hld
  have st4 := Lib.hid (st3.out.trans s4)
  replace f4 := Lib.hid f4
  replace s4 := Lib.hid s4
  go_wp2_with fail
  refine hld.mono ?_
  clear hld
  rintro e w5 ⟨r, o5, rfl, s5, v5, rfl, h5⟩
  obtain ⟨A5, cap5, rfl⟩ := Own.shape h5
  have h5' : OwnB w5 o5 3 (.slice A5 1 cap5) [107] := h5
  have st5 := Lib.hid (st4.out.trans s5.none)
  replace h5 := Lib.hid h5
  replace s5 := Lib.hid s5
  have bx := Lib.hid ((hb.out.stp st5.out (by simp)).stp ((Stp.refl [] w5 o5).drew) (by simp))
  have h5a := Lib.hid (OwnB.stp h5' ((Stp.refl [] w5 o5).drew) (by simp))
  have st6 := Lib.hid (st5.out.trans ((Stp.refl [1] w5 o5).drew))
  clear h5'
  go_wp2_with fail
  go_region_held_law (fun _ => True) (trivial) (first
    | (go_at_call 18
       refine (hp1.out _ o5 bx.out).mono ?_
       rintro e w6 ⟨r, o6, rfl, s6, h6⟩
       obtain ⟨A6, cap6, rfl⟩ := Own.shape h6
       have st7 := Lib.hid (st6.out.trans s6.none)
       have cv6 := convBS (OwnB.rd h6) rfl
       have h5b := Lib.hid (OwnB.stp h5a.out s6 (by simp))
       have b6 := Lib.hid (RdB.stp bx.out s6 (by simp))
       replace h6 := Lib.hid h6
       replace s6 := Lib.hid s6)
    | (go_at_call 19
       refine (hp2.out _ o6 b6.out).mono ?_
       rintro e w7 ⟨r, o7, rfl, s7, h7⟩
       obtain ⟨A7, cap7, rfl⟩ := Own.shape h7
       have st8 := Lib.hid (st7.out.trans s7.none)
       have cv7 := convBS (OwnB.rd h7) rfl
       have h6b := Lib.hid (OwnB.stp h6.out s7 (by simp))
       have cv7' := convBS (OwnB.rd h6b.out) rfl
       have h5c := Lib.hid (OwnB.stp h5b.out s7 (by simp))
       have cv7c := convBS (n := 1) (OwnB.rd h5c.out) rfl
       replace h7 := Lib.hid h7
       replace s7 := Lib.hid s7)
    | (go_at_call 20
       refine (known12_calls _ o7).mono ?_
       rintro e w9 ⟨rr, o9, rfl, s9, rfl⟩
       have st9 := Lib.hid (st8.out.trans s9.none)))
  all_goals
    clear cv7 cv7' cv7c cv6
    go_wp2
    go_ret
    exact Post.mk (st9.out.law (by simp)) rfl
end Go.Proofs.Ytpjnmijfmfgdpaa
