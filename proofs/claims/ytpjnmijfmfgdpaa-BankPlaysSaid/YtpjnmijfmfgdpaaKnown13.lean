/- What is known at once, of chapter 13. Printed by wip/known13gen.py. -/
import Derived.Test.YtpjnmijfmfgdpaaBankG
import Derived.Test.YtpjnmijfmfgdpaaBankI
import Derived.Test.YtpjnmijfmfgdpaaPage3
namespace Go.Proofs.Ytpjnmijfmfgdpaa
set_option linter.unusedVariables false
set_option linter.unusedSimpArgs false
open Go.RowKit

theorem new96_calls (c : Nat) (w : World) (o : Col) : Calls Try.prog 15 #[.int .i64 96] w (Post [] w o fun r w' o' => ∃ p g cap, r = .pointer (some ⟨p, 0, none⟩) ∧ Fl w' o' c p g cap (newS 96)) := new_calls c 96 w o 96 (by omega)
/-- A state told by a call is laid into a block of its own. -/
theorem Sb.lay {w : World} {o : Col} {e : Nat} (t : BS) (vm : Value) (A : Option Addr) (n cap : Nat) (hvm : vm = .slice A n cap) (hs : t.sum.length = 32) :
    ∃ w1 w2 o2, w.alloc (.cells (cellsBS zeroBS (.slice none 0 0)).toArray 59) = w1 ∧ w1.setRow w.heap.size (cellsBS t vm).toArray = w2 ∧ w1.heap[w.heap.size]? = some (.cells (cellsBS zeroBS (.slice none 0 0)).toArray 59 (0, 0)) ∧ Stp [] w o w2 o2 ∧ Sb w2 o2 e w.heap.size t vm ∧
      (Try.prog.info? 59).map (·.size) = some (cellsBS t vm).toArray.size ∧ (cellsBS zeroBS (.slice none 0 0)).toArray.size = (cellsBS t vm).toArray.size ∧ (cellsBS t vm).toArray.all (·.oneCell') = true := by
  subst hvm
  obtain ⟨e9, he9, _, hf9⟩ := fresh o w.heap.size []
  have T := Sb.new w o e9 zeroBS (.slice none 0 0) rfl
  have s1 : Stp [e9] w o _ _ := (Stp.refl [e9] w o).alloc (.cells (cellsBS zeroBS (.slice none 0 0)).toArray 59) e9
  have s2 : Stp [e9] _ _ ((w.alloc (.cells (cellsBS zeroBS (.slice none 0 0)).toArray 59)).setRow w.heap.size (cellsBS t (.slice A n cap)).toArray) _ := setRow_stp (o := paint o w.heap.size e9) (by rw [T.col]; simp) _
  have s3 := ((s1.trans s2).drop hf9).repaint e
  refine ⟨_, _, _, rfl, rfl, T.blk, s3, ⟨setRow_heap _ _ _ _ _ _ T.blk, ?_, hs⟩, by simpa using stateInfo hs, by simp [cellsBS_len hs, cellsBS_len (t := zeroBS) (vm := .slice none 0 0) rfl], cells_one _ _ _ _⟩
  unfold paint
  simp
set_option maxHeartbeats 4000000 in
set_option maxRecDepth 100000 in
theorem known13_calls (w : World) (o : Col) : Calls Try.prog 37 #[] w (Post [] w o fun r _ _ => r = .bool true) := by
  obtain ⟨c, hc1, _, hcf⟩ := fresh o w.heap.size [0]
  simp only [List.mem_cons, List.not_mem_nil, or_false, not_or] at hc1
  obtain ⟨x, hx1, _, hxf⟩ := fresh o w.heap.size [0, c]
  simp only [List.mem_cons, List.not_mem_nil, or_false, not_or] at hx1
  obtain ⟨SA, e1, b1, _⟩ := install_first [97] [97] [] 0 (by simp) (by simp) (by simp) (by omega)
  obtain ⟨SB, e2, b2⟩ := b1.install (by omega) (by decide) (by decide) [98] [98] [] 1 (by simp) (by simp) (by simp) (by omega) (by decide)
  have e3 := b2.boot
  obtain ⟨S0, hS0⟩ : ∃ S0, newS 96 = S0 := ⟨_, rfl⟩
  have hnew := new96_calls c w o
  rw [hS0] at e1 hnew
  have hpg := bpages_calls w
  obtain ⟨NB, hNB⟩ : ∃ NB, nextB (1 - (nextB 0 [97] [97] 0 []).bank) [98] [98] 1 [] = NB := ⟨_, rfl⟩
  have hNb : NB.bank = 1 := by rw [← hNB]; rfl
  have hNc : NB.counter = 1 := by rw [← hNB]; rfl
  have hNs : NB.sum.length = 32 := by rw [← hNB]; exact sha_len _
  rw [hNB] at e3
  replace b1 := Lib.hid b1
  replace b2 := Lib.hid b2
  replace e1 := Lib.hid e1
  replace e2 := Lib.hid e2
  replace e3 := Lib.hid e3
  replace hS0 := Lib.hid hS0
  replace hNB := Lib.hid hNB
  go_enter Try.func37, Try.ntmps37
  go_wp2_with fail
  refine hpg.mono ?_
  clear hpg
  rintro e w1 ⟨rfl, rfl⟩
  go_wp2_with fail
  refine hnew.mono ?_
  clear hnew
  rintro e w1 ⟨r, o1, rfl, s1, p, g, cap, rfl, f1⟩
  have k1 := constB w1 #[.int .u8 97] 1 1
  have a1 := (Stp.refl [] w1 o1).alloc (.cells #[.int .u8 97] 5 (1, 2)) x
  have r1 := Lib.hid (RdB.newz w1 o1 x #[.int .u8 97] [97] rfl 1 rfl (by omega) 5 (1, 2) _ rfl)
  have f1' := Lib.hid (f1.stp a1 (by simp))
  have st1 := Lib.hid (s1.trans a1)
  replace f1 := Lib.hid f1
  replace s1 := Lib.hid s1
  clear a1
  go_wp2_with fail
  refine (install_calls c x x p g cap S0 [97] [97] [] _ (.slice none 0 0) 0 _ _ f1'.out r1.out (RdB.nil _ _ _) hx1.2 hx1.2).mono ?_
  rw [e1.out]
  rintro e w2 ⟨r, o2, rfl, s2, rfl, f2⟩
  dsimp only at f2
  clear k1
  have k2 := constB w2 #[.int .u8 98] 1 1
  have a2 := (Stp.refl [] w2 o2).alloc (.cells #[.int .u8 98] 5 (1, 2)) x
  have r2 := Lib.hid (RdB.newz w2 o2 x #[.int .u8 98] [98] rfl 1 rfl (by omega) 5 (1, 2) _ rfl)
  have f2' := Lib.hid (f2.stp a2 (by simp))
  have st2 := Lib.hid ((st1.out.none.trans s2).trans a2.none)
  replace f2 := Lib.hid f2
  replace s2 := Lib.hid s2
  clear a2
  go_wp2_with fail
  refine (install_calls c x x p g cap SA [98] [98] [] _ (.slice none 0 0) 1 _ _ f2'.out r2.out (RdB.nil _ _ _) hx1.2 hx1.2).mono ?_
  rw [e2.out]
  rintro e w3 ⟨r, o3, rfl, s3, rfl, f3⟩
  dsimp only at f3
  clear k2
  have hbo := bboot_calls c x x p g cap SB w3 o3 f3
  rw [e3.out] at hbo
  have st3 := Lib.hid (st2.out.trans s3)
  replace f3 := Lib.hid f3
  replace s3 := Lib.hid s3
  dsimp only at hbo
  go_wp2_with fail
  refine hbo.mono ?_
  clear hbo
  rintro e w4 ⟨r, o4, rfl, s4, vm, vi, rfl, q4, r4⟩
  obtain ⟨A4, cap4, rfl⟩ := Own.shape q4
  obtain ⟨A5, cap5, rfl, _, _⟩ := r4.shape
  have st4 := st3.out.trans s4.none
  obtain ⟨w5, w6, o6, hw5, hw6, hz5, s6, B6, i1, i2, i3⟩ := Sb.lay (w := w4) (o := o4) (e := x) NB (.slice A4 NB.mind.length cap4) _ _ _ rfl hNs
  have st6 := st4.trans s6.none
  have r6 : RdB w6 o6 x (.slice A5 1 cap5) [98] := r4.stp s6 (by simp)
  have cv := convBS (n := 1) r6 rfl
  have d0 := B6.c0
  have d34 := B6.c34
  rw [hNb] at d0
  rw [hNc] at d34
  obtain ⟨CB, hCB⟩ : ∃ CB, (cellsBS NB (.slice A4 NB.mind.length cap4)).toArray = CB := ⟨_, rfl⟩
  rw [hCB] at hw6 i1 i2 i3
  replace hz5 := Lib.hid hz5
  replace B6 := Lib.hid B6
  replace st4 := Lib.hid st4
  replace st6 := Lib.hid (st6.drop hcf)
  replace r6 := Lib.hid r6
  replace q4 := Lib.hid q4
  replace r4 := Lib.hid r4
  replace i1 := Lib.hid i1
  replace i2 := Lib.hid i2
  replace i3 := Lib.hid i3
  replace hw5 := Lib.hid hw5
  replace hw6 := Lib.hid hw6
  replace hCB := Lib.hid hCB
  clear s4 s6
  go_wp2_with (refine holdSt 59 ?_)
  apply Hold.mk
  rw [show w4.alloc (.cells (Value.int .i64 0 :: .int .i64 0 :: .int .u8 0 :: .int .u8 0 :: .int .u8 0 :: .int .u8 0 :: .int .u8 0 :: .int .u8 0 :: .int .u8 0 :: .int .u8 0 :: .int .u8 0 :: .int .u8 0 :: .int .u8 0 :: .int .u8 0 :: .int .u8 0 :: .int .u8 0 :: .int .u8 0 :: .int .u8 0 :: .int .u8 0 :: .int .u8 0 :: .int .u8 0 :: .int .u8 0 :: .int .u8 0 :: .int .u8 0 :: .int .u8 0 :: .int .u8 0 :: .int .u8 0 :: .int .u8 0 :: .int .u8 0 :: .int .u8 0 :: .int .u8 0 :: .int .u8 0 :: .int .u8 0 :: .int .u8 0 :: .int .i64 0 :: .string ⟨#[]⟩ :: .slice none 0 0 :: []).toArray 59) = w5 from hw5.out, hCB.out]
  refine wpList_store_row rfl 59 _ _ rfl w4.heap.size CB rfl rfl 59 _ hz5.out i1.out i2.out i3.out ?_
  rw [hw6.out]
  go_wp2
  go_ret
  exact Post.mk st6.out rfl
end Go.Proofs.Ytpjnmijfmfgdpaa
