/- BankOld: the walk. Printed by wip/bankoldgen.py. -/
import Derived.Test.YtpjnmijfmfgdpaaKnown13
import Derived.Test.YtpjnmijfmfgdpaaShaE
import Derived.Deep.RegionHeldLaw
import Derived.Deep.MidRow
namespace Go.Proofs.Ytpjnmijfmfgdpaa
set_option linter.unusedVariables false
set_option linter.unusedSimpArgs false
open Go.RowKit

set_option maxHeartbeats 4000000 in
set_option maxRecDepth 100000 in
theorem old_law (a b : Int) (v : Value) (m : List UInt8) (w : World) (_ha : (Lit.int .i64 a).wf = true) (_hb : (Lit.int .i64 b).wf = true) (hm : RdB w (fun _ => 0) 0 v m) : Calls Try.prog 9 #[.int .i64 a, .int .i64 b, v] w (Post [] w (fun _ => 0) fun r _ _ => r = .bool true) := by
  obtain ⟨A, capA, rfl, _, _⟩ := hm.shape
  replace hm := Lib.hid hm
  by_cases h1 : a < 0
  · have g : decide (a < 0) = true := decide_eq_true h1
    go_enter Try.func9, Try.ntmps9
    go_wp2
    go_ret
    exact Post.mk (Stp.refl _ _ _) rfl
  have gh1 : decide (a < 0) = false := decide_eq_false h1
  by_cases h2 : 1073741824 < a
  · have g : decide (1073741824 < a) = true := decide_eq_true h2
    go_enter Try.func9, Try.ntmps9
    go_wp2
    go_ret
    exact Post.mk (Stp.refl _ _ _) rfl
  have gh2 : decide (1073741824 < a) = false := decide_eq_false h2
  by_cases h3 : b < 0
  · have g : decide (b < 0) = true := decide_eq_true h3
    go_enter Try.func9, Try.ntmps9
    go_wp2
    go_ret
    exact Post.mk (Stp.refl _ _ _) rfl
  have gh3 : decide (b < 0) = false := decide_eq_false h3
  by_cases h4 : 1073741824 < b
  · have g : decide (1073741824 < b) = true := decide_eq_true h4
    go_enter Try.func9, Try.ntmps9
    go_wp2
    go_ret
    exact Post.mk (Stp.refl _ _ _) rfl
  have gh4 : decide (1073741824 < b) = false := decide_eq_false h4
  by_cases h5 : 512 < m.length
  · have g : decide ((512 : Int) < (m.length : Int)) = true := decide_eq_true (by omega)
    go_enter Try.func9, Try.ntmps9
    go_wp2
    go_ret
    exact Post.mk (Stp.refl _ _ _) rfl
  have gh5 : decide ((512 : Int) < (m.length : Int)) = false := decide_eq_false (by omega)
  obtain ⟨S1, e1, b1, _⟩ := install_first [102] [102] [] a (by simp) (by simp) (by simp) (by omega)
  have e1b := b1.boot
  obtain ⟨S0, hS0⟩ : ∃ S0, newS 96 = S0 := ⟨_, rfl⟩
  have hnew := new96_calls 1 w (fun _ => 0)
  rw [hS0] at e1 hnew
  have hpg := bpages_calls w
  have harm : (b < a ∧ installS S1 [103] m b [109] = (S1, 5)) ∨ (¬ b < a ∧ ∃ S2, installS S1 [103] m b [109] = (S2, 0) ∧ Boots S2 (nextB 1 [103] m b [109]) m 2) := by
    by_cases hlt : b < a
    · refine .inl ⟨hlt, ?_⟩
      rw [installS, asked_ok b1.calm b1.len (by omega) (by simp) (by simp) (by omega), e1b, if_neg (by simp), if_pos ⟨rfl, hlt⟩]
    · obtain ⟨S2, e2, b2⟩ := b1.install (by omega) (by show (0 : Int) ≤ 0; omega) (by show (0 : Int) ≤ 1; omega) [103] m [109] b (by omega) (by simp) (by simp) (by omega) (by show a ≤ b; omega)
      exact .inr ⟨hlt, S2, e2, b2⟩
  replace hS0 := Lib.hid hS0
  replace e1 := Lib.hid e1
  replace b1 := Lib.hid b1
  go_enter Try.func9, Try.ntmps9
  go_wp2_with fail
  refine hpg.mono ?_
  clear hpg
  rintro e w1 ⟨rfl, he⟩
  replace he := he.symm
  subst he
  go_wp2_with fail
  refine hnew.mono ?_
  clear hnew
  rintro e w1 ⟨r, o1, rfl, s1, p, g, cap, rfl, f1⟩
  have k1 := constB w1 #[.int .u8 102] 1 1
  have a1 := (Stp.refl [] w1 o1).alloc (.cells #[.int .u8 102] 5 (1, 2)) 4
  have r1 := Lib.hid (RdB.newz w1 o1 4 #[.int .u8 102] [102] rfl 1 rfl (by omega) 5 (1, 2) _ rfl)
  have f1' := Lib.hid (f1.stp a1 (by simp))
  have st1 := Lib.hid ((s1.trans a1).none : Stp [1] w (fun _ => 0) _ _)
  replace f1 := Lib.hid f1
  replace s1 := Lib.hid s1
  clear a1
  go_wp2_with fail
  refine (install_calls 1 4 4 p g cap S0 [102] [102] [] _ (.slice none 0 0) a _ _ f1'.out r1.out (RdB.nil _ _ _) (by decide) (by decide)).mono ?_
  rw [e1.out]
  rintro e w2 ⟨r, o2, rfl, s2, rfl, f2⟩
  dsimp only at f2
  clear k1
  have k2 := constB w2 #[.int .u8 109] 1 1
  have a2 := (Stp.refl [] w2 o2).alloc (.cells #[.int .u8 109] 5 (1, 2)) 4
  have r2 := Lib.hid (RdB.newz w2 o2 4 #[.int .u8 109] [109] rfl 1 rfl (by omega) 5 (1, 2) _ rfl)
  have f2' := Lib.hid (f2.stp a2 (by simp))
  have st2 := Lib.hid ((st1.out.trans s2).trans a2.none)
  have m2 := Lib.hid (hm.out.stp st2.out (by simp))
  replace f2 := Lib.hid f2
  replace s2 := Lib.hid s2
  clear a2
  rcases harm with ⟨hlt, e2⟩ | ⟨hlt, S2, e2, b2⟩
  · have g6 : decide (b < a) = true := decide_eq_true (by omega)
    have e3 := e1b
    obtain ⟨NB, hNB⟩ : ∃ NB, nextB 0 [102] [102] a [] = NB := ⟨_, rfl⟩
    have hNc : NB.counter = a := by rw [← hNB]; rfl
    have hNn : NB.name = [102] := by rw [← hNB]; rfl
    have hNm : NB.mind = [] := by rw [← hNB]; rfl
    have hNh : NB.sum = sha [102] := by rw [← hNB]; rfl
    have hNs : NB.sum.length = 32 := by rw [hNh]; exact sha_len _
    rw [hNB] at e3
    replace hNB := Lib.hid hNB
    go_wp2_with fail
    refine (install_calls 1 0 4 p g cap S1 [103] m [109] _ _ b _ _ f2'.out m2.out r2.out (by decide) (by decide)).mono ?_
    rw [e2]
    rintro e w3 ⟨r, o3, rfl, s3, rfl, f3⟩
    dsimp only at f3
    clear k2
    have hbo := bboot_calls 1 4 4 p g cap S1 w3 o3 f3
    rw [e3] at hbo
    have st3 := Lib.hid (st2.out.trans s3)
    replace e3 := Lib.hid e3
    replace e2 := Lib.hid e2
    replace f3 := Lib.hid f3
    replace s3 := Lib.hid s3
    dsimp only at hbo
    go_wp2_with fail
    refine hbo.mono ?_
    clear hbo
    rintro e w4 ⟨r, o4, rfl, s4, vm, vi, rfl, q4, r4⟩
    obtain ⟨A4, cap4, rfl⟩ := Own.shape q4
    obtain ⟨A5, cap5, rfl, _, _⟩ := r4.shape
    have st4 := st3.out.trans s4.none
    obtain ⟨w5, w6, o6, hw5, hw6, hz5, s6, B6, i1, i2, i3⟩ := Sb.lay (w := w4) (o := o4) (e := 4) NB (.slice A4 NB.mind.length cap4) _ _ _ rfl hNs
    have st6 := st4.trans s6.none
    have r6 : RdB w6 o6 4 (.slice A5 [102].length cap5) [102] := r4.stp s6 (by simp)
    have q6 := OwnB.stp q4 s6 (by simp)
    have m6 := hm.out.stp st6 (by simp)
    obtain ⟨CB, hCB⟩ : ∃ CB, (cellsBS NB (.slice A4 NB.mind.length cap4)).toArray = CB := ⟨_, rfl⟩
    rw [hCB] at hw6 i1 i2 i3
    replace hz5 := Lib.hid hz5
    replace B6 := Lib.hid B6
    replace st4 := Lib.hid st4
    replace st6 := Lib.hid st6
    replace r6 := Lib.hid r6
    replace q6 := Lib.hid q6
    replace m6 := Lib.hid m6
    replace q4 := Lib.hid q4
    replace r4 := Lib.hid r4
    replace i1 := Lib.hid i1
    replace i2 := Lib.hid i2
    replace i3 := Lib.hid i3
    replace hw5 := Lib.hid hw5
    replace hw6 := Lib.hid hw6
    replace hCB := Lib.hid hCB
    replace hNh := Lib.hid hNh
    replace hNs := Lib.hid hNs
    replace hNc := Lib.hid hNc
    replace hNn := Lib.hid hNn
    replace hNm := Lib.hid hNm
    clear s4 s6
    go_wp2_with (refine holdSt 59 ?_)
    apply Hold.mk
    rw [show w4.alloc (.cells (Value.int .i64 0 :: .int .i64 0 :: .int .u8 0 :: .int .u8 0 :: .int .u8 0 :: .int .u8 0 :: .int .u8 0 :: .int .u8 0 :: .int .u8 0 :: .int .u8 0 :: .int .u8 0 :: .int .u8 0 :: .int .u8 0 :: .int .u8 0 :: .int .u8 0 :: .int .u8 0 :: .int .u8 0 :: .int .u8 0 :: .int .u8 0 :: .int .u8 0 :: .int .u8 0 :: .int .u8 0 :: .int .u8 0 :: .int .u8 0 :: .int .u8 0 :: .int .u8 0 :: .int .u8 0 :: .int .u8 0 :: .int .u8 0 :: .int .u8 0 :: .int .u8 0 :: .int .u8 0 :: .int .u8 0 :: .int .u8 0 :: .int .i64 0 :: .string ⟨#[]⟩ :: .slice none 0 0 :: []).toArray 59) = w5 from hw5.out, hCB.out]
    refine wpList_store_row rfl 59 _ _ rfl w4.heap.size CB rfl rfl 59 _ hz5.out i1.out i2.out i3.out ?_
    rw [hw6.out]
    obtain ⟨T, hT⟩ : ∃ T, w4.heap.size = T := ⟨_, rfl⟩
    rw [hT] at B6 ⊢
    replace hT := Lib.hid hT
    have d34 := B6.out.c34
    have d35 := B6.out.c35
    rw [hNc.out] at d34
    rw [hNn.out] at d35
    have cv := convBS (n := 1) r6.out rfl
    have hkn := known13_calls w6 o6
    go_wp2_with fail
    refine hkn.mono ?_
    clear hkn cv d34 d35
    rintro e w9 ⟨rr, o9, rfl, s9, rfl⟩
    have st9 := Lib.hid (st6.out.trans s9.none)
    clear s9
    go_wp2
    go_ret
    exact Post.mk (st9.out.law (by simp)) rfl
  · have g6 : decide (b < a) = false := decide_eq_false (by omega)
    have e3 := b2.boot
    clear e1b
    obtain ⟨NB, hNB⟩ : ∃ NB, nextB 1 [103] m b [109] = NB := ⟨_, rfl⟩
    have hNc : NB.counter = b := by rw [← hNB]; rfl
    have hNn : NB.name = [103] := by rw [← hNB]; rfl
    have hNm : NB.mind = [109] := by rw [← hNB]; rfl
    have hNh : NB.sum = sha m := by rw [← hNB]; rfl
    have hNs : NB.sum.length = 32 := by rw [hNh]; exact sha_len _
    rw [hNB] at e3
    replace hNB := Lib.hid hNB
    go_wp2_with fail
    refine (install_calls 1 0 4 p g cap S1 [103] m [109] _ _ b _ _ f2'.out m2.out r2.out (by decide) (by decide)).mono ?_
    rw [e2]
    rintro e w3 ⟨r, o3, rfl, s3, rfl, f3⟩
    dsimp only at f3
    clear k2
    have hbo := bboot_calls 1 4 4 p g cap S2 w3 o3 f3
    rw [e3] at hbo
    have st3 := Lib.hid (st2.out.trans s3)
    replace e3 := Lib.hid e3
    replace e2 := Lib.hid e2
    replace f3 := Lib.hid f3
    replace s3 := Lib.hid s3
    dsimp only at hbo
    go_wp2_with fail
    refine hbo.mono ?_
    clear hbo
    rintro e w4 ⟨r, o4, rfl, s4, vm, vi, rfl, q4, r4⟩
    obtain ⟨A4, cap4, rfl⟩ := Own.shape q4
    obtain ⟨A5, cap5, rfl, _, _⟩ := r4.shape
    have st4 := st3.out.trans s4.none
    obtain ⟨w5, w6, o6, hw5, hw6, hz5, s6, B6, i1, i2, i3⟩ := Sb.lay (w := w4) (o := o4) (e := 4) NB (.slice A4 NB.mind.length cap4) _ _ _ rfl hNs
    have st6 := st4.trans s6.none
    have r6 : RdB w6 o6 4 (.slice A5 m.length cap5) m := r4.stp s6 (by simp)
    have q6 := OwnB.stp q4 s6 (by simp)
    have m6 := hm.out.stp st6 (by simp)
    obtain ⟨CB, hCB⟩ : ∃ CB, (cellsBS NB (.slice A4 NB.mind.length cap4)).toArray = CB := ⟨_, rfl⟩
    rw [hCB] at hw6 i1 i2 i3
    replace hz5 := Lib.hid hz5
    replace B6 := Lib.hid B6
    replace st4 := Lib.hid st4
    replace st6 := Lib.hid st6
    replace r6 := Lib.hid r6
    replace q6 := Lib.hid q6
    replace m6 := Lib.hid m6
    replace q4 := Lib.hid q4
    replace r4 := Lib.hid r4
    replace i1 := Lib.hid i1
    replace i2 := Lib.hid i2
    replace i3 := Lib.hid i3
    replace hw5 := Lib.hid hw5
    replace hw6 := Lib.hid hw6
    replace hCB := Lib.hid hCB
    replace hNh := Lib.hid hNh
    replace hNs := Lib.hid hNs
    replace hNc := Lib.hid hNc
    replace hNn := Lib.hid hNn
    replace hNm := Lib.hid hNm
    clear s4 s6
    go_wp2_with (refine holdSt 59 ?_)
    apply Hold.mk
    rw [show w4.alloc (.cells (Value.int .i64 0 :: .int .i64 0 :: .int .u8 0 :: .int .u8 0 :: .int .u8 0 :: .int .u8 0 :: .int .u8 0 :: .int .u8 0 :: .int .u8 0 :: .int .u8 0 :: .int .u8 0 :: .int .u8 0 :: .int .u8 0 :: .int .u8 0 :: .int .u8 0 :: .int .u8 0 :: .int .u8 0 :: .int .u8 0 :: .int .u8 0 :: .int .u8 0 :: .int .u8 0 :: .int .u8 0 :: .int .u8 0 :: .int .u8 0 :: .int .u8 0 :: .int .u8 0 :: .int .u8 0 :: .int .u8 0 :: .int .u8 0 :: .int .u8 0 :: .int .u8 0 :: .int .u8 0 :: .int .u8 0 :: .int .u8 0 :: .int .i64 0 :: .string ⟨#[]⟩ :: .slice none 0 0 :: []).toArray 59) = w5 from hw5.out, hCB.out]
    refine wpList_store_row rfl 59 _ _ rfl w4.heap.size CB rfl rfl 59 _ hz5.out i1.out i2.out i3.out ?_
    rw [hw6.out]
    obtain ⟨T, hT⟩ : ∃ T, w4.heap.size = T := ⟨_, rfl⟩
    rw [hT] at B6 ⊢
    replace hT := Lib.hid hT
    have B7 := B6.out.stp (Stp.refl [] w6 o6).drew (by simp)
    have c34 := B7.c34
    have c35 := B7.c35
    have c36 := B7.c36
    have rg := B7.range
    rw [hNc.out] at c34
    rw [hNn.out] at c35
    have hml : NB.mind.length = 1 := by rw [hNm.out]; rfl
    rw [hml] at c36
    rw [hNh.out] at rg
    have r7 := r6.out.stp (Stp.refl [] w6 o6).drew (by simp)
    have m7 := m6.out.stp (Stp.refl [] w6 o6).drew (by simp)
    have q7 := OwnB.stp q6.out (Stp.refl [] w6 o6).drew (by simp)
    have q7' : OwnB w6.drew o6 4 (.slice A4 1 cap4) [109] := by
      have := q7
      rw [hNm.out] at this
      exact this
    have st7 : Hid (Stp [1] w (fun _ => 0) w6.drew o6) := Lib.hid st6.out.drew
    have cv1 := convBS r7 rfl
    have cv2 := convBS m7 rfl
    have cv3 := convBS (n := 1) (OwnB.rd q7') rfl
    have hxs := xsum_calls 0 _ m w6.drew o6 m7 (by omega)
    obtain ⟨H, hH⟩ : ∃ H, sha m = H := ⟨_, rfl⟩
    have hHl : H.length = 32 := by rw [← hH]; exact sha_len m
    rw [hH] at rg hxs
    have hu57 := Try.underlying57
    have hi57 : (Try.prog.info? 57).map (·.size) = some (vbs H).length := by
      rw [vbs_length, hHl]
      kernel_rfl
    have heq : ∀ w', (Op.equalIn 10000 57 (.agg (vbs H).toArray) (.agg (vbs H).toArray)).run Try.prog w' = .ok true w' := fun w' => by
      have := run_equalIn_bytes (P := Try.prog) w' 9998 57 5 32 Try.underlying57 Try.underlying5 sizeU8 H H hHl hHl
      rw [beq_self_eq_true] at this
      exact this
    have hS1 := Lib.hid (show w6.drew.rangeAt T 2 (vbs H) ∧ w6.drew.cell? ⟨T, 34, none⟩ = some (.int .i64 b) ∧ w6.drew.cell? ⟨T, 35, none⟩ = some (.string ⟨[103].toArray⟩) ∧ w6.drew.cell? ⟨T, 36, none⟩ = some (.slice A4 1 cap4) ∧ (convert 22 9 (.slice A5 m.length cap5)).run Try.prog w6.drew = .ok (.string ⟨m.toArray⟩) w6.drew ∧ (convert 22 9 (.slice A m.length capA)).run Try.prog w6.drew = .ok (.string ⟨m.toArray⟩) w6.drew ∧ (convert 22 9 (.slice A4 1 cap4)).run Try.prog w6.drew = .ok (.string ⟨[109].toArray⟩) w6.drew from ⟨rg, c34, c35, c36, cv1, cv2, cv3⟩)
    replace B7 := Lib.hid B7
    replace r7 := Lib.hid r7
    replace m7 := Lib.hid m7
    replace q7 := Lib.hid q7
    replace q7' := Lib.hid q7'
    replace hxs := Lib.hid hxs
    replace hH := Lib.hid hH
    replace hHl := Lib.hid hHl
    replace hml := Lib.hid hml
    clear c34 c35 c36 rg cv1 cv2 cv3
    go_wp2_with fail
    go_region_held_law (fun w' => w'.rangeAt T 2 (vbs H) ∧ w'.cell? ⟨T, 34, none⟩ = some (.int .i64 b) ∧ w'.cell? ⟨T, 35, none⟩ = some (.string ⟨[103].toArray⟩) ∧ w'.cell? ⟨T, 36, none⟩ = some (.slice A4 1 cap4) ∧ (convert 22 9 (.slice A5 m.length cap5)).run Try.prog w' = .ok (.string ⟨m.toArray⟩) w' ∧ (convert 22 9 (.slice A m.length capA)).run Try.prog w' = .ok (.string ⟨m.toArray⟩) w' ∧ (convert 22 9 (.slice A4 1 cap4)).run Try.prog w' = .ok (.string ⟨[109].toArray⟩) w') (first | with_reducible exact hS1.out | with_reducible exact hS2.out | with_reducible exact hS3.out) (first
      | (go_at_call 38
         refine hxs.out.mono ?_
         rintro e w8 ⟨r, o8, rfl, s8, rfl⟩
         have B8 := B7.out.stp s8 (by simp)
         have r8 := r7.out.stp s8 (by simp)
         have m8 := m7.out.stp s8 (by simp)
         have q8 := OwnB.stp q7'.out s8 (by simp)
         have hS2 := Lib.hid (show w8.rangeAt T 2 (vbs H) ∧ w8.cell? ⟨T, 34, none⟩ = some (.int .i64 b) ∧ w8.cell? ⟨T, 35, none⟩ = some (.string ⟨[103].toArray⟩) ∧ w8.cell? ⟨T, 36, none⟩ = some (.slice A4 1 cap4) ∧ (convert 22 9 (.slice A5 m.length cap5)).run Try.prog w8 = .ok (.string ⟨m.toArray⟩) w8 ∧ (convert 22 9 (.slice A m.length capA)).run Try.prog w8 = .ok (.string ⟨m.toArray⟩) w8 ∧ (convert 22 9 (.slice A4 1 cap4)).run Try.prog w8 = .ok (.string ⟨[109].toArray⟩) w8 from ⟨by rw [← hH.out, ← hNh.out]; exact B8.range, by rw [← hNc.out]; exact B8.c34, by rw [← hNn.out]; exact B8.c35, by rw [← hml.out]; exact B8.c36, convBS r8 rfl, convBS m8 rfl, convBS (n := 1) (OwnB.rd q8) rfl⟩)
         have st8 := Lib.hid (st7.out.trans s8.none)
         replace B8 := Lib.hid B8
         replace r8 := Lib.hid r8
         replace m8 := Lib.hid m8
         replace q8 := Lib.hid q8
         replace s8 := Lib.hid s8)
      | (go_at_call 37
         refine (known13_calls _ o8).mono ?_
         rintro e w9 ⟨rr, o9, rfl, s9, rfl⟩
         have B9 := B8.out.stp s9 (by simp)
         have hS3 := Lib.hid (show w9.rangeAt T 2 (vbs H) ∧ w9.cell? ⟨T, 34, none⟩ = some (.int .i64 b) ∧ w9.cell? ⟨T, 35, none⟩ = some (.string ⟨[103].toArray⟩) ∧ w9.cell? ⟨T, 36, none⟩ = some (.slice A4 1 cap4) ∧ (convert 22 9 (.slice A5 m.length cap5)).run Try.prog w9 = .ok (.string ⟨m.toArray⟩) w9 ∧ (convert 22 9 (.slice A m.length capA)).run Try.prog w9 = .ok (.string ⟨m.toArray⟩) w9 ∧ (convert 22 9 (.slice A4 1 cap4)).run Try.prog w9 = .ok (.string ⟨[109].toArray⟩) w9 from ⟨by rw [← hH.out, ← hNh.out]; exact B9.range, by rw [← hNc.out]; exact B9.c34, by rw [← hNn.out]; exact B9.c35, by rw [← hml.out]; exact B9.c36, convBS (r8.out.stp s9 (by simp)) rfl, convBS (m8.out.stp s9 (by simp)) rfl, convBS (n := 1) (OwnB.rd (OwnB.stp q8.out s9 (by simp))) rfl⟩)
         have st9 := Lib.hid (st8.out.trans s9.none)
         replace s9 := Lib.hid s9))
    all_goals
      clear heq
      go_wp2
      go_ret
      exact Post.mk (st9.out.law (by simp)) rfl
end Go.Proofs.Ytpjnmijfmfgdpaa
