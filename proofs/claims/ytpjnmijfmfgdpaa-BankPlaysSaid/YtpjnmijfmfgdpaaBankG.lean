/- Banks (chapter 13): Install: the walk. Printed by wip/bankggen.py. -/
import Derived.Test.YtpjnmijfmfgdpaaBankF
import Derived.Great.BuildSlice
namespace Go.Proofs.Ytpjnmijfmfgdpaa
set_option linter.unusedVariables false
set_option linter.unusedSimpArgs false
open Go.RowKit

set_option maxRecDepth 100000 in
theorem built_next (len counter : Int) (H name : List UInt8) (A : Option Addr) (n cap : Nat) (mind : List UInt8) (xl0 : H.length = 32) :
    Try.prog.built 59 [(1, .int .i64 len), (2, .agg (vbs H).toArray), (3, .int .i64 counter), (4, .string ⟨name.toArray⟩), (5, .slice A n cap)] = some (cellsBS ⟨0, len, H, counter, name, mind⟩ (.slice A n cap)).toArray := by
  obtain ⟨y0, hy0⟩ : ∃ y, H = y := ⟨_, rfl⟩
  rw [hy0] at xl0
  obtain ⟨x0, y1, e0, xl1⟩ := cons_of xl0
  obtain ⟨x1, y2, e1, xl2⟩ := cons_of xl1
  obtain ⟨x2, y3, e2, xl3⟩ := cons_of xl2
  obtain ⟨x3, y4, e3, xl4⟩ := cons_of xl3
  obtain ⟨x4, y5, e4, xl5⟩ := cons_of xl4
  obtain ⟨x5, y6, e5, xl6⟩ := cons_of xl5
  obtain ⟨x6, y7, e6, xl7⟩ := cons_of xl6
  obtain ⟨x7, y8, e7, xl8⟩ := cons_of xl7
  obtain ⟨x8, y9, e8, xl9⟩ := cons_of xl8
  obtain ⟨x9, y10, e9, xl10⟩ := cons_of xl9
  obtain ⟨x10, y11, e10, xl11⟩ := cons_of xl10
  obtain ⟨x11, y12, e11, xl12⟩ := cons_of xl11
  obtain ⟨x12, y13, e12, xl13⟩ := cons_of xl12
  obtain ⟨x13, y14, e13, xl14⟩ := cons_of xl13
  obtain ⟨x14, y15, e14, xl15⟩ := cons_of xl14
  obtain ⟨x15, y16, e15, xl16⟩ := cons_of xl15
  obtain ⟨x16, y17, e16, xl17⟩ := cons_of xl16
  obtain ⟨x17, y18, e17, xl18⟩ := cons_of xl17
  obtain ⟨x18, y19, e18, xl19⟩ := cons_of xl18
  obtain ⟨x19, y20, e19, xl20⟩ := cons_of xl19
  obtain ⟨x20, y21, e20, xl21⟩ := cons_of xl20
  obtain ⟨x21, y22, e21, xl22⟩ := cons_of xl21
  obtain ⟨x22, y23, e22, xl23⟩ := cons_of xl22
  obtain ⟨x23, y24, e23, xl24⟩ := cons_of xl23
  obtain ⟨x24, y25, e24, xl25⟩ := cons_of xl24
  obtain ⟨x25, y26, e25, xl26⟩ := cons_of xl25
  obtain ⟨x26, y27, e26, xl27⟩ := cons_of xl26
  obtain ⟨x27, y28, e27, xl28⟩ := cons_of xl27
  obtain ⟨x28, y29, e28, xl29⟩ := cons_of xl28
  obtain ⟨x29, y30, e29, xl30⟩ := cons_of xl29
  obtain ⟨x30, y31, e30, xl31⟩ := cons_of xl30
  obtain ⟨x31, y32, e31, xl32⟩ := cons_of xl31
  have e32 := List.eq_nil_of_length_eq_zero xl32
  have hxs : H = (x0 :: x1 :: x2 :: x3 :: x4 :: x5 :: x6 :: x7 :: x8 :: x9 :: x10 :: x11 :: x12 :: x13 :: x14 :: x15 :: x16 :: x17 :: x18 :: x19 :: x20 :: x21 :: x22 :: x23 :: x24 :: x25 :: x26 :: x27 :: x28 :: x29 :: x30 :: x31 :: []) := by rw [hy0, e0, e1, e2, e3, e4, e5, e6, e7, e8, e9, e10, e11, e12, e13, e14, e15, e16, e17, e18, e19, e20, e21, e22, e23, e24, e25, e26, e27, e28, e29, e30, e31, e32]
  subst hxs
  change @Eq (Option (Array Value)) _ _
  kernel_rfl
theorem recB_len (t : BS) (h : t.sum.length = 32) (hn : t.name.length ≤ 100000) (hm : t.mind.length ≤ 100000) : (recB t).length ≤ 200100 := by
  have h1 := encs_len [t.bank, t.size]
  have h2 := encs_len [t.counter]
  have h3 := enc_len9 t.name.length
  have h4 := enc_len9 t.mind.length
  simp [recB] at h1 h2 ⊢
  omega
theorem boot_sum (s : FS) : (bootB s).1.sum.length = 32 := by
  unfold bootB
  split
  · rfl
  · split
    · rfl
    · split
      · rfl
      · split
        · exact stateS_sum _
        · rfl
theorem boot_mind (s : FS) : (bootB s).1.mind.length ≤ 2500 := by
  have h := stateS_mind (loadS s).1
  have h2 := loadS_len s
  unfold bootB
  split
  · exact Nat.zero_le _
  · split
    · exact Nat.zero_le _
    · split
      · exact Nat.zero_le _
      · split
        · exact Nat.le_trans h h2
        · exact Nat.zero_le _
theorem boot_bank (s : FS) : 0 ≤ (bootB s).1.bank ∧ (bootB s).1.bank ≤ 1 := by
  have z : 0 ≤ zeroBS.bank ∧ zeroBS.bank ≤ 1 := by decide
  unfold bootB
  split
  · exact z
  · split
    · exact z
    · split
      · exact z
      · rename_i h
        split
        · obtain ⟨a, b, ea, _, ha, _⟩ := stateS_ok (l := (loadS s).1) (by simpa using h)
          show 0 ≤ (stateS (loadS s).1).1.bank ∧ (stateS (loadS s).1).1.bank ≤ 1
          rw [ea]
          omega
        · exact z

set_option maxHeartbeats 3000000 in
set_option maxRecDepth 100000 in
theorem install_calls (c c2 c3 p g cap : Nat) (s : FS) (name m mind : List UInt8) (vm vi : Value) (counter : Int) (w : World) (o : Col) (h : Fl w o c p g cap s) (hm : RdB w o c2 vm m) (hi : RdB w o c3 vi mind) (h2 : c2 ≠ c) (h3 : c3 ≠ c) :
    Calls Try.prog 35 #[.pointer (some ⟨p, 0, none⟩), .string ⟨name.toArray⟩, vm, .int .i64 counter, vi] w (Post [c] w o fun r w' o' => r = .int .i64 (installS s name m counter mind).2 ∧ Fl w' o' c p g cap (installS s name m counter mind).1) := by
  obtain ⟨A, capA, rfl, _, _⟩ := hm.shape
  obtain ⟨Ai, capI, rfl, _, _⟩ := hi.shape
  obtain ⟨e, he1, _, hef⟩ := fresh o w.heap.size [c, c2, c3]
  obtain ⟨d, hd1, _, hdf⟩ := fresh o w.heap.size [c, c2, c3, e]
  simp only [List.mem_cons, List.not_mem_nil, or_false, not_or] at he1 hd1
  have hak := asked_calls c p g cap s name m mind counter A Ai capA capI w o h
  obtain ⟨BT, hBT⟩ : ∃ BT, bootB s = BT := ⟨_, rfl⟩
  obtain ⟨AE, hAE⟩ : ∃ AE, askedS s name m counter mind = AE := ⟨_, rfl⟩
  have hbs := boot_sum s
  have hbm := boot_mind s
  have hbb := boot_bank s
  obtain ⟨LS, hLS⟩ : ∃ LS, installS s name m counter mind = LS := ⟨_, rfl⟩
  have hv : LS = if AE ≠ 0 then (s, AE) else if BT.2.2 = 0 ∧ counter < BT.1.counter then (s, 5) else if BT.2.2 ≠ 0 ∧ BT.2.2 ≠ 9 then (s, BT.2.2) else if (layB s (80 + (bankOf BT).toNat * 8) m).2 ≠ 0 then layB s (80 + (bankOf BT).toNat * 8) m else saveS (layB s (80 + (bankOf BT).toNat * 8) m).1 (recB (nextB (bankOf BT) name m counter mind)) := by rw [← hLS, installS, hBT, hAE]
  rw [hLS]
  rw [hBT] at hbs hbm hbb
  rw [hAE] at hak
  replace hLS := Lib.hid hLS
  have fin : ∀ w' o' (x : Int), Stp [e] w o w' o' → LS = (s, x) → Post [c] w o (fun r w' o' => r = .int .i64 LS.2 ∧ Fl w' o' c p g cap LS.1) (.returned (.int .i64 x)) w' := by
    intro w' o' x st ev
    rw [ev]
    have st' := st.drop hef
    exact Post.mk st'.none ⟨rfl, h.stp st' (by simp)⟩
  replace fin := Lib.hid fin
  by_cases hA0 : AE = 0
  · have gA : (AE != 0) = false := by simp [hA0]
    have hb9 : m.length ≤ 512 ∧ name.length ≤ 12 ∧ mind.length ≤ 2000 ∧ 0 ≤ counter ∧ counter ≤ 1073741824 := by
      rw [hA0] at hAE
      unfold askedS at hAE
      split at hAE
      · simp at hAE
      · split at hAE
        · simp at hAE
        · split at hAE
          · simp at hAE
          · split at hAE
            · simp at hAE
            · omega
    replace hv := Lib.hid (by rw [hv, if_neg (by simpa using hA0)] : LS = _)
    replace hA0 := Lib.hid hA0
    replace hAE := Lib.hid hAE
    have hsm := shaSum_calls c2 _ m w o hm (by omega)
    obtain ⟨H, hH⟩ : ∃ H, sha m = H := ⟨_, rfl⟩
    have hHl : H.length = 32 := by rw [← hH]; exact sha_len m
    rw [hH] at hsm
    have hbu := built_next (m.length : Int) counter H name Ai mind.length capI mind hHl
    obtain ⟨NX, hNX⟩ : ∃ NX, (⟨0, (m.length : Int), H, counter, name, mind⟩ : BS) = NX := ⟨_, rfl⟩
    rw [hNX] at hbu
    have hNXs : NX.sum.length = 32 := by rw [← hNX]; exact hHl
    have hNXm : NX.mind = mind := by rw [← hNX]
    have hNi := stateInfo (vm := .slice Ai mind.length capI) hNXs
    have hN1 := cells_one NX Ai mind.length capI
    have hNl := cellsBS_len (vm := .slice Ai mind.length capI) hNXs
    obtain ⟨CL, hCL⟩ : ∃ CL, cellsBS NX (.slice Ai mind.length capI) = CL := ⟨_, rfl⟩
    rw [hCL] at hbu hNi hN1 hNl
    obtain ⟨BS0, IM, E⟩ := BT
    dsimp only at hbs hbm hbb
    replace hBT := Lib.hid hBT
    replace hH := Lib.hid hH
    replace hHl := Lib.hid hHl
    replace hNX := Lib.hid hNX
    replace hNXs := Lib.hid hNXs
    replace hNXm := Lib.hid hNXm
    replace hNi := Lib.hid hNi
    replace hN1 := Lib.hid hN1
    replace hNl := Lib.hid hNl
    replace hCL := Lib.hid hCL
    replace hbs := Lib.hid hbs
    replace hbm := Lib.hid hbm
    replace h := Lib.hid h
    replace hm := Lib.hid hm
    replace hi := Lib.hid hi
    replace hbu := Lib.hid hbu
    go_enter Try.func35, Try.ntmps35
    go_wp2_with fail
    refine hak.mono ?_
    clear hak
    rintro ex w1 ⟨rfl, rfl⟩
    go_wp2_with fail
    refine hsm.mono ?_
    clear hsm
    rintro ex w1 ⟨r, o1, rfl, s1, rfl⟩
    have f1 := h.out.stp s1 (by simp)
    have m1 := hm.out.stp s1 (by simp)
    have i1 := hi.out.stp s1 (by simp)
    have s2 : Stp [] w1 o1 (w1.alloc (.cells (cellsBS zeroBS (.slice none 0 0)).toArray 59)) (paint o1 w1.heap.size e) := (Stp.refl [] w1 o1).alloc _ e
    have N2 := Sb.new w1 o1 e zeroBS (.slice none 0 0) rfl
    have f2 := f1.stp s2 (by simp)
    have m2 := m1.stp s2 (by simp)
    have i2 := i1.stp s2 (by simp)
    obtain ⟨w2, hw2⟩ : ∃ w2, w1.alloc (.cells (cellsBS zeroBS (.slice none 0 0)).toArray 59) = w2 := ⟨_, rfl⟩
    obtain ⟨o2, ho2⟩ : ∃ o2, paint o1 w1.heap.size e = o2 := ⟨_, rfl⟩
    obtain ⟨B, hB⟩ : ∃ B, w1.heap.size = B := ⟨_, rfl⟩
    rw [hw2, ho2] at s2 N2 f2 m2 i2
    rw [hB] at N2
    have s3 : Stp [e] w2 o2 (w2.setRow B CL.toArray) o2 := setRow_stp (by rw [N2.col]; simp) _
    have N3 : Sb (w2.setRow B CL.toArray) o2 e B NX (.slice Ai mind.length capI) := ⟨by rw [← hCL.out]; exact setRow_heap _ _ _ _ _ _ N2.blk, N2.col, hNXs.out⟩
    have f3 := f2.stp s3 (by simpa using fun x => he1.1 x.symm)
    have m3 := m2.stp s3 (by simpa using fun x => he1.2.1 x.symm)
    have i3 := i2.stp s3 (by simpa using fun x => he1.2.2 x.symm)
    have st3 : Stp [e] w o _ _ := ((s1.trans s2).none : Stp [e] _ _ _ _).trans s3
    have hN2 := N2.blk
    obtain ⟨w3, hw3⟩ : ∃ w3, w2.setRow B CL.toArray = w3 := ⟨_, rfl⟩
    rw [hw3] at N3 f3 m3 i3 st3
    have hbo := bboot_calls c d d p g cap s w3 o2 f3
    rw [hBT.out] at hbo
    dsimp only at hbo
    replace hN2 := Lib.hid hN2
    replace N2 := Lib.hid N2
    replace N3 := Lib.hid N3
    replace f1 := Lib.hid f1
    replace f2 := Lib.hid f2
    replace f3 := Lib.hid f3
    replace m1 := Lib.hid m1
    replace m2 := Lib.hid m2
    replace m3 := Lib.hid m3
    replace i1 := Lib.hid i1
    replace i2 := Lib.hid i2
    replace i3 := Lib.hid i3
    replace st3 := Lib.hid st3
    replace hw2 := Lib.hid hw2
    replace ho2 := Lib.hid ho2
    replace hB := Lib.hid hB
    replace hw3 := Lib.hid hw3
    clear s1 s2 s3
    go_wp2_with (refine holdAt 33 ?_)
    apply Hold.mk
    refine wpList_buildTo rfl 59 _ rfl (some 33) rfl CL.toArray ?_ ?_
    · have hb' := hbu.out
      simp
      exact hb'
    go_wp2_with (refine holdSt 59 ?_)
    apply Hold.mk
    rw [show w1.alloc (.cells (Value.int .i64 0 :: .int .i64 0 :: .int .u8 0 :: .int .u8 0 :: .int .u8 0 :: .int .u8 0 :: .int .u8 0 :: .int .u8 0 :: .int .u8 0 :: .int .u8 0 :: .int .u8 0 :: .int .u8 0 :: .int .u8 0 :: .int .u8 0 :: .int .u8 0 :: .int .u8 0 :: .int .u8 0 :: .int .u8 0 :: .int .u8 0 :: .int .u8 0 :: .int .u8 0 :: .int .u8 0 :: .int .u8 0 :: .int .u8 0 :: .int .u8 0 :: .int .u8 0 :: .int .u8 0 :: .int .u8 0 :: .int .u8 0 :: .int .u8 0 :: .int .u8 0 :: .int .u8 0 :: .int .u8 0 :: .int .u8 0 :: .int .i64 0 :: .string ⟨#[]⟩ :: .slice none 0 0 :: []).toArray 59) = w2 from hw2.out, hB.out]
    refine wpList_store_row rfl 59 _ _ rfl B CL.toArray rfl rfl 59 _ hN2.out (by rw [hNi.out]; simp) (by simp [hNl.out, cellsBS_len (t := zeroBS) (vm := .slice none 0 0) rfl]) hN1.out ?_
    rw [hw3.out]
    go_wp2_with fail
    refine hbo.mono ?_
    clear hbo
    rintro ex w4 ⟨r, o4, rfl, s4, vb, vi4, rfl, b4, r4⟩
    obtain ⟨Ab, capb, rfl⟩ := Own.shape b4
    have f4 := f3.out.stp s4 (by simp)
    have m4 := m3.out.stp s4 (by simp)
    have i4 := i3.out.stp s4 (by simp)
    have N4 := N3.out.stp s4 (by simp)
    have st4 := st3.out.trans s4.none
    have s5 : Stp [] w4 o4 (w4.alloc (.cells (cellsBS zeroBS (.slice none 0 0)).toArray 59)) (paint o4 w4.heap.size e) := (Stp.refl [] w4 o4).alloc _ e
    have T5 := Sb.new w4 o4 e zeroBS (.slice none 0 0) rfl
    have f5 := f4.stp s5 (by simp)
    have m5 := m4.stp s5 (by simp)
    have i5 := i4.stp s5 (by simp)
    have N5 := N4.stp s5 (by simp)
    obtain ⟨w5, hw5⟩ : ∃ w5, w4.alloc (.cells (cellsBS zeroBS (.slice none 0 0)).toArray 59) = w5 := ⟨_, rfl⟩
    obtain ⟨o5, ho5⟩ : ∃ o5, paint o4 w4.heap.size e = o5 := ⟨_, rfl⟩
    obtain ⟨T, hT⟩ : ∃ T, w4.heap.size = T := ⟨_, rfl⟩
    have hTB : B ≠ T := by
      have := (Array.getElem?_eq_some_iff.1 N4.blk).1
      omega
    rw [hw5, ho5] at s5 T5 f5 m5 i5 N5
    rw [hT] at T5
    have hbi := stateInfo (vm := .slice Ab BS0.mind.length capb) hbs.out
    have hb1 := cells_one BS0 Ab BS0.mind.length capb
    have hbl := cellsBS_len (vm := .slice Ab BS0.mind.length capb) hbs.out
    obtain ⟨CB, hCB⟩ : ∃ CB, cellsBS BS0 (.slice Ab BS0.mind.length capb) = CB := ⟨_, rfl⟩
    rw [hCB] at hbi hb1 hbl
    have s6 : Stp [e] w5 o5 (w5.setRow T CB.toArray) o5 := setRow_stp (by rw [T5.col]; simp) _
    have T6 : Sb (w5.setRow T CB.toArray) o5 e T BS0 (.slice Ab BS0.mind.length capb) := ⟨by rw [hCB]; exact setRow_heap _ _ _ _ _ _ T5.blk, T5.col, hbs.out⟩
    have N6 : Sb (w5.setRow T CB.toArray) o5 e B NX (.slice Ai mind.length capI) := ⟨(setRow_other w5 T B _ hTB).trans N5.blk, N5.col, hNXs.out⟩
    have f6 := f5.stp s6 (by simpa using fun x => he1.1 x.symm)
    have m6 := m5.stp s6 (by simpa using fun x => he1.2.1 x.symm)
    have i6 := i5.stp s6 (by simpa using fun x => he1.2.2 x.symm)
    have st6 : Stp [e] w o _ _ := (st4.trans s5.none).trans s6
    have hT5 := T5.blk
    obtain ⟨w6, hw6⟩ : ∃ w6, w5.setRow T CB.toArray = w6 := ⟨_, rfl⟩
    rw [hw6] at T6 N6 f6 m6 i6 st6
    have t0 := T6.c0
    have t34 := T6.c34
    have n0 := N6.c0
    have n0f := N6.free 0
    replace hT5 := Lib.hid hT5
    replace T5 := Lib.hid T5
    replace T6 := Lib.hid T6
    replace N4 := Lib.hid N4
    replace N5 := Lib.hid N5
    replace N6 := Lib.hid N6
    replace f4 := Lib.hid f4
    replace f5 := Lib.hid f5
    replace f6 := Lib.hid f6
    replace m4 := Lib.hid m4
    replace m5 := Lib.hid m5
    replace m6 := Lib.hid m6
    replace i4 := Lib.hid i4
    replace i5 := Lib.hid i5
    replace i6 := Lib.hid i6
    replace b4 := Lib.hid b4
    replace r4 := Lib.hid r4
    replace st4 := Lib.hid st4
    replace st6 := Lib.hid st6
    replace hw5 := Lib.hid hw5
    replace ho5 := Lib.hid ho5
    replace hT := Lib.hid hT
    replace hTB := Lib.hid hTB
    replace hbi := Lib.hid hbi
    replace hb1 := Lib.hid hb1
    replace hbl := Lib.hid hbl
    replace hCB := Lib.hid hCB
    replace hw6 := Lib.hid hw6
    clear s4 s5 s6
    obtain ⟨bk0, hbk0⟩ : ∃ x, BS0.bank = x := ⟨_, rfl⟩
    obtain ⟨ct0, hct0⟩ : ∃ x, BS0.counter = x := ⟨_, rfl⟩
    rw [hbk0] at t0 hbb
    rw [hct0] at t34
    go_wp2_with (refine holdSt 59 ?_)
    apply Hold.mk
    rw [show w4.alloc (.cells (Value.int .i64 0 :: .int .i64 0 :: .int .u8 0 :: .int .u8 0 :: .int .u8 0 :: .int .u8 0 :: .int .u8 0 :: .int .u8 0 :: .int .u8 0 :: .int .u8 0 :: .int .u8 0 :: .int .u8 0 :: .int .u8 0 :: .int .u8 0 :: .int .u8 0 :: .int .u8 0 :: .int .u8 0 :: .int .u8 0 :: .int .u8 0 :: .int .u8 0 :: .int .u8 0 :: .int .u8 0 :: .int .u8 0 :: .int .u8 0 :: .int .u8 0 :: .int .u8 0 :: .int .u8 0 :: .int .u8 0 :: .int .u8 0 :: .int .u8 0 :: .int .u8 0 :: .int .u8 0 :: .int .u8 0 :: .int .u8 0 :: .int .i64 0 :: .string ⟨#[]⟩ :: .slice none 0 0 :: []).toArray 59) = w5 from hw5.out, hT.out, hCB.out]
    refine wpList_store_row rfl 59 _ _ rfl T CB.toArray rfl rfl 59 _ hT5.out (by rw [hbi.out]; simp) (by simp [hbl.out, cellsBS_len (t := zeroBS) (vm := .slice none 0 0) rfl]) hb1.out ?_
    rw [hw6.out]
    by_cases hE : E = 0
    · subst hE
      by_cases hlt : counter < ct0
      · have g1 : decide (counter < ct0) = true := decide_eq_true hlt
        have hv5 : LS = (s, 5) := by
          rw [hv.out]
          exact if_pos ⟨rfl, by show counter < BS0.counter; rw [hct0]; exact hlt⟩
        replace hv := Lib.hid hv5
        clear hv5 n0 n0f t0
        replace hbk0 := Lib.hid hbk0
        replace hct0 := Lib.hid hct0
        go_wp2
        go_ret
        exact fin.out _ _ _ st6.out hv.out
      have g1 : decide (counter < ct0) = false := decide_eq_false hlt
      obtain ⟨BK, hBKe⟩ : ∃ x : Int, 1 - bk0 = x := ⟨_, rfl⟩
      have hBK : 0 ≤ BK ∧ BK ≤ 1 := by omega
      obtain ⟨K, hK⟩ : ∃ K, 80 + BK.toNat * 8 = K := ⟨_, rfl⟩
      have hKI : (K : Int) = 80 + BK * 8 := by omega
      obtain ⟨NB, hNB⟩ : ∃ NB, ({ NX with bank := BK } : BS) = NB := ⟨_, rfl⟩
      have hNB0 : NB.bank = BK := by rw [← hNB]
      have hFm := Lib.hid (show NB.mind = mind by rw [← hNB]; exact hNXm.out)
      have hFn := Lib.hid (show NB.name.length ≤ 12 by rw [← hNB, ← hNX.out]; exact hb9.2.1)
      have hrec : recB (nextB BK name m counter mind) = recB NB := by rw [← hNB, ← hNX.out, ← hH.out]; rfl
      have hv6 : LS = if (layB s K m).2 ≠ 0 then layB s K m else saveS (layB s K m).1 (recB NB) := by
        have e1 : bankOf (BS0, IM, 0) = BK := by
          show 1 - BS0.bank = BK
          rw [hbk0]
          exact hBKe
        rw [hv.out, if_neg (by rintro ⟨_, h9⟩; rw [← hct0] at hlt; exact hlt h9), if_neg (by rintro ⟨h9, _⟩; exact h9 rfl), e1, hK, hrec]
      replace hv := Lib.hid hv6
      clear hv6
      have h7 := blk_set (j := 0) N6.out.blk (.int .i64 BK)
      rw [cells_set0, hNB] at h7
      have s7 : Stp [e] w6 o5 (w6.setCell ⟨B, 0, none⟩ (.int .i64 BK)) o5 := (Stp.refl [e] w6 o5).setCell (fun _ => by show o5 B ∈ _; rw [N6.out.col]; simp) _
      have N7 : Sb (w6.setCell ⟨B, 0, none⟩ (.int .i64 BK)) o5 e B NB (.slice Ai mind.length capI) := ⟨h7, N6.out.col, by rw [← hNB]; exact hNXs.out⟩
      have f7 := f6.out.stp s7 (by simpa using fun x => he1.1 x.symm)
      have m7 := m6.out.stp s7 (by simpa using fun x => he1.2.1 x.symm)
      have i7 := i6.out.stp s7 (by simpa using fun x => he1.2.2 x.symm)
      have st7 := st6.out.trans s7
      have hBKi : (1 : Int) - bk0 = BK := hBKe
      replace hbk0 := Lib.hid hbk0
      replace hct0 := Lib.hid hct0
      replace hNB := Lib.hid hNB
      replace hK := Lib.hid hK
      replace hrec := Lib.hid hrec
      replace h7 := Lib.hid h7
      replace N7 := Lib.hid N7
      replace f7 := Lib.hid f7
      replace m7 := Lib.hid m7
      replace i7 := Lib.hid i7
      replace st7 := Lib.hid st7
      replace hKI := Lib.hid hKI
      replace hKI := hKI.out
      clear s7
      have nq := N7.out.c0
      rw [hNB0] at nq
      have hlay := blay_calls c c2 p g cap s BK K hKI hBK.1 hBK.2 _ m _ _ f7.out m7.out h2 (by omega)
      obtain ⟨LY, hLY⟩ : ∃ LY, layB s K m = LY := ⟨_, rfl⟩
      rw [hLY] at hlay
      replace hv := Lib.hid (by rw [hv.out, hLY] : LS = _)
      replace hLY := Lib.hid hLY
      by_cases hz : LY.2 = 0
      · have gz : (LY.2 != 0) = false := by simp [hz]
        replace hv := Lib.hid (by rw [hv.out, if_neg (by simpa using hz)] : LS = _)
        replace hz := Lib.hid hz
        go_wp2_with fail
        refine hlay.mono ?_
        clear hlay
        rintro ex w8 ⟨r, o8, rfl, s8, rfl, f8⟩
        have N8 := N7.out.stp s8 (by simpa using he1.1)
        have i8 := i7.out.stp s8 (by simpa using h3)
        have st8 := (st7.out.mono (by simp) : Stp [e, c] _ _ _ _).trans (s8.mono (by simp))
        have hall := N8.all
        have hCNi := stateInfo (vm := .slice Ai mind.length capI) N8.sum
        have hrc := record_calls c3 d NB (.slice Ai mind.length capI) w8 o8 (by rw [hFm.out]; exact i8) N8.sum (by have := hFn.out; omega) (by rw [hFm.out]; omega)
        have hrl := recB_len NB N8.sum (by have := hFn.out; omega) (by rw [hFm.out]; omega)
        obtain ⟨CN, hCN⟩ : ∃ CN, cellsBS NB (.slice Ai mind.length capI) = CN := ⟨_, rfl⟩
        obtain ⟨RC, hRC⟩ : ∃ RC, recB NB = RC := ⟨_, rfl⟩
        rw [hCN] at hall hCNi hrc
        rw [hRC] at hrc hrl
        replace hv := Lib.hid (by rw [hv.out, hRC] : LS = _)
        replace hall := Lib.hid hall
        replace hCNi := Lib.hid hCNi
        replace hCN := Lib.hid hCN
        replace hRC := Lib.hid hRC
        replace N8 := Lib.hid N8
        replace i8 := Lib.hid i8
        replace f8 := Lib.hid f8
        replace st8 := Lib.hid st8
        clear s8 nq
        go_wp2_with (refine list_load rfl 59 _ rfl ⟨B, 0, none⟩ rfl CN _ hall.out Try.underlying59 rfl hCNi.out ?_)
        refine hrc.mono ?_
        clear hrc
        rintro ex w9 ⟨r, o9, rfl, s9, q9⟩
        obtain ⟨A9, cap9, rfl⟩ := Own.shape q9
        have f9 := f8.out.stp s9 (by simp)
        have st9 := st8.out.trans s9.none
        have hsv := save_any c d p g cap LY.1 _ RC w9 o9 f9 (OwnB.rd q9) hd1.1
        rw [← hv.out] at hsv
        replace q9 := Lib.hid q9
        replace f9 := Lib.hid f9
        replace st9 := Lib.hid st9
        clear s9
        go_wp2_with fail
        refine hsv.mono ?_
        clear hsv
        rintro ex wa ⟨r, oa, rfl, sa, rfl, fa⟩
        have sta := Lib.hid (st9.out.trans (sa.mono (D := [e, c]) (by simp)))
        replace fa := Lib.hid fa
        clear sa
        go_wp2
        go_ret
        exact Post.mk (sta.out.drop hef) ⟨rfl, fa.out⟩
      · have gz : (LY.2 != 0) = true := by simp [hz]
        replace hv := Lib.hid (by rw [hv.out, if_pos (by simpa using hz)] : LS = _)
        replace hz := Lib.hid hz
        go_wp2_with fail
        refine hlay.mono ?_
        clear hlay
        rintro ex w8 ⟨r, o8, rfl, s8, rfl, f8⟩
        have st8 := Lib.hid ((st7.out.mono (by simp) : Stp [e, c] _ _ _ _).trans (s8.mono (by simp)))
        replace f8 := Lib.hid f8
        clear s8
        go_wp2
        go_ret
        exact Post.mk (st8.out.drop hef) ⟨by rw [hv.out]; rfl, by rw [hv.out]; exact f8.out⟩
    · have g0 : (E == 0) = false := by simpa using hE
      by_cases hE9 : E = 9
      · subst hE9
        obtain ⟨BK, hBKe⟩ : ∃ x : Int, (0 : Int) = x := ⟨_, rfl⟩
        have hBK : 0 ≤ BK ∧ BK ≤ 1 := by omega
        obtain ⟨K, hK⟩ : ∃ K, 80 + BK.toNat * 8 = K := ⟨_, rfl⟩
        have hKI : (K : Int) = 80 + BK * 8 := by omega
        obtain ⟨NB, hNB⟩ : ∃ NB, ({ NX with bank := BK } : BS) = NB := ⟨_, rfl⟩
        have hNB0 : NB.bank = BK := by rw [← hNB]
        have hFm := Lib.hid (show NB.mind = mind by rw [← hNB]; exact hNXm.out)
        have hFn := Lib.hid (show NB.name.length ≤ 12 by rw [← hNB, ← hNX.out]; exact hb9.2.1)
        have hrec : recB (nextB BK name m counter mind) = recB NB := by rw [← hNB, ← hNX.out, ← hH.out]; rfl
        have hv6 : LS = if (layB s K m).2 ≠ 0 then layB s K m else saveS (layB s K m).1 (recB NB) := by
          have e1 : bankOf (BS0, IM, 9) = BK := hBKe
          rw [hv.out, if_neg (by rintro ⟨h9, _⟩; exact absurd h9 (by decide)), if_neg (by rintro ⟨_, h9⟩; exact h9 rfl), e1, hK, hrec]
        replace hv := Lib.hid hv6
        clear hv6
        have hNN : NX = NB := by rw [← hNB, ← hBKe, ← hNX.out]
        have N7 : Sb w6 o5 e B NB (.slice Ai mind.length capI) := by rw [← hNN]; exact N6.out
        replace N7 := Lib.hid N7
        replace hNN := Lib.hid hNN
        replace hbk0 := Lib.hid hbk0
        replace hct0 := Lib.hid hct0
        replace hNB := Lib.hid hNB
        replace hK := Lib.hid hK
        replace hrec := Lib.hid hrec
        clear n0
        have nq := N7.out.c0
        rw [hNB0] at nq
        have hlay := blay_calls c c2 p g cap s BK K hKI hBK.1 hBK.2 _ m _ _ f6.out m6.out h2 (by omega)
        obtain ⟨LY, hLY⟩ : ∃ LY, layB s K m = LY := ⟨_, rfl⟩
        rw [hLY] at hlay
        replace hv := Lib.hid (by rw [hv.out, hLY] : LS = _)
        replace hLY := Lib.hid hLY
        by_cases hz : LY.2 = 0
        · have gz : (LY.2 != 0) = false := by simp [hz]
          replace hv := Lib.hid (by rw [hv.out, if_neg (by simpa using hz)] : LS = _)
          replace hz := Lib.hid hz
          go_wp2_with fail
          refine hlay.mono ?_
          clear hlay
          rintro ex w8 ⟨r, o8, rfl, s8, rfl, f8⟩
          have N8 := N7.out.stp s8 (by simpa using he1.1)
          have i8 := i6.out.stp s8 (by simpa using h3)
          have st8 := (st6.out.mono (by simp) : Stp [e, c] _ _ _ _).trans (s8.mono (by simp))
          have hall := N8.all
          have hCNi := stateInfo (vm := .slice Ai mind.length capI) N8.sum
          have hrc := record_calls c3 d NB (.slice Ai mind.length capI) w8 o8 (by rw [hFm.out]; exact i8) N8.sum (by have := hFn.out; omega) (by rw [hFm.out]; omega)
          have hrl := recB_len NB N8.sum (by have := hFn.out; omega) (by rw [hFm.out]; omega)
          obtain ⟨CN, hCN⟩ : ∃ CN, cellsBS NB (.slice Ai mind.length capI) = CN := ⟨_, rfl⟩
          obtain ⟨RC, hRC⟩ : ∃ RC, recB NB = RC := ⟨_, rfl⟩
          rw [hCN] at hall hCNi hrc
          rw [hRC] at hrc hrl
          replace hv := Lib.hid (by rw [hv.out, hRC] : LS = _)
          replace hall := Lib.hid hall
          replace hCNi := Lib.hid hCNi
          replace hCN := Lib.hid hCN
          replace hRC := Lib.hid hRC
          replace N8 := Lib.hid N8
          replace i8 := Lib.hid i8
          replace f8 := Lib.hid f8
          replace st8 := Lib.hid st8
          clear s8 nq
          go_wp2_with (refine list_load rfl 59 _ rfl ⟨B, 0, none⟩ rfl CN _ hall.out Try.underlying59 rfl hCNi.out ?_)
          refine hrc.mono ?_
          clear hrc
          rintro ex w9 ⟨r, o9, rfl, s9, q9⟩
          obtain ⟨A9, cap9, rfl⟩ := Own.shape q9
          have f9 := f8.out.stp s9 (by simp)
          have st9 := st8.out.trans s9.none
          have hsv := save_any c d p g cap LY.1 _ RC w9 o9 f9 (OwnB.rd q9) hd1.1
          rw [← hv.out] at hsv
          replace q9 := Lib.hid q9
          replace f9 := Lib.hid f9
          replace st9 := Lib.hid st9
          clear s9
          go_wp2_with fail
          refine hsv.mono ?_
          clear hsv
          rintro ex wa ⟨r, oa, rfl, sa, rfl, fa⟩
          have sta := Lib.hid (st9.out.trans (sa.mono (D := [e, c]) (by simp)))
          replace fa := Lib.hid fa
          clear sa
          go_wp2
          go_ret
          exact Post.mk (sta.out.drop hef) ⟨rfl, fa.out⟩
        · have gz : (LY.2 != 0) = true := by simp [hz]
          replace hv := Lib.hid (by rw [hv.out, if_pos (by simpa using hz)] : LS = _)
          replace hz := Lib.hid hz
          go_wp2_with fail
          refine hlay.mono ?_
          clear hlay
          rintro ex w8 ⟨r, o8, rfl, s8, rfl, f8⟩
          have st8 := Lib.hid ((st6.out.mono (by simp) : Stp [e, c] _ _ _ _).trans (s8.mono (by simp)))
          replace f8 := Lib.hid f8
          clear s8
          go_wp2
          go_ret
          exact Post.mk (st8.out.drop hef) ⟨by rw [hv.out]; rfl, by rw [hv.out]; exact f8.out⟩
      · have g9 : (E != 9) = true := by simp [hE9]
        have hvE : LS = (s, E) := by rw [hv.out, if_neg (by rintro ⟨h9, _⟩; exact hE h9), if_pos ⟨hE, hE9⟩]
        replace hv := Lib.hid hvE
        clear hvE n0 n0f t0 t34
        replace hbk0 := Lib.hid hbk0
        replace hct0 := Lib.hid hct0
        go_wp2
        go_ret
        exact fin.out _ _ _ st6.out hv.out
  · have gA : (AE != 0) = true := by simp [hA0]
    replace hv := Lib.hid (by rw [hv, if_pos (by simpa using hA0)] : LS = _)
    replace hA0 := Lib.hid hA0
    replace hAE := Lib.hid hAE
    replace hBT := Lib.hid hBT
    replace h := Lib.hid h
    clear hbb
    go_enter Try.func35, Try.ntmps35
    go_wp2_with fail
    refine hak.mono ?_
    clear hak
    rintro ex w1 ⟨rfl, rfl⟩
    go_wp2
    go_ret
    exact fin.out _ _ _ (Stp.refl _ _ _) hv.out
end Go.Proofs.Ytpjnmijfmfgdpaa
