/- Banks (chapter 13): Keep: the walk. Printed by wip/bankhgen.py. -/
import Derived.Test.YtpjnmijfmfgdpaaBankG
import Derived.Test.YtpjnmijfmfgdpaaClone
namespace Go.Proofs.Ytpjnmijfmfgdpaa
set_option linter.unusedVariables false
set_option linter.unusedSimpArgs false
open Go.RowKit

theorem boot_name (s : FS) : (bootB s).1.name.length ≤ 2500 := by
  have h : (stateS (loadS s).1).1.name.length ≤ (loadS s).1.length := by
    obtain ⟨l, hl⟩ : ∃ l, (loadS s).1 = l := ⟨_, rfl⟩
    rw [hl]
    have q1 := nNum_le l false
    have q2 := nNum_le (nNum l false).2.1 (nNum l false).2.2
    have q3 := nRaw_le 32 (nNum (nNum l false).2.1 (nNum l false).2.2).2.1 (nNum (nNum l false).2.1 (nNum l false).2.2).2.2
    obtain ⟨c, hc⟩ : ∃ c, nRaw 32 (nNum (nNum l false).2.1 (nNum l false).2.2).2.1 (nNum (nNum l false).2.1 (nNum l false).2.2).2.2 = c := ⟨_, rfl⟩
    have q4 := nNum_le c.2.1 c.2.2
    have q5 := nBytes_le (nNum c.2.1 c.2.2).2.1 (nNum c.2.1 c.2.2).2.2
    have e : (stateS l).1.name = (nBytes (nNum c.2.1 c.2.2).2.1 (nNum c.2.1 c.2.2).2.2).1 := by rw [← hc]; rfl
    rw [e]
    rw [hc] at q3
    omega
  have h2 := loadS_len s
  unfold bootB
  split
  · exact Nat.zero_le _
  · split
    · exact Nat.zero_le _
    · split
      · exact Nat.zero_le _
      · split
        · exact Nat.le_trans h h2
        · exact Nat.zero_le _
set_option maxHeartbeats 3000000 in
set_option maxRecDepth 100000 in
theorem keep_calls (c c3 p g cap : Nat) (s : FS) (mind : List UInt8) (vi : Value) (w : World) (o : Col) (h : Fl w o c p g cap s) (hi : RdB w o c3 vi mind) (h3 : c3 ≠ c) :
    Calls Try.prog 39 #[.pointer (some ⟨p, 0, none⟩), vi] w (Post [c] w o fun r w' o' => r = .int .i64 (keepS s mind).2 ∧ Fl w' o' c p g cap (keepS s mind).1) := by
  obtain ⟨Ai, capI, rfl, _, _⟩ := hi.shape
  obtain ⟨e, he1, _, hef⟩ := fresh o w.heap.size [c, c3]
  obtain ⟨d, hd1, _, hdf⟩ := fresh o w.heap.size [c, c3, e]
  simp only [List.mem_cons, List.not_mem_nil, or_false, not_or] at he1 hd1
  have hbo := bboot_calls c d d p g cap s w o h
  obtain ⟨BT, hBT⟩ : ∃ BT, bootB s = BT := ⟨_, rfl⟩
  have hbs := boot_sum s
  have hbm := boot_mind s
  have hbn := boot_name s
  obtain ⟨LS, hLS⟩ : ∃ LS, keepS s mind = LS := ⟨_, rfl⟩
  have hv : LS = if BT.2.2 ≠ 0 then (s, BT.2.2) else if 2000 < mind.length then (s, 10) else saveS s (recB { BT.1 with mind := mind }) := by rw [← hLS, keepS, hBT]
  rw [hLS]
  rw [hBT] at hbs hbm hbn hbo
  obtain ⟨BS0, IM, E⟩ := BT
  dsimp only at hbs hbm hbn hbo hv
  have fin : ∀ w' o' (x : Int), Stp [e] w o w' o' → LS = (s, x) → Post [c] w o (fun r w' o' => r = .int .i64 LS.2 ∧ Fl w' o' c p g cap LS.1) (.returned (.int .i64 x)) w' := by
    intro w' o' x st ev
    rw [ev]
    have st' := st.drop hef
    exact Post.mk st'.none ⟨rfl, h.stp st' (by simp)⟩
  replace fin := Lib.hid fin
  replace hLS := Lib.hid hLS
  replace hBT := Lib.hid hBT
  replace hv := Lib.hid hv
  replace hbs := Lib.hid hbs
  replace hbm := Lib.hid hbm
  replace hbn := Lib.hid hbn
  replace h := Lib.hid h
  replace hi := Lib.hid hi
  go_enter Try.func39, Try.ntmps39
  go_wp2_with fail
  refine hbo.mono ?_
  clear hbo
  rintro ex w4 ⟨r, o4, rfl, s4, vb, vi4, rfl, b4, r4⟩
  obtain ⟨Ab, capb, rfl⟩ := Own.shape b4
  have f4 := h.out.stp s4 (by simp)
  have i4 := hi.out.stp s4 (by simp)
  have s5 : Stp [] w4 o4 (w4.alloc (.cells (cellsBS zeroBS (.slice none 0 0)).toArray 59)) (paint o4 w4.heap.size e) := (Stp.refl [] w4 o4).alloc _ e
  have T5 := Sb.new w4 o4 e zeroBS (.slice none 0 0) rfl
  have f5 := f4.stp s5 (by simp)
  have i5 := i4.stp s5 (by simp)
  obtain ⟨w5, hw5⟩ : ∃ w5, w4.alloc (.cells (cellsBS zeroBS (.slice none 0 0)).toArray 59) = w5 := ⟨_, rfl⟩
  obtain ⟨o5, ho5⟩ : ∃ o5, paint o4 w4.heap.size e = o5 := ⟨_, rfl⟩
  obtain ⟨T, hT⟩ : ∃ T, w4.heap.size = T := ⟨_, rfl⟩
  rw [hw5, ho5] at s5 T5 f5 i5
  rw [hT] at T5
  have hbi := stateInfo (vm := .slice Ab BS0.mind.length capb) hbs.out
  have hb1 := cells_one BS0 Ab BS0.mind.length capb
  have hbl := cellsBS_len (vm := .slice Ab BS0.mind.length capb) hbs.out
  obtain ⟨CB, hCB⟩ : ∃ CB, cellsBS BS0 (.slice Ab BS0.mind.length capb) = CB := ⟨_, rfl⟩
  rw [hCB] at hbi hb1 hbl
  have s6 : Stp [e] w5 o5 (w5.setRow T CB.toArray) o5 := setRow_stp (by rw [T5.col]; simp) _
  have T6 : Sb (w5.setRow T CB.toArray) o5 e T BS0 (.slice Ab BS0.mind.length capb) := ⟨by rw [hCB]; exact setRow_heap _ _ _ _ _ _ T5.blk, T5.col, hbs.out⟩
  have f6 := f5.stp s6 (by simpa using fun x => he1.1 x.symm)
  have i6 := i5.stp s6 (by simpa using fun x => he1.2 x.symm)
  have st6 : Stp [e] w o _ _ := ((s4.trans s5).none : Stp [e] _ _ _ _).trans s6
  have hT5 := T5.blk
  obtain ⟨w6, hw6⟩ : ∃ w6, w5.setRow T CB.toArray = w6 := ⟨_, rfl⟩
  rw [hw6] at T6 f6 i6 st6
  replace hT5 := Lib.hid hT5
  replace T5 := Lib.hid T5
  replace T6 := Lib.hid T6
  replace f4 := Lib.hid f4
  replace f5 := Lib.hid f5
  replace f6 := Lib.hid f6
  replace i4 := Lib.hid i4
  replace i5 := Lib.hid i5
  replace i6 := Lib.hid i6
  replace b4 := Lib.hid b4
  replace r4 := Lib.hid r4
  replace st6 := Lib.hid st6
  replace hw5 := Lib.hid hw5
  replace ho5 := Lib.hid ho5
  replace hT := Lib.hid hT
  replace hbi := Lib.hid hbi
  replace hb1 := Lib.hid hb1
  replace hbl := Lib.hid hbl
  replace hCB := Lib.hid hCB
  replace hw6 := Lib.hid hw6
  clear s4 s5 s6
  go_wp2_with (refine holdSt 59 ?_)
  apply Hold.mk
  rw [show w4.alloc (.cells (Value.int .i64 0 :: .int .i64 0 :: .int .u8 0 :: .int .u8 0 :: .int .u8 0 :: .int .u8 0 :: .int .u8 0 :: .int .u8 0 :: .int .u8 0 :: .int .u8 0 :: .int .u8 0 :: .int .u8 0 :: .int .u8 0 :: .int .u8 0 :: .int .u8 0 :: .int .u8 0 :: .int .u8 0 :: .int .u8 0 :: .int .u8 0 :: .int .u8 0 :: .int .u8 0 :: .int .u8 0 :: .int .u8 0 :: .int .u8 0 :: .int .u8 0 :: .int .u8 0 :: .int .u8 0 :: .int .u8 0 :: .int .u8 0 :: .int .u8 0 :: .int .u8 0 :: .int .u8 0 :: .int .u8 0 :: .int .u8 0 :: .int .i64 0 :: .string ⟨#[]⟩ :: .slice none 0 0 :: []).toArray 59) = w5 from hw5.out, hT.out, hCB.out]
  refine wpList_store_row rfl 59 _ _ rfl T CB.toArray rfl rfl 59 _ hT5.out (by rw [hbi.out]; simp) (by simp [hbl.out, cellsBS_len (t := zeroBS) (vm := .slice none 0 0) rfl]) hb1.out ?_
  rw [hw6.out]
  by_cases hE : E = 0
  · subst hE
    replace hv := Lib.hid (by rw [hv.out, if_neg (by simp)] : LS = _)
    by_cases hbig : 2000 < mind.length
    · have g1 : decide ((2000 : Int) < (mind.length : Int)) = true := decide_eq_true (by omega)
      replace hv := Lib.hid (by rw [hv.out, if_pos hbig] : LS = _)
      go_wp2
      go_ret
      exact fin.out _ _ _ st6.out hv.out
    · have g1 : decide ((2000 : Int) < (mind.length : Int)) = false := decide_eq_false (by omega)
      replace hv := Lib.hid (by rw [hv.out, if_neg hbig] : LS = _)
      have hcl := clone_calls c3 d _ mind w6 o5 i6.out (by omega)
      go_wp2_with fail
      refine hcl.mono ?_
      clear hcl
      rintro ex w7 ⟨r, o7, rfl, s7, q7⟩
      obtain ⟨A7, cap7, rfl⟩ := Own.shape q7
      have q7' : OwnB w7 o7 d (.slice A7 mind.length cap7) mind := q7
      have T7 := T6.out.stp s7 (by simp)
      have f7 := f6.out.stp s7 (by simp)
      have st7 := st6.out.trans s7.none
      have h8 := blk_set (j := 36) T7.blk (.slice A7 mind.length cap7)
      rw [cells_set36 _ _ _ mind T7.sum] at h8
      have d36 := T7.c36
      have f36 := T7.free 36
      have s8 : Stp [e] w7 o7 (w7.setCell ⟨T, 36, none⟩ (.slice A7 mind.length cap7)) o7 := (Stp.refl [e] w7 o7).setCell (fun _ => by show o7 T ∈ _; rw [T7.col]; simp) _
      obtain ⟨NB, hNB⟩ : ∃ NB, ({ BS0 with mind := mind } : BS) = NB := ⟨_, rfl⟩
      rw [hNB] at h8
      have T8 : Sb (w7.setCell ⟨T, 36, none⟩ (.slice A7 mind.length cap7)) o7 e T NB (.slice A7 mind.length cap7) := ⟨h8, T7.col, by rw [← hNB]; exact hbs.out⟩
      have hFm : NB.mind = mind := by rw [← hNB]
      have hFn : NB.name.length ≤ 2500 := by rw [← hNB]; exact hbn.out
      have f8 := f7.stp s8 (by simpa using fun x => he1.1 x.symm)
      have q8 := OwnB.stp q7' s8 (by simpa using fun x => hd1.2.2 x)
      have st8 := st7.trans s8
      have hall := T8.all
      have hCNi := stateInfo (vm := .slice A7 mind.length cap7) T8.sum
      have hrc := record_calls d d NB (.slice A7 mind.length cap7) _ _ (by rw [hFm]; exact OwnB.rd q8) T8.sum (by omega) (by rw [hFm]; omega)
      obtain ⟨CN, hCN⟩ : ∃ CN, cellsBS NB (.slice A7 mind.length cap7) = CN := ⟨_, rfl⟩
      obtain ⟨RC, hRC⟩ : ∃ RC, recB NB = RC := ⟨_, rfl⟩
      rw [hCN] at hall hCNi hrc
      rw [hRC] at hrc
      replace hv := Lib.hid (by rw [hv.out, hNB, hRC] : LS = _)
      replace hall := Lib.hid hall
      replace hCNi := Lib.hid hCNi
      replace hCN := Lib.hid hCN
      replace hRC := Lib.hid hRC
      replace hNB := Lib.hid hNB
      replace hFm := Lib.hid hFm
      replace h8 := Lib.hid h8
      replace T7 := Lib.hid T7
      replace T8 := Lib.hid T8
      replace f7 := Lib.hid f7
      replace f8 := Lib.hid f8
      replace q7 := Lib.hid q7
      replace q7' := Lib.hid q7'
      replace q8 := Lib.hid q8
      replace st7 := Lib.hid st7
      replace st8 := Lib.hid st8
      clear s7 s8
      go_wp2_with (refine list_load rfl 59 _ rfl ⟨T, 0, none⟩ rfl CN _ hall.out Try.underlying59 rfl hCNi.out ?_)
      refine hrc.mono ?_
      clear hrc d36 f36
      rintro ex w9 ⟨r, o9, rfl, s9, q9⟩
      obtain ⟨A9, cap9, rfl⟩ := Own.shape q9
      have f9 := f8.out.stp s9 (by simp)
      have st9 := st8.out.trans s9.none
      have hsv := save_any c d p g cap s _ RC w9 o9 f9 (OwnB.rd q9) hd1.1
      rw [← hv.out] at hsv
      replace q9 := Lib.hid q9
      replace f9 := Lib.hid f9
      replace st9 := Lib.hid st9
      clear s9
      go_wp2_with fail
      refine hsv.mono ?_
      clear hsv
      rintro ex wa ⟨r, oa, rfl, sa, rfl, fa⟩
      have sta := Lib.hid ((st9.out.mono (by simp) : Stp [e, c] _ _ _ _).trans (sa.mono (D := [e, c]) (by simp)))
      replace fa := Lib.hid fa
      clear sa
      go_wp2
      go_ret
      exact Post.mk (sta.out.drop hef) ⟨rfl, fa.out⟩
  · have g0 : (E != 0) = true := by simp [hE]
    have hvE : LS = (s, E) := by rw [hv.out, if_pos hE]
    replace hv := Lib.hid hvE
    clear hvE
    go_wp2
    go_ret
    exact fin.out _ _ _ st6.out hv.out
end Go.Proofs.Ytpjnmijfmfgdpaa
