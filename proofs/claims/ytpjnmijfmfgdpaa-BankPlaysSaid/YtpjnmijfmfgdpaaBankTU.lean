/- The document's bank (ref13): Boot and Keep: the walks. Made of BankT and BankU. -/
import Derived.Test.YtpjnmijfmfgdpaaBankS
import Derived.Deep.MidRow
import Derived.Test.YtpjnmijfmfgdpaaXSlotD
namespace Go.Proofs.Ytpjnmijfmfgdpaa
set_option linter.unusedVariables false
set_option linter.unusedSimpArgs false
open Go.RowKit

theorem xpages_calls (w : World) : Calls Try.prog 41 #[] w fun e w' => e = .returned (.int .i64 96) ∧ w' = w := by
  go_enter Try.func41, Try.ntmps41
  go_wp2
  go_ret
  exact ⟨rfl, rfl⟩
/-- The blocks of one colour take another one. -/
def recolC (o : Col) (d e : Nat) : Col := fun k => if o k = d then e else o k
theorem Stp.recol {C : List Nat} {w w1 : World} {o o1 : Col} {d : Nat} (h : Stp C w o w1 o1) (hd : ∀ k, k < w.heap.size → o k ≠ d) (e : Nat) : Stp C w o w1 (recolC o1 d e) :=
  ⟨h.os, h.tape, h.output, h.size, fun k hk => by unfold recolC; rw [h.col k hk, if_neg (hd k hk)], h.keep⟩
theorem Own.recol {w : World} {o : Col} {d t sz n : Nat} {v : Value} {vals : List Value} (h : Own w o d t sz v n vals) (e : Nat) : Own w (recolC o d e) e t sz v n vals :=
  ⟨h.own, h.one, fun k hk => by unfold recolC; rw [h.col k hk, if_pos rfl]⟩
theorem Own.recol_ne {w : World} {o : Col} {c d t sz n : Nat} {v : Value} {vals : List Value} (h : Own w o c t sz v n vals) (hne : c ≠ d) (e : Nat) : Own w (recolC o d e) c t sz v n vals :=
  ⟨h.own, h.one, fun k hk => by unfold recolC; rw [h.col k hk, if_neg hne]⟩
def XbR (w0 : World) (o0 : Col) (d : Nat) (s : FS) (K : Nat) (x y : Value) (wr : World) : Prop :=
  ∃ (i j : Nat) (o' : Col), y = .int .i64 (j : Int) ∧ j = K + i ∧ i ≤ 8 ∧ Stp [d] w0 o0 wr o' ∧ OwnB wr o' d x (pagesB s K i)
set_option maxHeartbeats 3000000 in
set_option maxRecDepth 100000 in
theorem xbboot_calls (c cf e0 e1 p : Nat) (vP : Value) (vs : List Value) (s : FS) (w : World) (o : Col) (h : XFl w o c cf p vP vs s) :
    Calls Try.prog 44 #[.pointer (some ⟨p, 0, none⟩)] w (Post [] w o fun r w' o' => ∃ vm vi, r = .tuple #[.agg (cellsBS (bootB s).1 vm).toArray, vi, .int .i64 (bootB s).2.2] ∧ OwnB w' o' e0 vm (bootB s).1.mind ∧ RdB w' o' e1 vi (bootB s).2.1) := by
  obtain ⟨e, he1, _, hef⟩ := fresh o w.heap.size [c, cf, e0, e1]
  obtain ⟨A0, cap0, rfl⟩ := h.shape
  obtain ⟨d, hd1, _, hdf⟩ := fresh o w.heap.size [c, cf, e0, e1, e]
  obtain ⟨m, hm1, _, hmf⟩ := fresh o w.heap.size [c, cf, e0, e1, e]
  simp only [List.mem_cons, List.not_mem_nil, or_false, not_or] at he1 hm1 hd1
  have hok := h.ok
  have S0 := Xb.new w o e zeroBS (.slice none 0 0) rfl
  have s0 : Stp [] w o (w.alloc (.cells (cellsBS zeroBS (.slice none 0 0)).toArray 72)) (paint o w.heap.size e) := (Stp.refl [] w o).alloc _ e
  have f0 := h.stp s0 (by simp) (by simp)
  obtain ⟨w0, hw0⟩ : ∃ w0, w.alloc (.cells (cellsBS zeroBS (.slice none 0 0)).toArray 72) = w0 := ⟨_, rfl⟩
  obtain ⟨o0, ho0⟩ : ∃ o0, paint o w.heap.size e = o0 := ⟨_, rfl⟩
  obtain ⟨R, hR⟩ : ∃ R, w.heap.size = R := ⟨_, rfl⟩
  rw [hw0, ho0] at S0 s0 f0
  rw [hR] at S0
  have hz0 := S0.blk
  rw [zB] at hz0
  have hzi : (Try.prog.info? 72).map (·.size) = some ((Value.int .i64 0 :: .int .i64 0 :: .int .u8 0 :: .int .u8 0 :: .int .u8 0 :: .int .u8 0 :: .int .u8 0 :: .int .u8 0 :: .int .u8 0 :: .int .u8 0 :: .int .u8 0 :: .int .u8 0 :: .int .u8 0 :: .int .u8 0 :: .int .u8 0 :: .int .u8 0 :: .int .u8 0 :: .int .u8 0 :: .int .u8 0 :: .int .u8 0 :: .int .u8 0 :: .int .u8 0 :: .int .u8 0 :: .int .u8 0 :: .int .u8 0 :: .int .u8 0 :: .int .u8 0 :: .int .u8 0 :: .int .u8 0 :: .int .u8 0 :: .int .u8 0 :: .int .u8 0 :: .int .u8 0 :: .int .u8 0 :: .int .i64 0 :: .string ⟨#[]⟩ :: .slice none 0 0 :: []).toArray).size := by
    rw [← zB]
    simpa using xstateInfo (t := zeroBS) (vm := .slice none 0 0) rfl
  have hz1 : ((Value.int .i64 0 :: .int .i64 0 :: .int .u8 0 :: .int .u8 0 :: .int .u8 0 :: .int .u8 0 :: .int .u8 0 :: .int .u8 0 :: .int .u8 0 :: .int .u8 0 :: .int .u8 0 :: .int .u8 0 :: .int .u8 0 :: .int .u8 0 :: .int .u8 0 :: .int .u8 0 :: .int .u8 0 :: .int .u8 0 :: .int .u8 0 :: .int .u8 0 :: .int .u8 0 :: .int .u8 0 :: .int .u8 0 :: .int .u8 0 :: .int .u8 0 :: .int .u8 0 :: .int .u8 0 :: .int .u8 0 :: .int .u8 0 :: .int .u8 0 :: .int .u8 0 :: .int .u8 0 :: .int .u8 0 :: .int .u8 0 :: .int .i64 0 :: .string ⟨#[]⟩ :: .slice none 0 0 :: []).toArray).all (·.oneCell') = true := by
    rw [← zB]
    exact cells_one _ _ _ _
  have h0 : ∀ q, (w0.drewN q).cell? ⟨p, 0, none⟩ = _ := fun q => f0.c0
  have hpg := fun q => xpages_calls (w0.drewN q)
  have hld := fun w' o' (h' : XFl w' o' c cf p (.slice A0 s.pg.length cap0) vs s) => xload_calls c cf m p _ _ s w' o' h'
  obtain ⟨PL, hPL⟩ : ∃ PL, s.pg.length = PL := ⟨_, rfl⟩
  rw [hPL] at h0
  obtain ⟨BT, hBT⟩ : ∃ BT, bootB s = BT := ⟨_, rfl⟩
  have hbv : BT = if PL < 96 then (zeroBS, [], 1) else if (loadS s).2.2 ≠ 0 then (zeroBS, [], (loadS s).2.2) else if (stateS (loadS s).1).2 = false then (zeroBS, [], 2) else if sha (imageS s (stateS (loadS s).1).1) = (stateS (loadS s).1).1.sum then ((stateS (loadS s).1).1, imageS s (stateS (loadS s).1).1, 0) else (zeroBS, [], 8) := by rw [← hBT, bootB, hPL]
  rw [hBT]
  have hll := loadS_len s
  obtain ⟨LD, hLD⟩ : ∃ LD, loadS s = LD := ⟨_, rfl⟩
  obtain ⟨LB, LN, LE⟩ := LD
  rw [hLD] at hld hbv hll
  dsimp only at hld hbv hll
  have none_ : ∀ w9 o9 (x : Int), Stp [e] w o w9 o9 → BT = (zeroBS, [], x) → Post [] w o (fun r w' o' => ∃ vm vi, r = .tuple #[.agg (cellsBS BT.1 vm).toArray, vi, .int .i64 BT.2.2] ∧ OwnB w' o' e0 vm BT.1.mind ∧ RdB w' o' e1 vi BT.2.1) (.returned (.tuple #[.agg (cellsBS zeroBS (.slice none 0 0)).toArray, .slice none 0 0, .int .i64 x])) w9 := by
    intro w9 o9 x s9 e9
    rw [e9]
    exact Post.mk (s9.drop hef) ⟨_, _, rfl, OwnB.nil _ _ _, RdB.nil _ _ _⟩
  replace none_ := Lib.hid none_
  replace hLD := Lib.hid hLD
  replace hld := Lib.hid hld
  replace hBT := Lib.hid hBT
  replace hPL := Lib.hid hPL
  replace hw0 := Lib.hid hw0
  replace ho0 := Lib.hid ho0
  replace hR := Lib.hid hR
  replace S0 := Lib.hid S0
  replace s0 := Lib.hid s0
  replace f0 := Lib.hid f0
  replace hz0 := Lib.hid hz0
  replace hzi := Lib.hid hzi
  replace hz1 := Lib.hid hz1
  replace h := Lib.hid h
  replace hbv := Lib.hid hbv
  go_enter Try.func44, Try.ntmps44
  go_wp2_with fail
  rw [show w.alloc (.cells (Value.int .i64 0 :: .int .i64 0 :: .int .u8 0 :: .int .u8 0 :: .int .u8 0 :: .int .u8 0 :: .int .u8 0 :: .int .u8 0 :: .int .u8 0 :: .int .u8 0 :: .int .u8 0 :: .int .u8 0 :: .int .u8 0 :: .int .u8 0 :: .int .u8 0 :: .int .u8 0 :: .int .u8 0 :: .int .u8 0 :: .int .u8 0 :: .int .u8 0 :: .int .u8 0 :: .int .u8 0 :: .int .u8 0 :: .int .u8 0 :: .int .u8 0 :: .int .u8 0 :: .int .u8 0 :: .int .u8 0 :: .int .u8 0 :: .int .u8 0 :: .int .u8 0 :: .int .u8 0 :: .int .u8 0 :: .int .u8 0 :: .int .i64 0 :: .string ⟨#[]⟩ :: .slice none 0 0 :: []).toArray 72) = w0 from hw0.out, hR.out]
  go_quiet (first
    | (go_at_call 41
       exact Calls.quiet_of_same (hpg _)))
  obtain ⟨wd, hwd⟩ : ∃ wd, w0.drewN nq = wd := ⟨_, rfl⟩
  have sD : Stp [] w0 o0 wd o0 := by rw [← hwd]; exact (Stp.refl [] w0 o0).drewN nq
  rw [hwd]
  clear hpg h0 hwd
  replace S0 := Lib.hid (S0.out.stp sD (by simp))
  replace f0 := Lib.hid (f0.out.stp sD (by simp) (by simp))
  replace s0 := Lib.hid (s0.out.trans sD)
  replace hz0 := Lib.hid (sD.blk hz0.out (by simp))
  replace sD := Lib.hid sD
  by_cases h1 : PL < 96
  · have g1 : decide ((PL : Int) < 96) = true := decide_eq_true (by omega)
    have hv : BT = (zeroBS, [], 1) := by rw [hbv.out, if_pos h1]
    replace hv := Lib.hid hv
    go_wp2_with (refine list_same rfl 72 _ _ rfl R (Value.int .i64 0 :: .int .i64 0 :: .int .u8 0 :: .int .u8 0 :: .int .u8 0 :: .int .u8 0 :: .int .u8 0 :: .int .u8 0 :: .int .u8 0 :: .int .u8 0 :: .int .u8 0 :: .int .u8 0 :: .int .u8 0 :: .int .u8 0 :: .int .u8 0 :: .int .u8 0 :: .int .u8 0 :: .int .u8 0 :: .int .u8 0 :: .int .u8 0 :: .int .u8 0 :: .int .u8 0 :: .int .u8 0 :: .int .u8 0 :: .int .u8 0 :: .int .u8 0 :: .int .u8 0 :: .int .u8 0 :: .int .u8 0 :: .int .u8 0 :: .int .u8 0 :: .int .u8 0 :: .int .u8 0 :: .int .u8 0 :: .int .i64 0 :: .string ⟨#[]⟩ :: .slice none 0 0 :: []).toArray rfl rfl 72 hz0.out hzi.out hz1.out ?_)
    refine bodyPost_ret (xstateRes3 rfl _ rfl S0.out) rfl ?_
    exact none_.out _ _ _ s0.out.none hv.out
  have g1 : decide ((PL : Int) < 96) = false := decide_eq_false (by omega)
  have h96 : 96 ≤ s.pg.length := by have := hPL.out; omega
  replace hbv := Lib.hid (by rw [hbv.out, if_neg h1] : BT = _)
  go_wp2_with fail
  refine (hld.out _ _ f0.out).mono ?_
  clear hld
  rintro ex w1 ⟨r, o1, rfl, s1, v1, rfl, b1⟩
  have f1 := Lib.hid (f0.out.stp s1 (by simp) (by simp))
  have S1 := S0.out.stp s1 (by simp)
  have st1 := Lib.hid (s0.out.trans s1)
  have hz := S1.blk
  rw [zB] at hz
  replace hz := Lib.hid hz
  replace S1 := Lib.hid S1
  obtain ⟨A1, cap1, rfl⟩ := Own.shape b1
  have b1' : OwnB w1 o1 m (.slice A1 LB.length cap1) LB := b1
  replace b1 := Lib.hid b1
  replace b1' := Lib.hid b1'
  clear s1
  by_cases h2 : LE = 0
  · have g2 : (LE != 0) = false := by simp [h2]
    replace hbv := Lib.hid (by rw [hbv.out, if_neg (by simpa using h2)] : BT = _)
    have hst := xread_calls m e0 _ LB w1 o1 (OwnB.rd b1'.out) (by omega)
    have hsum := stateS_sum LB
    have hmd := stateS_mind LB
    have hsok := fun x => stateS_ok (l := LB) x
    obtain ⟨ST, hST⟩ : ∃ ST, stateS LB = ST := ⟨_, rfl⟩
    rw [hST] at hst hsum hmd hsok
    obtain ⟨ST, OK⟩ := ST
    dsimp only at hst hsum hmd hsok
    replace hbv := Lib.hid (by rw [hbv.out, hST] : BT = _)
    replace h2 := Lib.hid h2
    replace hST := Lib.hid hST
    go_wp2_with fail
    refine hst.mono ?_
    clear hst
    rintro ex w2 ⟨r, o2, rfl, s2, vm, rfl, m2⟩
    obtain ⟨Am, capm, rfl⟩ := Own.shape m2
    have f2 := f1.out.stp s2 (by simp) (by simp)
    have S2 := S1.out.stp s2 (by simp)
    have st2 := st1.out.trans s2
    have m2' : OwnB w2 o2 e0 (.slice Am ST.mind.length capm) ST.mind := m2
    have s3 : Stp [] w2 o2 (w2.alloc (.cells (cellsBS zeroBS (.slice none 0 0)).toArray 72)) (paint o2 w2.heap.size e) := (Stp.refl [] w2 o2).alloc _ e
    have T3 := Xb.new w2 o2 e zeroBS (.slice none 0 0) rfl
    have S3 := S2.stp s3 (by simp)
    have f3 := f2.stp s3 (by simp) (by simp)
    have m3 := OwnB.stp m2' s3 (by simp)
    obtain ⟨w3, hw3⟩ : ∃ w3, w2.alloc (.cells (cellsBS zeroBS (.slice none 0 0)).toArray 72) = w3 := ⟨_, rfl⟩
    obtain ⟨o3, ho3⟩ : ∃ o3, paint o2 w2.heap.size e = o3 := ⟨_, rfl⟩
    obtain ⟨T, hT⟩ : ∃ T, w2.heap.size = T := ⟨_, rfl⟩
    have hTR : R ≠ T := by
      have := (Array.getElem?_eq_some_iff.1 S2.blk).1
      omega
    rw [hw3, ho3] at s3 T3 S3 f3 m3
    rw [hT] at T3
    have hzT := T3.blk
    rw [zB] at hzT
    obtain ⟨CL, hCL⟩ : ∃ CL, cellsBS ST (.slice Am ST.mind.length capm) = CL := ⟨_, rfl⟩
    have hCLi := xstateInfo (vm := .slice Am ST.mind.length capm) hsum
    have hCL1 := cells_one ST Am ST.mind.length capm
    have hCLl := cellsBS_len (vm := .slice Am ST.mind.length capm) hsum
    rw [hCL] at hCLi hCL1 hCLl
    have s4 : Stp [e] w3 o3 (w3.setRow T CL.toArray) o3 := setRow_stp (by rw [T3.col]; simp) _
    have T4 : Xb (w3.setRow T CL.toArray) o3 e T ST (.slice Am ST.mind.length capm) := ⟨by rw [hCL]; exact setRow_heap _ _ _ _ _ _ T3.blk, T3.col, hsum⟩
    have S4 : Xb (w3.setRow T CL.toArray) o3 e R zeroBS (.slice none 0 0) := ⟨(setRow_other w3 T R _ hTR).trans S3.blk, S3.col, rfl⟩
    have f4 := f3.stp s4 (by simpa using fun x => he1.1 x.symm) (by simpa using fun x => he1.2.1 x.symm)
    have m4 := OwnB.stp m3 s4 (by simpa using fun x => he1.2.2.1 x.symm)
    have st4 : Stp [e] w o _ _ := ((st2.trans s3).none : Stp [e] _ _ _ _).trans s4
    obtain ⟨w4, hw4⟩ : ∃ w4, w3.setRow T CL.toArray = w4 := ⟨_, rfl⟩
    rw [hw4] at s4 T4 S4 f4 m4 st4
    have hz := S4.blk
    rw [zB] at hz
    have d0 := T4.c0
    have d1 := T4.c1
    replace hz := Lib.hid hz
    replace hzT := Lib.hid hzT
    replace T3 := Lib.hid T3
    replace T4 := Lib.hid T4
    replace S2 := Lib.hid S2
    replace S3 := Lib.hid S3
    replace S4 := Lib.hid S4
    replace f2 := Lib.hid f2
    replace f3 := Lib.hid f3
    replace f4 := Lib.hid f4
    replace m2 := Lib.hid m2
    replace m2' := Lib.hid m2'
    replace m3 := Lib.hid m3
    replace m4 := Lib.hid m4
    replace s2 := Lib.hid s2
    replace s3 := Lib.hid s3
    replace s4 := Lib.hid s4
    replace st2 := Lib.hid st2
    replace st4 := Lib.hid st4
    replace hw3 := Lib.hid hw3
    replace ho3 := Lib.hid ho3
    replace hw4 := Lib.hid hw4
    replace hT := Lib.hid hT
    replace hCL := Lib.hid hCL
    replace hCLi := Lib.hid hCLi
    replace hCL1 := Lib.hid hCL1
    replace hCLl := Lib.hid hCLl
    replace hTR := Lib.hid hTR
    replace hmd := Lib.hid hmd
    have Hsum := Lib.hid hsum
    clear hsum
    go_wp2_with (refine holdSt 72 ?_)
    apply Hold.mk
    rw [show w2.alloc (.cells (Value.int .i64 0 :: .int .i64 0 :: .int .u8 0 :: .int .u8 0 :: .int .u8 0 :: .int .u8 0 :: .int .u8 0 :: .int .u8 0 :: .int .u8 0 :: .int .u8 0 :: .int .u8 0 :: .int .u8 0 :: .int .u8 0 :: .int .u8 0 :: .int .u8 0 :: .int .u8 0 :: .int .u8 0 :: .int .u8 0 :: .int .u8 0 :: .int .u8 0 :: .int .u8 0 :: .int .u8 0 :: .int .u8 0 :: .int .u8 0 :: .int .u8 0 :: .int .u8 0 :: .int .u8 0 :: .int .u8 0 :: .int .u8 0 :: .int .u8 0 :: .int .u8 0 :: .int .u8 0 :: .int .u8 0 :: .int .u8 0 :: .int .i64 0 :: .string ⟨#[]⟩ :: .slice none 0 0 :: []).toArray 72) = w3 from hw3.out, hT.out, hCL.out]
    refine wpList_store_row rfl 72 _ _ rfl T CL.toArray rfl rfl 72 _ hzT.out (by rw [hCLi.out]; simp) (by simp [hCLl.out]) hCL1.out ?_
    rw [hw4.out]
    cases OK with
    | false =>
      have hv : BT = (zeroBS, [], 2) := by rw [hbv.out, if_pos rfl]
      replace hv := Lib.hid hv
      go_wp2_with (refine list_same rfl 72 _ _ rfl R (Value.int .i64 0 :: .int .i64 0 :: .int .u8 0 :: .int .u8 0 :: .int .u8 0 :: .int .u8 0 :: .int .u8 0 :: .int .u8 0 :: .int .u8 0 :: .int .u8 0 :: .int .u8 0 :: .int .u8 0 :: .int .u8 0 :: .int .u8 0 :: .int .u8 0 :: .int .u8 0 :: .int .u8 0 :: .int .u8 0 :: .int .u8 0 :: .int .u8 0 :: .int .u8 0 :: .int .u8 0 :: .int .u8 0 :: .int .u8 0 :: .int .u8 0 :: .int .u8 0 :: .int .u8 0 :: .int .u8 0 :: .int .u8 0 :: .int .u8 0 :: .int .u8 0 :: .int .u8 0 :: .int .u8 0 :: .int .u8 0 :: .int .i64 0 :: .string ⟨#[]⟩ :: .slice none 0 0 :: []).toArray rfl rfl 72 hz.out hzi.out hz1.out ?_)
      refine bodyPost_ret (xstateRes3 rfl _ rfl S4.out) rfl ?_
      exact none_.out _ _ _ st4.out hv.out
    | true =>
      obtain ⟨a, b, ea, eb, ha, hb⟩ := hsok rfl
      replace hbv := Lib.hid (by rw [hbv.out, if_neg (by simp)] : BT = _)
      obtain ⟨TB, TS, TX, TC, TN, TM⟩ := ST
      dsimp only at ea eb
      subst ea
      subst eb
      obtain ⟨K, hK⟩ : ∃ K, 80 + a * 8 = K := ⟨_, rfl⟩
      have hKI : (K : Int) = 80 + (a : Int) * 8 := by omega
      have him : imageS s ⟨(a : Int), (b : Int), TX, TC, TN, TM⟩ = (pagesB s K 8).take b := by
        show (pagesB s (80 + (a : Int).toNat * 8) 8).take (b : Int).toNat = _
        rw [Int.toNat_natCast, Int.toNat_natCast, hK]
      have himl : ((pagesB s K 8).take b).length ≤ 512 := by rw [List.length_take]; omega
      obtain ⟨IM, hIM⟩ : ∃ IM, (pagesB s K 8).take b = IM := ⟨_, rfl⟩
      rw [hIM] at him himl
      replace hbv := Lib.hid (by rw [hbv.out, him] : BT = _)
      have hu57 := Try.underlying57
      have hi57 : (Try.prog.info? 57).map (·.size) = some (vbs TX).length := by
        rw [vbs_length, show TX.length = 32 from Hsum.out]
        kernel_rfl
      have hcases : (sha IM == TX) = true ∨ (sha IM == TX) = false := by cases (sha IM == TX) <;> simp
      have hshl : (sha IM).length = 32 := sha_len IM
      have hKb : K ≤ 88 := by omega
      have hKI2 := Lib.hid hKI
      have hpl := pagesB_len hok K 8 (by omega)
      have hPLo := hPL.out
      have hPB : (0 : Int) ≤ (K : Int) ∧ (K : Int) ≤ 88 := by omega
      clear hK
      replace him := Lib.hid him
      replace hIM := Lib.hid hIM
      have heq : ∀ w', (Op.equalIn 10000 57 (.agg (vbs (sha IM)).toArray) (.agg (vbs TX).toArray)).run Try.prog w' = .ok (sha IM == TX) w' := fun w' => run_equalIn_bytes (P := Try.prog) w' 9998 57 5 32 Try.underlying57 Try.underlying5 sizeU8 (sha IM) TX hshl Hsum.out
      replace hshl := Lib.hid hshl
      have hdne : ¬ e = d := fun x => hd1.2.2.2.2 x.symm
      go_wp2_with fail
      go_loopw [10, 12] (XbR w4 o3 d s K) (fun _ y _ => K + 8 - (intOf y).toNat)
      case atStart => exact ⟨0, K, o3, by rw [hKI2.out], rfl, by omega, Stp.refl _ _ _, OwnB.nil _ _ _⟩
      case round =>
        obtain ⟨i, j, o5, rfl, hj, hi, st, hm⟩ := hrel
        have hlei := pagesB_le s hok K i
        obtain ⟨A, capA, rfl⟩ := Own.shape hm
        have hxf := f4.out.stp st (by simpa using fun x => hd1.1 x.symm) (by simpa using fun x => hd1.2.1 x.symm)
        have T5 := T4.out.stp st (by simpa using hdne)
        have S5 := S4.out.stp st (by simpa using hdne)
        have m5 := OwnB.stp m4.out st (by simpa using fun x => hd1.2.2.1 x.symm)
        have st5 : Stp [d, e] w o wr o5 := (st4.out.mono (by simp)).trans (st.mono (by simp))
        by_cases hlt : i < 8
        · have g1 : decide ((j : Int) < (80 : Int) + (a : Int) * 8 + 8) = true := decide_eq_true (by omega)
          obtain ⟨ad, v, q, rfl, hca, hv, hq, hcell, hown, hql⟩ := hxf.slot (i := j) (by omega)
          have h0 := hxf.c0
          have hjb : j < 96 := by omega
          have g2 : (0 : Int) ≤ (j : Int) ∧ (j : Int) < (s.pg.length : Int) := by omega
          have hnx : pagesB s K (i + 1) = pagesB s K i ++ q := by rw [pagesB, ← hj, readB_get hq]
          rw [hPLo] at h0 g2
          have hm2 := Lib.hid hm
          have hown2 := Lib.hid hown
          obtain ⟨N, hN⟩ : ∃ N, (pagesB s K i).length = N := ⟨_, rfl⟩
          have Hql := Lib.hid hql
          clear hql T5 S5 m5 st5
          replace hxf := Lib.hid hxf
          replace hnx := Lib.hid hnx
          replace hj := Lib.hid hj
          replace hq := Lib.hid hq
          replace hv := Lib.hid hv
          replace hca := Lib.hid hca
          replace st := Lib.hid st
          have Hcell := Lib.hid hcell
          clear hm hown
          rw [hN]
          have HN := Lib.hid hN
          clear hN hPLo hKI
          go_wp2_with (refine holdAt 58 ?_)
          apply Hold.mk
          rw [← HN.out]
          refine appB _ _ rfl rfl hm2.out (OwnB.rd hown2.out) rfl rfl (by rw [Hql.out]; omega) fun A3 cap3 w5 o6 s5 h5 _ _ => ?_
          rw [← hnx.out] at h5
          have hl : (pagesB s K i).length + q.length = (pagesB s K (i + 1)).length := by rw [hnx.out, List.length_append]
          rw [hl] at h5 ⊢
          have s6 := Lib.hid (st.out.trans s5)
          replace h5 := Lib.hid h5
          replace hl := Lib.hid hl
          obtain ⟨N2, hN2⟩ : ∃ N2, (pagesB s K (i + 1)).length = N2 := ⟨_, rfl⟩
          rw [hN2] at h5 ⊢
          replace hN2 := Lib.hid hN2
          clear s5 hcell h0
          go_wp2
          go_roundw
          case rel => exact ⟨i + 1, j + 1, o6, by go_num, by rw [hj.out]; omega, by omega, s6.out, by have := h5.out; rwa [← hN2.out] at this⟩
          case measure => have := hj.out; simp [intOf]; omega
        have hi8 : i = 8 := by omega
        subst hi8
        have g1 : decide ((j : Int) < (80 : Int) + (a : Int) * 8 + 8) = false := decide_eq_false (by omega)
        obtain ⟨PB, hPB2⟩ : ∃ PB, pagesB s K 8 = PB := ⟨_, rfl⟩
        rw [hPB2] at hm hlei hpl ⊢
        have hIM2 : PB.take b = IM := by rw [← hPB2]; exact hIM.out
        have hb2 : b ≤ PB.length := by omega
        have rP : OwnB wr o5 d (.slice A PB.length capA) PB := hm
        replace hIM2 := Lib.hid hIM2
        replace hPB2 := Lib.hid hPB2
        replace hxf := Lib.hid hxf
        replace hm := Lib.hid hm
        replace st := Lib.hid st
        replace hj := Lib.hid hj
        replace rP := Lib.hid rP
        have D1 := Lib.hid T5.c1
        replace T5 := Lib.hid T5
        replace S5 := Lib.hid S5
        replace m5 := Lib.hid m5
        replace st5 := Lib.hid st5
        have Hpl := Lib.hid hpl
        have Hb2 := Lib.hid hb2
        clear hpl hPLo hlei hb2 hKI
        have d1' := D1.out
        clear d0 d1
        go_wp2_with (refine holdAt 62 ?_)
        apply Hold.mk
        refine cutB _ _ rfl rfl rP.out b rfl rfl Hb2.out fun r5 => ?_
        rw [hIM2.out] at r5
        have hbl : b = IM.length := by rw [← hIM2.out, List.length_take]; have := Hb2.out; omega
        obtain ⟨T5, S5, m5, st5⟩ := And.intro T5.out (And.intro S5.out (And.intro m5.out st5.out))
        have r5 : OwnB wr o5 d (.slice A b capA) IM := r5
        replace hbl := Lib.hid hbl
        clear d1' D1
        have T5d := T5.stp (Stp.refl [] wr o5).drew (by simp)
        have S5d := S5.stp (Stp.refl [] wr o5).drew (by simp)
        have m5d := OwnB.stp m5 (Stp.refl [] wr o5).drew (by simp)
        have r5d := OwnB.stp r5 (Stp.refl [] wr o5).drew (by simp)
        have st5d : Stp [d, e] w o wr.drew o5 := st5.drew
        have hsm := xsum_calls d _ IM wr.drew o5 (OwnB.rd r5d) (by omega)
        have rg5 := Lib.hid T5d.range
        replace T5 := Lib.hid T5
        replace S5 := Lib.hid S5
        replace m5 := Lib.hid m5
        replace r5 := Lib.hid r5
        replace st5 := Lib.hid st5
        replace T5d := Lib.hid T5d
        replace S5d := Lib.hid S5d
        replace m5d := Lib.hid m5d
        replace r5d := Lib.hid r5d
        replace st5d := Lib.hid st5d
        replace hsm := Lib.hid hsm
        rcases hcases with hq | hq
        all_goals
          go_wp2_with fail
          go_region_held_law (fun w' => w'.rangeAt T 2 (vbs TX)) (first | with_reducible exact rg5.out | with_reducible exact rg6.out) (first
            | (go_at_call 38
               refine hsm.out.mono ?_
               rintro ex w6 ⟨r, o6, rfl, s6, rfl⟩
               have T6 := T5d.out.stp s6 (by simp)
               have S6 := S5d.out.stp s6 (by simp)
               have m6 := OwnB.stp m5d.out s6 (by simp)
               have r6 := OwnB.stp r5d.out s6 (by simp)
               have st6 := st5d.out.trans s6.none
               have rg6 := Lib.hid T6.range
               replace T6 := Lib.hid T6
               replace S6 := Lib.hid S6
               replace m6 := Lib.hid m6
               replace r6 := Lib.hid r6
               replace st6 := Lib.hid st6
               replace s6 := Lib.hid s6))
        · have hv : BT = (⟨(a : Int), (b : Int), TX, TC, TN, TM⟩, IM, 0) := by rw [hbv.out, if_pos (by simpa using hq)]
          replace hv := Lib.hid hv
          have hall := Lib.hid (show ∀ (j : Nat) (u : Value), CL[j]? = some u → w6.cell? ((⟨T, 0, none⟩ : Addr).add j) = some u by rw [← hCL.out]; exact T6.out.all)
          have s7 : Stp [e] w6 o6 (w6.setRow R CL.toArray) o6 := setRow_stp (by rw [S6.out.col]; simp) _
          have S7 : Xb (w6.setRow R CL.toArray) o6 e R ⟨(a : Int), (b : Int), TX, TC, TN, TM⟩ (.slice Am TM.length capm) := ⟨by rw [← hCL.out]; exact setRow_heap _ _ _ _ _ _ S6.out.blk, S6.out.col, Hsum.out⟩
          have m7 := OwnB.stp m6.out s7 (by simpa using fun x => he1.2.2.1 x.symm)
          have r7 := OwnB.stp r6.out s7 (by simpa using fun x => hd1.2.2.2.2 x)
          have st7 := (((st6.out.trans (s7.mono (by simp))).drop hdf).drop hef)
          have hb6 := S6.out.blk
          obtain ⟨wz, hwz⟩ : ∃ wz, w6.setRow R CL.toArray = wz := ⟨_, rfl⟩
          rw [hwz] at S7 m7 r7 st7
          replace S7 := Lib.hid S7
          replace m7 := Lib.hid m7
          replace r7 := Lib.hid r7
          replace st7 := Lib.hid st7
          replace hb6 := Lib.hid hb6
          replace hwz := Lib.hid hwz
          clear heq s7
          go_wp2_with (first | (refine list_load rfl 72 _ rfl ⟨T, 0, none⟩ rfl CL _ hall.out Try.underlying72 rfl hCLi.out ?_) | (refine holdSt 72 ?_))
          apply Hold.mk
          refine wpList_store_row rfl 72 _ _ rfl R CL.toArray rfl rfl 72 _ hb6.out (by rw [hCLi.out]; simp) (by simp [hCLl.out, cellsBS_len (t := zeroBS) (vm := .slice none 0 0) rfl]) hCL1.out ?_
          rw [hwz.out]
          go_wp2
          refine bodyPost_ret (xstateRes3 rfl _ rfl S7.out) rfl ?_
          rw [hv.out]
          exact Post.mk (st7.out.recol hdf e1) ⟨_, _, rfl, Own.recol_ne m7.out (fun x => hd1.2.2.1 x.symm) e1, OwnB.rd (Own.recol r7.out e1)⟩
        · have hv : BT = (zeroBS, [], 8) := by rw [hbv.out, if_neg (by simpa using hq)]
          replace hv := Lib.hid hv
          have hz6 := S6.out.blk
          rw [zB] at hz6
          replace hz6 := Lib.hid hz6
          clear heq
          go_wp2_with (refine list_same rfl 72 _ _ rfl R (Value.int .i64 0 :: .int .i64 0 :: .int .u8 0 :: .int .u8 0 :: .int .u8 0 :: .int .u8 0 :: .int .u8 0 :: .int .u8 0 :: .int .u8 0 :: .int .u8 0 :: .int .u8 0 :: .int .u8 0 :: .int .u8 0 :: .int .u8 0 :: .int .u8 0 :: .int .u8 0 :: .int .u8 0 :: .int .u8 0 :: .int .u8 0 :: .int .u8 0 :: .int .u8 0 :: .int .u8 0 :: .int .u8 0 :: .int .u8 0 :: .int .u8 0 :: .int .u8 0 :: .int .u8 0 :: .int .u8 0 :: .int .u8 0 :: .int .u8 0 :: .int .u8 0 :: .int .u8 0 :: .int .u8 0 :: .int .u8 0 :: .int .i64 0 :: .string ⟨#[]⟩ :: .slice none 0 0 :: []).toArray rfl rfl 72 hz6.out hzi.out hz1.out ?_)
          refine bodyPost_ret (xstateRes3 rfl _ rfl S6.out) rfl ?_
          exact none_.out _ _ _ (st6.out.drop hdf) hv.out
  · have g2 : (LE != 0) = true := by simp [h2]
    have hv : BT = (zeroBS, [], LE) := by rw [hbv.out, if_pos h2]
    replace hv := Lib.hid hv
    go_wp2_with (refine list_same rfl 72 _ _ rfl R (Value.int .i64 0 :: .int .i64 0 :: .int .u8 0 :: .int .u8 0 :: .int .u8 0 :: .int .u8 0 :: .int .u8 0 :: .int .u8 0 :: .int .u8 0 :: .int .u8 0 :: .int .u8 0 :: .int .u8 0 :: .int .u8 0 :: .int .u8 0 :: .int .u8 0 :: .int .u8 0 :: .int .u8 0 :: .int .u8 0 :: .int .u8 0 :: .int .u8 0 :: .int .u8 0 :: .int .u8 0 :: .int .u8 0 :: .int .u8 0 :: .int .u8 0 :: .int .u8 0 :: .int .u8 0 :: .int .u8 0 :: .int .u8 0 :: .int .u8 0 :: .int .u8 0 :: .int .u8 0 :: .int .u8 0 :: .int .u8 0 :: .int .i64 0 :: .string ⟨#[]⟩ :: .slice none 0 0 :: []).toArray rfl rfl 72 hz.out hzi.out hz1.out ?_)
    refine bodyPost_ret (xstateRes3 rfl _ rfl S1.out) rfl ?_
    exact none_.out _ _ _ st1.out.none hv.out

theorem xboot_name (s : FS) : (bootB s).1.name.length ≤ 2500 := by
  have h : (stateS (loadS s).1).1.name.length ≤ (loadS s).1.length := by
    obtain ⟨l, hl⟩ : ∃ l, (loadS s).1 = l := ⟨_, rfl⟩
    rw [hl]
    have q1 := nNum_le l false
    have q2 := nNum_le (nNum l false).2.1 (nNum l false).2.2
    have q3 := nRaw_le 32 (nNum (nNum l false).2.1 (nNum l false).2.2).2.1 (nNum (nNum l false).2.1 (nNum l false).2.2).2.2
    obtain ⟨c, hc⟩ : ∃ c, nRaw 32 (nNum (nNum l false).2.1 (nNum l false).2.2).2.1 (nNum (nNum l false).2.1 (nNum l false).2.2).2.2 = c := ⟨_, rfl⟩
    have q4 := nNum_le c.2.1 c.2.2
    have q5 := nBytes_le (nNum c.2.1 c.2.2).2.1 (nNum c.2.1 c.2.2).2.2
    have e : (stateS l).1.name = (nBytes (nNum c.2.1 c.2.2).2.1 (nNum c.2.1 c.2.2).2.2).1 := by rw [← hc]; rfl
    rw [e]
    rw [hc] at q3
    omega
  have h2 := loadS_len s
  unfold bootB
  split
  · exact Nat.zero_le _
  · split
    · exact Nat.zero_le _
    · split
      · exact Nat.zero_le _
      · split
        · exact Nat.le_trans h h2
        · exact Nat.zero_le _
set_option maxHeartbeats 3000000 in
set_option maxRecDepth 100000 in
theorem xkeep_calls (c cf c3 p : Nat) (vP : Value) (vs : List Value) (s : FS) (mind : List UInt8) (vi : Value) (w : World) (o : Col) (h : XFl w o c cf p vP vs s) (hi : RdB w o c3 vi mind) (h3 : c3 ≠ c) (h3f : c3 ≠ cf) (hcf : c ≠ cf) :
    Calls Try.prog 43 #[.pointer (some ⟨p, 0, none⟩), vi] w (Post [c, cf] w o fun r w' o' => r = .int .i64 (keepS s mind).2 ∧ XFl w' o' c cf p vP vs (keepS s mind).1) := by
  obtain ⟨Ai, capI, rfl, _, _⟩ := hi.shape
  obtain ⟨e, he1, _, hef⟩ := fresh o w.heap.size [c, c3, cf]
  obtain ⟨d, hd1, _, hdf⟩ := fresh o w.heap.size [c, c3, cf, e]
  simp only [List.mem_cons, List.not_mem_nil, or_false, not_or] at he1 hd1
  have hbo := xbboot_calls c cf d d p vP vs s w o h
  obtain ⟨BT, hBT⟩ : ∃ BT, bootB s = BT := ⟨_, rfl⟩
  have hbs := boot_sum s
  have hbm := boot_mind s
  have hbn := xboot_name s
  obtain ⟨LS, hLS⟩ : ∃ LS, keepS s mind = LS := ⟨_, rfl⟩
  have hv : LS = if BT.2.2 ≠ 0 then (s, BT.2.2) else if 2000 < mind.length then (s, 10) else saveS s (recB { BT.1 with mind := mind }) := by rw [← hLS, keepS, hBT]
  rw [hLS]
  rw [hBT] at hbs hbm hbn hbo
  obtain ⟨BS0, IM, E⟩ := BT
  dsimp only at hbs hbm hbn hbo hv
  have fin : ∀ w' o' (x : Int), Stp [e] w o w' o' → LS = (s, x) → Post [c, cf] w o (fun r w' o' => r = .int .i64 LS.2 ∧ XFl w' o' c cf p vP vs LS.1) (.returned (.int .i64 x)) w' := by
    intro w' o' x st ev
    rw [ev]
    have st' := st.drop hef
    exact Post.mk st'.none ⟨rfl, h.stp st' (by simp) (by simp)⟩
  replace fin := Lib.hid fin
  replace hLS := Lib.hid hLS
  replace hBT := Lib.hid hBT
  replace hv := Lib.hid hv
  replace hbs := Lib.hid hbs
  replace hbm := Lib.hid hbm
  replace hbn := Lib.hid hbn
  replace h := Lib.hid h
  replace hi := Lib.hid hi
  go_enter Try.func43, Try.ntmps43
  go_wp2_with fail
  refine hbo.mono ?_
  clear hbo
  rintro ex w4 ⟨r, o4, rfl, s4, vb, vi4, rfl, b4, r4⟩
  obtain ⟨Ab, capb, rfl⟩ := Own.shape b4
  have f4 := h.out.stp s4 (by simp) (by simp)
  have i4 := hi.out.stp s4 (by simp)
  have s5 : Stp [] w4 o4 (w4.alloc (.cells (cellsBS zeroBS (.slice none 0 0)).toArray 72)) (paint o4 w4.heap.size e) := (Stp.refl [] w4 o4).alloc _ e
  have T5 := Xb.new w4 o4 e zeroBS (.slice none 0 0) rfl
  have f5 := f4.stp s5 (by simp) (by simp)
  have i5 := i4.stp s5 (by simp)
  obtain ⟨w5, hw5⟩ : ∃ w5, w4.alloc (.cells (cellsBS zeroBS (.slice none 0 0)).toArray 72) = w5 := ⟨_, rfl⟩
  obtain ⟨o5, ho5⟩ : ∃ o5, paint o4 w4.heap.size e = o5 := ⟨_, rfl⟩
  obtain ⟨T, hT⟩ : ∃ T, w4.heap.size = T := ⟨_, rfl⟩
  rw [hw5, ho5] at s5 T5 f5 i5
  rw [hT] at T5
  have hbi := xstateInfo (vm := .slice Ab BS0.mind.length capb) hbs.out
  have hb1 := cells_one BS0 Ab BS0.mind.length capb
  have hbl := cellsBS_len (vm := .slice Ab BS0.mind.length capb) hbs.out
  obtain ⟨CB, hCB⟩ : ∃ CB, cellsBS BS0 (.slice Ab BS0.mind.length capb) = CB := ⟨_, rfl⟩
  rw [hCB] at hbi hb1 hbl
  have s6 : Stp [e] w5 o5 (w5.setRow T CB.toArray) o5 := setRow_stp (by rw [T5.col]; simp) _
  have T6 : Xb (w5.setRow T CB.toArray) o5 e T BS0 (.slice Ab BS0.mind.length capb) := ⟨by rw [hCB]; exact setRow_heap _ _ _ _ _ _ T5.blk, T5.col, hbs.out⟩
  have f6 := f5.stp s6 (by simpa using fun x => he1.1 x.symm) (by simpa using fun x => he1.2.2 x.symm)
  have i6 := i5.stp s6 (by simpa using fun x => he1.2.1 x.symm)
  have st6 : Stp [e] w o _ _ := ((s4.trans s5).none : Stp [e] _ _ _ _).trans s6
  have hT5 := T5.blk
  obtain ⟨w6, hw6⟩ : ∃ w6, w5.setRow T CB.toArray = w6 := ⟨_, rfl⟩
  rw [hw6] at T6 f6 i6 st6
  replace hT5 := Lib.hid hT5
  replace T5 := Lib.hid T5
  replace T6 := Lib.hid T6
  replace f4 := Lib.hid f4
  replace f5 := Lib.hid f5
  replace f6 := Lib.hid f6
  replace i4 := Lib.hid i4
  replace i5 := Lib.hid i5
  replace i6 := Lib.hid i6
  replace b4 := Lib.hid b4
  replace r4 := Lib.hid r4
  replace st6 := Lib.hid st6
  replace hw5 := Lib.hid hw5
  replace ho5 := Lib.hid ho5
  replace hT := Lib.hid hT
  replace hbi := Lib.hid hbi
  replace hb1 := Lib.hid hb1
  replace hbl := Lib.hid hbl
  replace hCB := Lib.hid hCB
  replace hw6 := Lib.hid hw6
  clear s4 s5 s6
  go_wp2_with (refine holdSt 72 ?_)
  apply Hold.mk
  rw [show w4.alloc (.cells (Value.int .i64 0 :: .int .i64 0 :: .int .u8 0 :: .int .u8 0 :: .int .u8 0 :: .int .u8 0 :: .int .u8 0 :: .int .u8 0 :: .int .u8 0 :: .int .u8 0 :: .int .u8 0 :: .int .u8 0 :: .int .u8 0 :: .int .u8 0 :: .int .u8 0 :: .int .u8 0 :: .int .u8 0 :: .int .u8 0 :: .int .u8 0 :: .int .u8 0 :: .int .u8 0 :: .int .u8 0 :: .int .u8 0 :: .int .u8 0 :: .int .u8 0 :: .int .u8 0 :: .int .u8 0 :: .int .u8 0 :: .int .u8 0 :: .int .u8 0 :: .int .u8 0 :: .int .u8 0 :: .int .u8 0 :: .int .u8 0 :: .int .i64 0 :: .string ⟨#[]⟩ :: .slice none 0 0 :: []).toArray 72) = w5 from hw5.out, hT.out, hCB.out]
  refine wpList_store_row rfl 72 _ _ rfl T CB.toArray rfl rfl 72 _ hT5.out (by rw [hbi.out]; simp) (by simp [hbl.out, cellsBS_len (t := zeroBS) (vm := .slice none 0 0) rfl]) hb1.out ?_
  rw [hw6.out]
  by_cases hE : E = 0
  · subst hE
    replace hv := Lib.hid (by rw [hv.out, if_neg (by simp)] : LS = _)
    by_cases hbig : 2000 < mind.length
    · have g1 : decide ((2000 : Int) < (mind.length : Int)) = true := decide_eq_true (by omega)
      replace hv := Lib.hid (by rw [hv.out, if_pos hbig] : LS = _)
      go_wp2
      go_ret
      exact fin.out _ _ _ st6.out hv.out
    · have g1 : decide ((2000 : Int) < (mind.length : Int)) = false := decide_eq_false (by omega)
      replace hv := Lib.hid (by rw [hv.out, if_neg hbig] : LS = _)
      have h8 := blk_set (j := 36) T6.out.blk (.slice Ai mind.length capI)
      rw [cells_set36 _ _ _ mind T6.out.sum] at h8
      have d36 := T6.out.c36
      have f36 := T6.out.free 36
      have s8 : Stp [e] w6 o5 (w6.setCell ⟨T, 36, none⟩ (.slice Ai mind.length capI)) o5 := (Stp.refl [e] w6 o5).setCell (fun _ => by show o5 T ∈ _; rw [T6.out.col]; simp) _
      obtain ⟨NB, hNB⟩ : ∃ NB, ({ BS0 with mind := mind } : BS) = NB := ⟨_, rfl⟩
      rw [hNB] at h8
      have T8 : Xb (w6.setCell ⟨T, 36, none⟩ (.slice Ai mind.length capI)) o5 e T NB (.slice Ai mind.length capI) := ⟨h8, T6.out.col, by rw [← hNB]; exact hbs.out⟩
      have hFm : NB.mind = mind := by rw [← hNB]
      have hFn : NB.name.length ≤ 2500 := by rw [← hNB]; exact hbn.out
      have f8 := f6.out.stp s8 (by simpa using fun x => he1.1 x.symm) (by simpa using fun x => he1.2.2 x.symm)
      have i8 := i6.out.stp s8 (by simpa using fun x => he1.2.1 x.symm)
      have st8 := st6.out.trans s8
      have hall := T8.all
      have hCNi := xstateInfo (vm := .slice Ai mind.length capI) T8.sum
      have hrc := xrecord_calls c3 d NB (.slice Ai mind.length capI) _ _ (by rw [hFm]; exact i8) T8.sum (by omega) (by rw [hFm]; omega)
      obtain ⟨CN, hCN⟩ : ∃ CN, cellsBS NB (.slice Ai mind.length capI) = CN := ⟨_, rfl⟩
      obtain ⟨RC, hRC⟩ : ∃ RC, recB NB = RC := ⟨_, rfl⟩
      rw [hCN] at hall hCNi hrc
      rw [hRC] at hrc
      replace hv := Lib.hid (by rw [hv.out, hNB, hRC] : LS = _)
      replace hall := Lib.hid hall
      replace hCNi := Lib.hid hCNi
      replace hCN := Lib.hid hCN
      replace hRC := Lib.hid hRC
      replace hNB := Lib.hid hNB
      replace hFm := Lib.hid hFm
      replace h8 := Lib.hid h8
      replace T8 := Lib.hid T8
      replace f8 := Lib.hid f8
      replace i8 := Lib.hid i8
      replace st8 := Lib.hid st8
      clear s8
      go_wp2_with (refine list_load rfl 72 _ rfl ⟨T, 0, none⟩ rfl CN _ hall.out Try.underlying72 rfl hCNi.out ?_)
      refine hrc.mono ?_
      clear hrc d36 f36
      rintro ex w9 ⟨r, o9, rfl, s9, q9⟩
      obtain ⟨A9, cap9, rfl⟩ := Own.shape q9
      have f9 := f8.out.stp s9 (by simp) (by simp)
      have st9 := st8.out.trans s9.none
      have hsv := xsave_calls c cf d p vP vs s _ RC w9 o9 f9 (OwnB.rd q9) hd1.1 hd1.2.2.1 hcf
      rw [← hv.out] at hsv
      replace q9 := Lib.hid q9
      replace f9 := Lib.hid f9
      replace st9 := Lib.hid st9
      clear s9
      go_wp2_with fail
      refine hsv.mono ?_
      clear hsv
      rintro ex wa ⟨r, oa, rfl, sa, rfl, fa⟩
      have sta := Lib.hid ((st9.out.mono (by simp) : Stp [e, c, cf] _ _ _ _).trans (sa.mono (D := [e, c, cf]) (by simp)))
      replace fa := Lib.hid fa
      clear sa
      go_wp2
      go_ret
      exact Post.mk (sta.out.drop hef) ⟨rfl, fa.out⟩
  · have g0 : (E != 0) = true := by simp [hE]
    have hvE : LS = (s, E) := by rw [hv.out, if_pos hE]
    replace hv := Lib.hid hvE
    clear hvE
    go_wp2
    go_ret
    exact fin.out _ _ _ st6.out hv.out
end Go.Proofs.Ytpjnmijfmfgdpaa
