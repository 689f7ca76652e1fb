/- Banks (chapter 13): Boot: the walk. -/
import Derived.Test.YtpjnmijfmfgdpaaBankE
import Derived.Stop.BytesEq
import Derived.Deep.MidRow
namespace Go.Proofs.Ytpjnmijfmfgdpaa
set_option linter.unusedVariables false
set_option linter.unusedSimpArgs false
open Go.RowKit

theorem sum32_len {n : Int} {l : List UInt8} {bad : Bool} (hn : n = 32) : (sum32 (nRaw n l bad).1).length = 32 := by
  subst hn
  unfold nRaw
  split
  · rfl
  · rename_i h
    simp [sum32]
    omega
theorem stateS_sum (l : List UInt8) : (stateS l).1.sum.length = 32 := sum32_len rfl
theorem stateS_ok {l : List UInt8} (h : (stateS l).2 = true) : ∃ a b : Nat, (stateS l).1.bank = a ∧ (stateS l).1.size = b ∧ a ≤ 1 ∧ b ≤ 512 := by
  unfold stateS at h ⊢
  simp only [Bool.and_eq_true, decide_eq_true_eq] at h
  exact ⟨_, _, rfl, rfl, by omega, by omega⟩
theorem stateS_mind (l : List UInt8) : (stateS l).1.mind.length ≤ l.length := by
  have q1 := nNum_le l false
  have q2 := nNum_le (nNum l false).2.1 (nNum l false).2.2
  have q3 := nRaw_le 32 (nNum (nNum l false).2.1 (nNum l false).2.2).2.1 (nNum (nNum l false).2.1 (nNum l false).2.2).2.2
  obtain ⟨c, hc⟩ : ∃ c, nRaw 32 (nNum (nNum l false).2.1 (nNum l false).2.2).2.1 (nNum (nNum l false).2.1 (nNum l false).2.2).2.2 = c := ⟨_, rfl⟩
  have q4 := nNum_le c.2.1 c.2.2
  have q5 := nBytes_le (nNum c.2.1 c.2.2).2.1 (nNum c.2.1 c.2.2).2.2
  have q6 := nBytes_le (nBytes (nNum c.2.1 c.2.2).2.1 (nNum c.2.1 c.2.2).2.2).2.1 (nBytes (nNum c.2.1 c.2.2).2.1 (nNum c.2.1 c.2.2).2.2).2.2
  have e : (stateS l).1.mind = (nBytes (nBytes (nNum c.2.1 c.2.2).2.1 (nNum c.2.1 c.2.2).2.2).2.1 (nBytes (nNum c.2.1 c.2.2).2.1 (nNum c.2.1 c.2.2).2.2).2.2).1 := by rw [← hc]; rfl
  rw [e]
  rw [hc] at q3
  omega
/-- A row stored over itself. -/
theorem list_same {w : World} {ops : Array Oper} {rest : List Oper} {op : Oper} {a : Act} {Q : Exit → Act → World → Prop} (hgd : op.guard = none) (ty : TypeId) (x y : Operand) (ho : op.op = .store ty x y) (g : Nat) (cells : Array Value) (hx : a.eval x = .pointer (some ⟨g, 0, none⟩)) (hy : a.eval y = .agg cells)
    (t : TypeId) (hg : w.heap[g]? = some (.cells cells t (0, 0))) (hi : (Try.prog.info? ty).map (·.size) = some cells.size) (h1 : cells.all (·.oneCell') = true) (h : wpList Try.prog ops Q rest (a.put op.dst undef) w) : wpList Try.prog ops Q (op :: rest) a w :=
  wpList_store_row hgd ty x y ho g cells hx hy t cells hg hi rfl h1 (by rw [setRow_same w g cells t (0, 0) hg]; exact h)
theorem sizeU8 (w : World) : (sizeOf 5).run Try.prog w = .ok 1 w := by
  have hsz : (Try.prog.info? 5).map (·.size) = some 1 := by kernel_rfl
  cases hq : Try.prog.info? 5 with
  | none => simp [hq] at hsz
  | some i =>
    have : i.size = 1 := by simpa [hq] using hsz
    simp [sizeOf, typeInfo, hq, this]
theorem step_neq {ops : Array Oper} {o : Oper} {a : Act} {w : World} {K : Act → World → Prop} {Q : Exit → Act → World → Prop} {E : Prop} (hgd : o.guard = none) (x y : Operand) (ho : o.op = .binOp .neq 57 x y 57)
    (xs ys : List UInt8) (hx : a.eval x = .agg (vbs xs).toArray) (hy : a.eval y = .agg (vbs ys).toArray) (h32 : xs.length = 32) (h32' : ys.length = 32) (h : K (a.put o.dst (.bool (!(xs == ys)))) w) : if Region.wanted o (yielded ops a.tmps) = true then Oper.wp Try.prog o a w K Q else E := by
  rw [if_pos (by simp [Region.wanted, hgd])]
  have hrun : (binOp .neq 57 (.agg (vbs xs).toArray) (.agg (vbs ys).toArray)).run Try.prog w = .ok (.bool (!(xs == ys))) w := by
    have := run_equalIn_bytes (P := Try.prog) w 9998 57 5 32 Try.underlying57 Try.underlying5 sizeU8 xs ys h32 h32'
    rw [run_neq_struct]
    rw [show (vbs xs) = xs.map Extern.Stop.cell from rfl, show (vbs ys) = ys.map Extern.Stop.cell from rfl, this]
    rfl
  have hgu : (eqGuard .neq 57 x y (.agg (vbs xs).toArray) (.agg (vbs ys).toArray)).run Try.prog w = .ok () w := run_eqGuard_agg (P := Try.prog) (w := w) .neq _ x y _ _ (by kernel_rfl)
  unfold Oper.wp execOp
  simp [ho, hx, hy, hrun, hgu, Sem.run_bind, Sem.run_pure, Result.andThen]
  exact h
theorem setRow_other (w : World) (g k : Nat) (cs : Array Value) (h : k ≠ g) : (w.setRow g cs).heap[k]? = w.heap[k]? := by
  unfold World.setRow
  simp [Array.getElem?_modify, Ne.symm h]
theorem loadGo_len (s : FS) : ∀ i, (loadGo s i).1.length ≤ 2500
  | 0 => by simp [loadGo]
  | i + 1 => by
    have ih := loadGo_len s i
    rw [loadGo]
    cases h : wholeS s i with
    | none => exact ih
    | some x =>
      have := wholeP_bound h
      rw [stepL]
      split
      · exact this.2.2
      · exact ih
theorem loadS_len (s : FS) : (loadS s).1.length ≤ 2500 := by
  by_cases h : s.pg.length < 80
  · rw [loadS, if_pos h]
    exact Nat.zero_le _
  · by_cases h2 : (loadedS s).2.2 < 0
    · rw [loadS, if_neg h, if_pos h2]
      exact Nat.zero_le _
    · rw [loadS, if_neg h, if_neg h2]
      have k := loadGo_len s 2
      obtain ⟨x, hx⟩ : ∃ x, loadedS s = x := ⟨_, rfl⟩
      have hb : loadGo s 2 = x := hx
      rw [hb] at k
      rw [hx]
      exact k
theorem cons_of {n : Nat} {l : List UInt8} (h : l.length = n + 1) : ∃ x t, l = x :: t ∧ t.length = n := by
  cases l with
  | nil => cases h
  | cons x t => exact ⟨x, t, rfl, by simpa using h⟩
theorem Sb.range {w : World} {o : Col} {c p : Nat} {t : BS} {vm : Value} (h : Sb w o c p t vm) : w.rangeAt p 2 (vbs t.sum) := fun j v hv => by
  have hj : j < 32 := by
    have := (List.getElem?_eq_some_iff.1 hv).1
    rwa [vbs_length, h.sum] at this
  rw [h.cell, cellsBS_sum h.sum hj]
  exact hv
theorem cells_one (t : BS) (A : Option Addr) (n cap : Nat) : (cellsBS t (.slice A n cap)).toArray.all (·.oneCell') = true := by
  rw [Array.all_eq_true']
  intro x hx
  simp only [List.mem_toArray, cellsBS, List.mem_cons, List.mem_append, List.not_mem_nil, or_false] at hx
  rcases hx with rfl | rfl | hx | rfl | rfl | rfl
  · rfl
  · rfl
  · exact vbs_one _ x hx
  · rfl
  · rfl
  · rfl
theorem zB : (cellsBS zeroBS (.slice none 0 0)).toArray = (Value.int .i64 0 :: .int .i64 0 :: .int .u8 0 :: .int .u8 0 :: .int .u8 0 :: .int .u8 0 :: .int .u8 0 :: .int .u8 0 :: .int .u8 0 :: .int .u8 0 :: .int .u8 0 :: .int .u8 0 :: .int .u8 0 :: .int .u8 0 :: .int .u8 0 :: .int .u8 0 :: .int .u8 0 :: .int .u8 0 :: .int .u8 0 :: .int .u8 0 :: .int .u8 0 :: .int .u8 0 :: .int .u8 0 :: .int .u8 0 :: .int .u8 0 :: .int .u8 0 :: .int .u8 0 :: .int .u8 0 :: .int .u8 0 :: .int .u8 0 :: .int .u8 0 :: .int .u8 0 :: .int .u8 0 :: .int .u8 0 :: .int .i64 0 :: .string ⟨#[]⟩ :: .slice none 0 0 :: []).toArray := rfl
theorem imageS_len {s : FS} (h : s.ok) (h96 : 96 ≤ s.pg.length) (t : BS) (h0 : t.bank.toNat ≤ 1) : (imageS s t).length = min t.size.toNat 512 := by
  rw [imageS, List.length_take, pagesB_len h _ _ (by omega)]

set_option maxHeartbeats 3000000 in
set_option maxRecDepth 100000 in
theorem bboot_calls (c e0 e1 p g cap : Nat) (s : FS) (w : World) (o : Col) (h : Fl w o c p g cap s) :
    Calls Try.prog 36 #[.pointer (some ⟨p, 0, none⟩)] w (Post [] w o fun r w' o' => ∃ vm vi, r = .tuple #[.agg (cellsBS (bootB s).1 vm).toArray, vi, .int .i64 (bootB s).2.2] ∧ OwnB w' o' e0 vm (bootB s).1.mind ∧ RdB w' o' e1 vi (bootB s).2.1) := by
  obtain ⟨e, he1, _, hef⟩ := fresh o w.heap.size [c, e0, e1]
  obtain ⟨m, hm1, _, hmf⟩ := fresh o w.heap.size [c, e0, e1, e]
  simp only [List.mem_cons, List.not_mem_nil, or_false, not_or] at he1 hm1
  have hok := h.ok
  have S0 := Sb.new w o e zeroBS (.slice none 0 0) rfl
  have s0 : Stp [] w o (w.alloc (.cells (cellsBS zeroBS (.slice none 0 0)).toArray 59)) (paint o w.heap.size e) := (Stp.refl [] w o).alloc _ e
  have f0 := h.stp s0 (by simp)
  obtain ⟨w0, hw0⟩ : ∃ w0, w.alloc (.cells (cellsBS zeroBS (.slice none 0 0)).toArray 59) = w0 := ⟨_, rfl⟩
  obtain ⟨o0, ho0⟩ : ∃ o0, paint o w.heap.size e = o0 := ⟨_, rfl⟩
  obtain ⟨R, hR⟩ : ∃ R, w.heap.size = R := ⟨_, rfl⟩
  rw [hw0, ho0] at S0 s0 f0
  rw [hR] at S0
  have hz0 := S0.blk
  rw [zB] at hz0
  have hzi : (Try.prog.info? 59).map (·.size) = some ((Value.int .i64 0 :: .int .i64 0 :: .int .u8 0 :: .int .u8 0 :: .int .u8 0 :: .int .u8 0 :: .int .u8 0 :: .int .u8 0 :: .int .u8 0 :: .int .u8 0 :: .int .u8 0 :: .int .u8 0 :: .int .u8 0 :: .int .u8 0 :: .int .u8 0 :: .int .u8 0 :: .int .u8 0 :: .int .u8 0 :: .int .u8 0 :: .int .u8 0 :: .int .u8 0 :: .int .u8 0 :: .int .u8 0 :: .int .u8 0 :: .int .u8 0 :: .int .u8 0 :: .int .u8 0 :: .int .u8 0 :: .int .u8 0 :: .int .u8 0 :: .int .u8 0 :: .int .u8 0 :: .int .u8 0 :: .int .u8 0 :: .int .i64 0 :: .string ⟨#[]⟩ :: .slice none 0 0 :: []).toArray).size := by
    rw [← zB]
    simpa using stateInfo (t := zeroBS) (vm := .slice none 0 0) rfl
  have hz1 : ((Value.int .i64 0 :: .int .i64 0 :: .int .u8 0 :: .int .u8 0 :: .int .u8 0 :: .int .u8 0 :: .int .u8 0 :: .int .u8 0 :: .int .u8 0 :: .int .u8 0 :: .int .u8 0 :: .int .u8 0 :: .int .u8 0 :: .int .u8 0 :: .int .u8 0 :: .int .u8 0 :: .int .u8 0 :: .int .u8 0 :: .int .u8 0 :: .int .u8 0 :: .int .u8 0 :: .int .u8 0 :: .int .u8 0 :: .int .u8 0 :: .int .u8 0 :: .int .u8 0 :: .int .u8 0 :: .int .u8 0 :: .int .u8 0 :: .int .u8 0 :: .int .u8 0 :: .int .u8 0 :: .int .u8 0 :: .int .u8 0 :: .int .i64 0 :: .string ⟨#[]⟩ :: .slice none 0 0 :: []).toArray).all (·.oneCell') = true := by
    rw [← zB]
    exact cells_one _ _ _ _
  have hl := len_calls c p g cap s w0 o0 f0
  have hpg := bpages_calls w0
  have hld := load_calls c m p g cap s w0 o0 f0
  obtain ⟨PL, hPL⟩ : ∃ PL, s.pg.length = PL := ⟨_, rfl⟩
  rw [hPL] at hl
  obtain ⟨BT, hBT⟩ : ∃ BT, bootB s = BT := ⟨_, rfl⟩
  have hbv : BT = if PL < 96 then (zeroBS, [], 1) else if (loadS s).2.2 ≠ 0 then (zeroBS, [], (loadS s).2.2) else if (stateS (loadS s).1).2 = false then (zeroBS, [], 2) else if sha (imageS s (stateS (loadS s).1).1) = (stateS (loadS s).1).1.sum then ((stateS (loadS s).1).1, imageS s (stateS (loadS s).1).1, 0) else (zeroBS, [], 8) := by rw [← hBT, bootB, hPL]
  rw [hBT]
  have hll := loadS_len s
  obtain ⟨LD, hLD⟩ : ∃ LD, loadS s = LD := ⟨_, rfl⟩
  obtain ⟨LB, LN, LE⟩ := LD
  rw [hLD] at hld hbv hll
  dsimp only at hld hbv hll
  have none_ : ∀ w9 o9 (x : Int), Stp [e] w o w9 o9 → BT = (zeroBS, [], x) → Post [] w o (fun r w' o' => ∃ vm vi, r = .tuple #[.agg (cellsBS BT.1 vm).toArray, vi, .int .i64 BT.2.2] ∧ OwnB w' o' e0 vm BT.1.mind ∧ RdB w' o' e1 vi BT.2.1) (.returned (.tuple #[.agg (cellsBS zeroBS (.slice none 0 0)).toArray, .slice none 0 0, .int .i64 x])) w9 := by
    intro w9 o9 x s9 e9
    rw [e9]
    exact Post.mk (s9.drop hef) ⟨_, _, rfl, OwnB.nil _ _ _, RdB.nil _ _ _⟩
  replace none_ := Lib.hid none_
  replace hLD := Lib.hid hLD
  replace hBT := Lib.hid hBT
  replace hPL := Lib.hid hPL
  replace hw0 := Lib.hid hw0
  replace ho0 := Lib.hid ho0
  replace hR := Lib.hid hR
  replace S0 := Lib.hid S0
  replace s0 := Lib.hid s0
  replace f0 := Lib.hid f0
  replace hz0 := Lib.hid hz0
  replace hzi := Lib.hid hzi
  replace hz1 := Lib.hid hz1
  replace h := Lib.hid h
  replace hbv := Lib.hid hbv
  go_enter Try.func36, Try.ntmps36
  go_wp2_with fail
  rw [show w.alloc (.cells (Value.int .i64 0 :: .int .i64 0 :: .int .u8 0 :: .int .u8 0 :: .int .u8 0 :: .int .u8 0 :: .int .u8 0 :: .int .u8 0 :: .int .u8 0 :: .int .u8 0 :: .int .u8 0 :: .int .u8 0 :: .int .u8 0 :: .int .u8 0 :: .int .u8 0 :: .int .u8 0 :: .int .u8 0 :: .int .u8 0 :: .int .u8 0 :: .int .u8 0 :: .int .u8 0 :: .int .u8 0 :: .int .u8 0 :: .int .u8 0 :: .int .u8 0 :: .int .u8 0 :: .int .u8 0 :: .int .u8 0 :: .int .u8 0 :: .int .u8 0 :: .int .u8 0 :: .int .u8 0 :: .int .u8 0 :: .int .u8 0 :: .int .i64 0 :: .string ⟨#[]⟩ :: .slice none 0 0 :: []).toArray 59) = w0 from hw0.out, hR.out]
  refine hl.mono ?_
  clear hl
  rintro ex w1 ⟨rfl, rfl⟩
  go_wp2_with fail
  refine hpg.mono ?_
  clear hpg
  rintro ex w1 ⟨rfl, rfl⟩
  by_cases h1 : PL < 96
  · have g1 : decide ((PL : Int) < 96) = true := decide_eq_true (by omega)
    have hv : BT = (zeroBS, [], 1) := by rw [hbv.out, if_pos h1]
    replace hv := Lib.hid hv
    go_wp2_with (refine list_same rfl 59 _ _ rfl R (Value.int .i64 0 :: .int .i64 0 :: .int .u8 0 :: .int .u8 0 :: .int .u8 0 :: .int .u8 0 :: .int .u8 0 :: .int .u8 0 :: .int .u8 0 :: .int .u8 0 :: .int .u8 0 :: .int .u8 0 :: .int .u8 0 :: .int .u8 0 :: .int .u8 0 :: .int .u8 0 :: .int .u8 0 :: .int .u8 0 :: .int .u8 0 :: .int .u8 0 :: .int .u8 0 :: .int .u8 0 :: .int .u8 0 :: .int .u8 0 :: .int .u8 0 :: .int .u8 0 :: .int .u8 0 :: .int .u8 0 :: .int .u8 0 :: .int .u8 0 :: .int .u8 0 :: .int .u8 0 :: .int .u8 0 :: .int .u8 0 :: .int .i64 0 :: .string ⟨#[]⟩ :: .slice none 0 0 :: []).toArray rfl rfl 59 hz0.out hzi.out hz1.out ?_)
    refine bodyPost_ret (stateRes3 rfl _ rfl S0.out) rfl ?_
    exact none_.out _ _ _ s0.out.none hv.out
  have g1 : decide ((PL : Int) < 96) = false := decide_eq_false (by omega)
  have h96 : 96 ≤ s.pg.length := by have := hPL.out; omega
  replace hbv := Lib.hid (by rw [hbv.out, if_neg h1] : BT = _)
  go_wp2_with fail
  refine hld.mono ?_
  clear hld
  rintro ex w1 ⟨r, o1, rfl, s1, v1, rfl, b1⟩
  have f1 := Lib.hid (f0.out.stp s1 (by simp))
  have S1 := S0.out.stp s1 (by simp)
  have st1 := Lib.hid (s0.out.trans s1)
  have hz := S1.blk
  rw [zB] at hz
  replace hz := Lib.hid hz
  replace S1 := Lib.hid S1
  obtain ⟨A1, cap1, rfl⟩ := Own.shape b1
  have b1' : OwnB w1 o1 m (.slice A1 LB.length cap1) LB := b1
  replace b1 := Lib.hid b1
  replace b1' := Lib.hid b1'
  clear s1
  by_cases h2 : LE = 0
  · have g2 : (LE != 0) = false := by simp [h2]
    replace hbv := Lib.hid (by rw [hbv.out, if_neg (by simpa using h2)] : BT = _)
    have hst := state_calls m e0 _ LB w1 o1 (OwnB.rd b1'.out) (by omega)
    have hsum := stateS_sum LB
    have hmd := stateS_mind LB
    have hsok := fun x => stateS_ok (l := LB) x
    obtain ⟨ST, hST⟩ : ∃ ST, stateS LB = ST := ⟨_, rfl⟩
    rw [hST] at hst hsum hmd hsok
    obtain ⟨ST, OK⟩ := ST
    dsimp only at hst hsum hmd hsok
    replace hbv := Lib.hid (by rw [hbv.out, hST] : BT = _)
    replace h2 := Lib.hid h2
    replace hST := Lib.hid hST
    go_wp2_with fail
    refine hst.mono ?_
    clear hst
    rintro ex w2 ⟨r, o2, rfl, s2, vm, rfl, m2⟩
    obtain ⟨Am, capm, rfl⟩ := Own.shape m2
    have f2 := f1.out.stp s2 (by simp)
    have S2 := S1.out.stp s2 (by simp)
    have st2 := st1.out.trans s2
    have m2' : OwnB w2 o2 e0 (.slice Am ST.mind.length capm) ST.mind := m2
    have s3 : Stp [] w2 o2 (w2.alloc (.cells (cellsBS zeroBS (.slice none 0 0)).toArray 59)) (paint o2 w2.heap.size e) := (Stp.refl [] w2 o2).alloc _ e
    have T3 := Sb.new w2 o2 e zeroBS (.slice none 0 0) rfl
    have S3 := S2.stp s3 (by simp)
    have f3 := f2.stp s3 (by simp)
    have m3 := OwnB.stp m2' s3 (by simp)
    obtain ⟨w3, hw3⟩ : ∃ w3, w2.alloc (.cells (cellsBS zeroBS (.slice none 0 0)).toArray 59) = w3 := ⟨_, rfl⟩
    obtain ⟨o3, ho3⟩ : ∃ o3, paint o2 w2.heap.size e = o3 := ⟨_, rfl⟩
    obtain ⟨T, hT⟩ : ∃ T, w2.heap.size = T := ⟨_, rfl⟩
    have hTR : R ≠ T := by
      have := (Array.getElem?_eq_some_iff.1 S2.blk).1
      omega
    rw [hw3, ho3] at s3 T3 S3 f3 m3
    rw [hT] at T3
    have hzT := T3.blk
    rw [zB] at hzT
    obtain ⟨CL, hCL⟩ : ∃ CL, cellsBS ST (.slice Am ST.mind.length capm) = CL := ⟨_, rfl⟩
    have hCLi := stateInfo (vm := .slice Am ST.mind.length capm) hsum
    have hCL1 := cells_one ST Am ST.mind.length capm
    have hCLl := cellsBS_len (vm := .slice Am ST.mind.length capm) hsum
    rw [hCL] at hCLi hCL1 hCLl
    have s4 : Stp [e] w3 o3 (w3.setRow T CL.toArray) o3 := setRow_stp (by rw [T3.col]; simp) _
    have T4 : Sb (w3.setRow T CL.toArray) o3 e T ST (.slice Am ST.mind.length capm) := ⟨by rw [hCL]; exact setRow_heap _ _ _ _ _ _ T3.blk, T3.col, hsum⟩
    have S4 : Sb (w3.setRow T CL.toArray) o3 e R zeroBS (.slice none 0 0) := ⟨(setRow_other w3 T R _ hTR).trans S3.blk, S3.col, rfl⟩
    have f4 := f3.stp s4 (by simpa using fun x => he1.1 x.symm)
    have m4 := OwnB.stp m3 s4 (by simpa using fun x => he1.2.1 x.symm)
    have st4 : Stp [e] w o _ _ := ((st2.trans s3).none : Stp [e] _ _ _ _).trans s4
    obtain ⟨w4, hw4⟩ : ∃ w4, w3.setRow T CL.toArray = w4 := ⟨_, rfl⟩
    rw [hw4] at s4 T4 S4 f4 m4 st4
    have hz := S4.blk
    rw [zB] at hz
    have d0 := T4.c0
    have d1 := T4.c1
    replace hz := Lib.hid hz
    replace hzT := Lib.hid hzT
    replace T3 := Lib.hid T3
    replace T4 := Lib.hid T4
    replace S2 := Lib.hid S2
    replace S3 := Lib.hid S3
    replace S4 := Lib.hid S4
    replace f2 := Lib.hid f2
    replace f3 := Lib.hid f3
    replace f4 := Lib.hid f4
    replace m2 := Lib.hid m2
    replace m2' := Lib.hid m2'
    replace m3 := Lib.hid m3
    replace m4 := Lib.hid m4
    replace s2 := Lib.hid s2
    replace s3 := Lib.hid s3
    replace s4 := Lib.hid s4
    replace st2 := Lib.hid st2
    replace st4 := Lib.hid st4
    replace hw3 := Lib.hid hw3
    replace ho3 := Lib.hid ho3
    replace hw4 := Lib.hid hw4
    replace hT := Lib.hid hT
    replace hCL := Lib.hid hCL
    replace hCLi := Lib.hid hCLi
    replace hCL1 := Lib.hid hCL1
    replace hCLl := Lib.hid hCLl
    replace hTR := Lib.hid hTR
    replace hmd := Lib.hid hmd
    have Hsum := Lib.hid hsum
    clear hsum
    go_wp2_with (refine holdSt 59 ?_)
    apply Hold.mk
    rw [show w2.alloc (.cells (Value.int .i64 0 :: .int .i64 0 :: .int .u8 0 :: .int .u8 0 :: .int .u8 0 :: .int .u8 0 :: .int .u8 0 :: .int .u8 0 :: .int .u8 0 :: .int .u8 0 :: .int .u8 0 :: .int .u8 0 :: .int .u8 0 :: .int .u8 0 :: .int .u8 0 :: .int .u8 0 :: .int .u8 0 :: .int .u8 0 :: .int .u8 0 :: .int .u8 0 :: .int .u8 0 :: .int .u8 0 :: .int .u8 0 :: .int .u8 0 :: .int .u8 0 :: .int .u8 0 :: .int .u8 0 :: .int .u8 0 :: .int .u8 0 :: .int .u8 0 :: .int .u8 0 :: .int .u8 0 :: .int .u8 0 :: .int .u8 0 :: .int .i64 0 :: .string ⟨#[]⟩ :: .slice none 0 0 :: []).toArray 59) = w3 from hw3.out, hT.out, hCL.out]
    refine wpList_store_row rfl 59 _ _ rfl T CL.toArray rfl rfl 59 _ hzT.out (by rw [hCLi.out]; simp) (by simp [hCLl.out]) hCL1.out ?_
    rw [hw4.out]
    cases OK with
    | false =>
      have hv : BT = (zeroBS, [], 2) := by rw [hbv.out, if_pos rfl]
      replace hv := Lib.hid hv
      go_wp2_with (refine list_same rfl 59 _ _ rfl R (Value.int .i64 0 :: .int .i64 0 :: .int .u8 0 :: .int .u8 0 :: .int .u8 0 :: .int .u8 0 :: .int .u8 0 :: .int .u8 0 :: .int .u8 0 :: .int .u8 0 :: .int .u8 0 :: .int .u8 0 :: .int .u8 0 :: .int .u8 0 :: .int .u8 0 :: .int .u8 0 :: .int .u8 0 :: .int .u8 0 :: .int .u8 0 :: .int .u8 0 :: .int .u8 0 :: .int .u8 0 :: .int .u8 0 :: .int .u8 0 :: .int .u8 0 :: .int .u8 0 :: .int .u8 0 :: .int .u8 0 :: .int .u8 0 :: .int .u8 0 :: .int .u8 0 :: .int .u8 0 :: .int .u8 0 :: .int .u8 0 :: .int .i64 0 :: .string ⟨#[]⟩ :: .slice none 0 0 :: []).toArray rfl rfl 59 hz.out hzi.out hz1.out ?_)
      refine bodyPost_ret (stateRes3 rfl _ rfl S4.out) rfl ?_
      exact none_.out _ _ _ st4.out hv.out
    | true =>
      obtain ⟨a, b, ea, eb, ha, hb⟩ := hsok rfl
      replace hbv := Lib.hid (by rw [hbv.out, if_neg (by simp)] : BT = _)
      obtain ⟨TB, TS, TX, TC, TN, TM⟩ := ST
      dsimp only at ea eb
      subst ea
      subst eb
      obtain ⟨K, hK⟩ : ∃ K, 80 + a * 8 = K := ⟨_, rfl⟩
      have hKI : (K : Int) = 80 + (a : Int) * 8 := by omega
      have him : imageS s ⟨(a : Int), (b : Int), TX, TC, TN, TM⟩ = (pagesB s K 8).take b := by
        show (pagesB s (80 + (a : Int).toNat * 8) 8).take (b : Int).toNat = _
        rw [Int.toNat_natCast, Int.toNat_natCast, hK]
      have hic := image_calls c e1 p g cap s (a : Int) K b hKI (by omega) (by omega) (by omega) h96 w4 o3 f4.out
      have himl : ((pagesB s K 8).take b).length ≤ 512 := by rw [List.length_take]; omega
      obtain ⟨IM, hIM⟩ : ∃ IM, (pagesB s K 8).take b = IM := ⟨_, rfl⟩
      rw [hIM] at hic him himl
      replace hbv := Lib.hid (by rw [hbv.out, him] : BT = _)
      have hu57 := Try.underlying57
      have hi57 : (Try.prog.info? 57).map (·.size) = some (vbs TX).length := by
        rw [vbs_length, show TX.length = 32 from Hsum.out]
        kernel_rfl
      have hcases : (sha IM == TX) = true ∨ (sha IM == TX) = false := by cases (sha IM == TX) <;> simp
      have hshl : (sha IM).length = 32 := sha_len IM
      replace hic := Lib.hid hic
      replace hK := Lib.hid hK
      replace hKI := Lib.hid hKI
      replace him := Lib.hid him
      replace hIM := Lib.hid hIM
      have heq : ∀ w', (Op.equalIn 10000 57 (.agg (vbs (sha IM)).toArray) (.agg (vbs TX).toArray)).run Try.prog w' = .ok (sha IM == TX) w' := fun w' => run_equalIn_bytes (P := Try.prog) w' 9998 57 5 32 Try.underlying57 Try.underlying5 sizeU8 (sha IM) TX hshl Hsum.out
      replace hshl := Lib.hid hshl
      have ic := hic.out
      go_wp2_with fail
      refine ic.mono ?_
      clear ic
      rintro ex w5 ⟨r, o5, rfl, s5, r5⟩
      obtain ⟨A5, cap5, rfl, _, _⟩ := r5.shape
      have T5 := T4.out.stp s5 (by simp)
      have S5 := S4.out.stp s5 (by simp)
      have m5 := OwnB.stp m4.out s5 (by simp)
      have st5 := st4.out.trans s5.none
      have T5d := T5.stp (Stp.refl [] w5 o5).drew (by simp)
      have S5d := S5.stp (Stp.refl [] w5 o5).drew (by simp)
      have m5d := OwnB.stp m5 (Stp.refl [] w5 o5).drew (by simp)
      have r5d := r5.stp (Stp.refl [] w5 o5).drew (by simp)
      have st5d : Stp [e] w o w5.drew o5 := st5.drew
      have hsm := shaSum_calls e1 _ IM w5.drew o5 r5d (by omega)
      have rg5 := Lib.hid T5d.range
      replace T5 := Lib.hid T5
      replace S5 := Lib.hid S5
      replace m5 := Lib.hid m5
      replace r5 := Lib.hid r5
      replace st5 := Lib.hid st5
      replace T5d := Lib.hid T5d
      replace S5d := Lib.hid S5d
      replace m5d := Lib.hid m5d
      replace r5d := Lib.hid r5d
      replace st5d := Lib.hid st5d
      replace hsm := Lib.hid hsm
      clear d0 d1 s5
      rcases hcases with hq | hq
      all_goals
        go_wp2_with fail
        go_region_held_law (fun w' => w'.rangeAt T 2 (vbs TX)) (first | with_reducible exact rg5.out | with_reducible exact rg6.out) (first
          | (go_at_call 53
             refine hsm.out.mono ?_
             rintro ex w6 ⟨r, o6, rfl, s6, rfl⟩
             have T6 := T5d.out.stp s6 (by simp)
             have S6 := S5d.out.stp s6 (by simp)
             have m6 := OwnB.stp m5d.out s6 (by simp)
             have r6 := r5d.out.stp s6 (by simp)
             have st6 := st5d.out.trans s6.none
             have rg6 := Lib.hid T6.range
             replace T6 := Lib.hid T6
             replace S6 := Lib.hid S6
             replace m6 := Lib.hid m6
             replace r6 := Lib.hid r6
             replace st6 := Lib.hid st6
             replace s6 := Lib.hid s6))
      · have hv : BT = (⟨(a : Int), (b : Int), TX, TC, TN, TM⟩, IM, 0) := by rw [hbv.out, if_pos (by simpa using hq)]
        replace hv := Lib.hid hv
        have hall := Lib.hid (show ∀ (j : Nat) (u : Value), CL[j]? = some u → w6.cell? ((⟨T, 0, none⟩ : Addr).add j) = some u by rw [← hCL.out]; exact T6.out.all)
        have s7 : Stp [e] w6 o6 (w6.setRow R CL.toArray) o6 := setRow_stp (by rw [S6.out.col]; simp) _
        have S7 : Sb (w6.setRow R CL.toArray) o6 e R ⟨(a : Int), (b : Int), TX, TC, TN, TM⟩ (.slice Am TM.length capm) := ⟨by rw [← hCL.out]; exact setRow_heap _ _ _ _ _ _ S6.out.blk, S6.out.col, Hsum.out⟩
        have m7 := OwnB.stp m6.out s7 (by simpa using fun x => he1.2.1 x.symm)
        have r7 := r6.out.stp s7 (by simpa using fun x => he1.2.2 x.symm)
        have st7 := (st6.out.trans s7).drop hef
        have hb6 := S6.out.blk
        obtain ⟨wz, hwz⟩ : ∃ wz, w6.setRow R CL.toArray = wz := ⟨_, rfl⟩
        rw [hwz] at S7 m7 r7 st7
        replace S7 := Lib.hid S7
        replace m7 := Lib.hid m7
        replace r7 := Lib.hid r7
        replace st7 := Lib.hid st7
        replace hb6 := Lib.hid hb6
        replace hwz := Lib.hid hwz
        clear heq s7
        go_wp2_with (first | (refine list_load rfl 59 _ rfl ⟨T, 0, none⟩ rfl CL _ hall.out Try.underlying59 rfl hCLi.out ?_) | (refine holdSt 59 ?_))
        apply Hold.mk
        refine wpList_store_row rfl 59 _ _ rfl R CL.toArray rfl rfl 59 _ hb6.out (by rw [hCLi.out]; simp) (by simp [hCLl.out, cellsBS_len (t := zeroBS) (vm := .slice none 0 0) rfl]) hCL1.out ?_
        rw [hwz.out]
        go_wp2
        refine bodyPost_ret (stateRes3 rfl _ rfl S7.out) rfl ?_
        rw [hv.out]
        exact Post.mk st7.out ⟨_, _, rfl, m7.out, r7.out⟩
      · have hv : BT = (zeroBS, [], 8) := by rw [hbv.out, if_neg (by simpa using hq)]
        replace hv := Lib.hid hv
        have hz6 := S6.out.blk
        rw [zB] at hz6
        replace hz6 := Lib.hid hz6
        clear heq
        go_wp2_with (refine list_same rfl 59 _ _ rfl R (Value.int .i64 0 :: .int .i64 0 :: .int .u8 0 :: .int .u8 0 :: .int .u8 0 :: .int .u8 0 :: .int .u8 0 :: .int .u8 0 :: .int .u8 0 :: .int .u8 0 :: .int .u8 0 :: .int .u8 0 :: .int .u8 0 :: .int .u8 0 :: .int .u8 0 :: .int .u8 0 :: .int .u8 0 :: .int .u8 0 :: .int .u8 0 :: .int .u8 0 :: .int .u8 0 :: .int .u8 0 :: .int .u8 0 :: .int .u8 0 :: .int .u8 0 :: .int .u8 0 :: .int .u8 0 :: .int .u8 0 :: .int .u8 0 :: .int .u8 0 :: .int .u8 0 :: .int .u8 0 :: .int .u8 0 :: .int .u8 0 :: .int .i64 0 :: .string ⟨#[]⟩ :: .slice none 0 0 :: []).toArray rfl rfl 59 hz6.out hzi.out hz1.out ?_)
        refine bodyPost_ret (stateRes3 rfl _ rfl S6.out) rfl ?_
        exact none_.out _ _ _ st6.out hv.out
  · have g2 : (LE != 0) = true := by simp [h2]
    have hv : BT = (zeroBS, [], LE) := by rw [hbv.out, if_pos h2]
    replace hv := Lib.hid hv
    go_wp2_with (refine list_same rfl 59 _ _ rfl R (Value.int .i64 0 :: .int .i64 0 :: .int .u8 0 :: .int .u8 0 :: .int .u8 0 :: .int .u8 0 :: .int .u8 0 :: .int .u8 0 :: .int .u8 0 :: .int .u8 0 :: .int .u8 0 :: .int .u8 0 :: .int .u8 0 :: .int .u8 0 :: .int .u8 0 :: .int .u8 0 :: .int .u8 0 :: .int .u8 0 :: .int .u8 0 :: .int .u8 0 :: .int .u8 0 :: .int .u8 0 :: .int .u8 0 :: .int .u8 0 :: .int .u8 0 :: .int .u8 0 :: .int .u8 0 :: .int .u8 0 :: .int .u8 0 :: .int .u8 0 :: .int .u8 0 :: .int .u8 0 :: .int .u8 0 :: .int .u8 0 :: .int .i64 0 :: .string ⟨#[]⟩ :: .slice none 0 0 :: []).toArray rfl rfl 59 hz.out hzi.out hz1.out ?_)
    refine bodyPost_ret (stateRes3 rfl _ rfl S1.out) rfl ?_
    exact none_.out _ _ _ st1.out.none hv.out
end Go.Proofs.Ytpjnmijfmfgdpaa
