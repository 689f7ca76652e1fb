/- Banks (chapter 13): numbers into a state's block; state: the walks. -/
import Derived.Test.YtpjnmijfmfgdpaaBankC
import Derived.Test.YtpjnmijfmfgdpaaOctetN
import Derived.Deep.RegionHeldLaw
namespace Go.Proofs.Ytpjnmijfmfgdpaa
set_option linter.unusedVariables false
set_option linter.unusedSimpArgs false
open Go.RowKit

/-- What is left behind k numbers. -/
def nmL (l : List UInt8) (bad : Bool) : Nat → List UInt8 × Bool
  | 0 => (l, bad)
  | k + 1 => ((nNum (nmL l bad k).1 (nmL l bad k).2).2.1, (nNum (nmL l bad k).1 (nmL l bad k).2).2.2)
def nmN (l : List UInt8) (bad : Bool) (k : Nat) : Nat := (nNum (nmL l bad k).1 (nmL l bad k).2).1
theorem nmL_le (l : List UInt8) (bad : Bool) : ∀ k, (nmL l bad k).1.length ≤ l.length
  | 0 => Nat.le_refl _
  | k + 1 => Nat.le_trans (nNum_le _ _).1 (nmL_le l bad k)
/-- The cells behind k numbers, the i-th laid at j i. -/
def putN (cs : Array Value) (j : Nat → Nat) (l : List UInt8) (bad : Bool) : Nat → Array Value
  | 0 => cs
  | k + 1 => (putN cs j l bad k).setIfInBounds (j k) (.int .i64 (nmN l bad k : Int))
theorem putN_size (cs : Array Value) (j : Nat → Nat) (l : List UInt8) (bad : Bool) : ∀ k, (putN cs j l bad k).size = cs.size
  | 0 => rfl
  | k + 1 => by rw [putN, Array.size_setIfInBounds, putN_size cs j l bad k]

def RnS (w0 : World) (o0 : Col) (c d e p S n : Nat) (j : Nat → Nat) (cs : Array Value) (T : Nat) (l : List UInt8) (bad : Bool) (x : Value) (wr : World) : Prop :=
  ∃ (k : Nat) (o' : Col) (v' : Value), x = .int .i64 k ∧ k ≤ n ∧ Stp [c, e] w0 o0 wr o' ∧ Rr wr o' c d p v' (nmL l bad k).1 (nmL l bad k).2 ∧ wr.heap[S]? = some (.cells (putN cs j l bad k) T (0, 0))
set_option maxHeartbeats 2000000 in
set_option maxRecDepth 100000 in
theorem rnumsS_calls (c d e f p S g n T : Nat) (j : Nat → Nat) (cs : Array Value) (v : Value) (l : List UInt8) (bad : Bool) (w : World) (o : Col) (h : Rr w o c d p v l bad) (hb : l.length ≤ 140737488355328) (hn : n ≤ 1000)
    (hS : w.heap[S]? = some (.cells cs T (0, 0))) (hoS : o S = e) (hj : ∀ k, k < n → j k < cs.size) (hce : c ≠ e) (hde : d ≠ e) (hog : o g = f) (hfc : f ≠ c) (hfe : f ≠ e)
    (hg : ∀ k, k < n → w.cell? ⟨g, k, none⟩ = some (.pointer (some ⟨S, j k, none⟩))) :
    Calls Try.prog 82 #[.pointer (some ⟨p, 0, none⟩), .slice (some ⟨g, 0, none⟩) n n] w (Post [c, e] w o fun r w' o' => r = .tuple #[] ∧ ∃ v', Rr w' o' c d p v' (nmL l bad n).1 (nmL l bad n).2 ∧ w'.heap[S]? = some (.cells (putN cs j l bad n) T (0, 0))) := by
  have hg' := Lib.hid hg
  clear hg
  go_enter Try.func82, Try.ntmps82
  go_wp2_with fail
  go_loopw [9] (RnS w o c d e p S n j cs T l bad) (fun x _ => n - (intOf x).toNat)
  case atStart => exact ⟨0, o, v, rfl, by omega, Stp.refl _ _ _, h, hS⟩
  case round =>
    obtain ⟨k, o1, v1, rfl, hk, hs, hr, hS1⟩ := hrel
    by_cases hlt : k < n
    · have g1 : decide ((k : Int) < (n : Int)) = true := decide_eq_true (by omega)
      have g3 : (0 : Int) ≤ (k : Int) ∧ (k : Int) < (n : Int) := by omega
      have hc := hs.cell (hg'.out k hlt) (by show o g ∉ _; rw [hog]; simp; exact ⟨hfc, hfe⟩)
      have hl1 := nmL_le l bad k
      have hoS1 : o1 S = e := (hs.colb hS).trans hoS
      have hnum := rnum_calls c d p v1 _ _ wr o1 hr (by omega : (nmL l bad k).1.length ≤ _)
      obtain ⟨U, hU⟩ : ∃ U, nmN l bad k = U := ⟨_, rfl⟩
      rw [show (nNum (nmL l bad k).1 (nmL l bad k).2).1 = U from hU] at hnum
      obtain ⟨J, hJ⟩ : ∃ J, j k = J := ⟨_, rfl⟩
      have hJs : J < cs.size := by rw [← hJ]; exact hj k hlt
      rw [hJ] at hc
      obtain ⟨PV, hPV⟩ : ∃ PV, putN cs j l bad k = PV := ⟨_, rfl⟩
      have hPs : PV.size = cs.size := by rw [← hPV]; exact putN_size _ _ _ _ _
      have hnx : putN cs j l bad (k + 1) = PV.setIfInBounds J (.int .i64 (U : Int)) := by rw [putN, hPV, hJ, hU]
      rw [hPV] at hS1
      replace hr := Lib.hid hr
      replace hs := Lib.hid hs
      replace hS1 := Lib.hid hS1
      replace hU := Lib.hid hU
      replace hJ := Lib.hid hJ
      replace hPV := Lib.hid hPV
      replace hPs := Lib.hid hPs
      replace hnx := Lib.hid hnx
      clear h hS
      go_wp2_with fail
      refine hnum.mono ?_
      clear hnum
      rintro e1 w1 ⟨r1, o2, rfl, s1, rfl, v2, h1⟩
      have hS2 := s1.blk hS1.out (by rw [hoS1]; simpa using fun e => hce e.symm)
      have hoS2 : o2 S = e := (s1.colb hS1.out).trans hoS1
      have s2 : Stp [c, e] w o w1 o2 := hs.out.trans (s1.mono (by simp))
      have hf := blk_free hS2 J
      obtain ⟨z0, hz0⟩ : ∃ z0, PV[J]? = some z0 := ⟨PV[J]'(by rw [hPs.out]; exact hJs), by simp [hPs.out, hJs]⟩
      have hcx := (blk_cell hS2 J).trans hz0
      have s3 : Stp [e] w1 o2 (w1.setCell ⟨S, J, none⟩ (.int .i64 (U : Int))) o2 := (Stp.refl [e] w1 o2).setCell (fun _ => by simp [hoS2]) _
      have h3 := Lib.hid (h1.stp s3 (by simpa using hce) (by simpa using hde))
      have hS3 := Lib.hid (blk_set (j := J) hS2 (.int .i64 (U : Int)))
      have s4 := Lib.hid (s2.trans (s3.mono (D := [c, e]) (by simp)))
      replace hz0 := Lib.hid hz0
      replace h1 := Lib.hid h1
      replace s1 := Lib.hid s1
      replace s2 := Lib.hid s2
      replace s3 := Lib.hid s3
      replace hS2 := Lib.hid hS2
      clear hc
      go_wp2
      go_roundw
      case rel => exact ⟨k + 1, o2, v2, by go_num, by omega, s4.out, h3.out, by rw [hnx.out]; exact hS3.out⟩
      case measure => simp [intOf]; omega
    · have hkn : k = n := by omega
      have g1 : decide ((k : Int) < (n : Int)) = false := decide_eq_false (by omega)
      rw [hkn] at hr hS1
      replace hr := Lib.hid hr
      replace hs := Lib.hid hs
      replace hS1 := Lib.hid hS1
      replace hkn := Lib.hid hkn
      clear h hS
      go_wp2
      go_end0
      exact Post.mk hs.out ⟨rfl, v1, hr.out, hS1.out⟩
/-! ### A state's cells, changed -/
theorem zBS : (cellsBS zeroBS (.slice none 0 0)).toArray = #[.int .i64 0, .int .i64 0, .int .u8 0, .int .u8 0, .int .u8 0, .int .u8 0, .int .u8 0, .int .u8 0, .int .u8 0, .int .u8 0, .int .u8 0, .int .u8 0, .int .u8 0, .int .u8 0, .int .u8 0, .int .u8 0, .int .u8 0, .int .u8 0, .int .u8 0, .int .u8 0, .int .u8 0, .int .u8 0, .int .u8 0, .int .u8 0, .int .u8 0, .int .u8 0, .int .u8 0, .int .u8 0, .int .u8 0, .int .u8 0, .int .u8 0, .int .u8 0, .int .u8 0, .int .u8 0, .int .i64 0, .string ⟨#[]⟩, .slice none 0 0] := rfl
theorem cells_set0 (t : BS) (vm : Value) (x : Int) : (cellsBS t vm).toArray.setIfInBounds 0 (.int .i64 x) = (cellsBS { t with bank := x } vm).toArray := by simp [cellsBS]
theorem cells_set1 (t : BS) (vm : Value) (x : Int) : (cellsBS t vm).toArray.setIfInBounds 1 (.int .i64 x) = (cellsBS { t with size := x } vm).toArray := by simp [cellsBS]
theorem set_tail (a : List Value) (x y : Value) (b c : List Value) (n : Nat) (hn : a.length + b.length = n) : ((a ++ (b ++ x :: c)).toArray.setIfInBounds n y) = (a ++ (b ++ y :: c)).toArray := by
  subst hn
  simp [List.set_append]
theorem cells_set34 (t : BS) (vm : Value) (x : Int) (h : t.sum.length = 32) : (cellsBS t vm).toArray.setIfInBounds 34 (.int .i64 x) = (cellsBS { t with counter := x } vm).toArray :=
  set_tail (.int .i64 t.bank :: .int .i64 t.size :: vbs t.sum) _ _ [] _ 34 (by simp [vbs, h])
theorem cells_set35 (t : BS) (vm : Value) (x : List UInt8) (h : t.sum.length = 32) : (cellsBS t vm).toArray.setIfInBounds 35 (.string ⟨x.toArray⟩) = (cellsBS { t with name := x } vm).toArray :=
  set_tail (.int .i64 t.bank :: .int .i64 t.size :: vbs t.sum) _ _ [.int .i64 t.counter] _ 35 (by simp [vbs, h])
theorem cells_set36 (t : BS) (vm vm' : Value) (x : List UInt8) (h : t.sum.length = 32) : (cellsBS t vm).toArray.setIfInBounds 36 vm' = (cellsBS { t with mind := x } vm').toArray :=
  set_tail (.int .i64 t.bank :: .int .i64 t.size :: vbs t.sum) _ _ [.int .i64 t.counter, .string ⟨t.name.toArray⟩] _ 36 (by simp [vbs, h])
theorem setCells_list (b t : Nat) (fz : Nat × Nat) : ∀ (vs old pre post : List Value) (w : World), old.length = vs.length → w.heap[b]? = some (.cells (pre ++ (old ++ post)).toArray t fz) → (w.setCells b pre.length vs).heap[b]? = some (.cells (pre ++ (vs ++ post)).toArray t fz)
  | [], [], pre, post, w, _, h => h
  | v :: vs, x :: old, pre, post, w, hl, h => by
    have h1 := blk_set (j := pre.length) h v
    have e : (pre ++ (x :: old ++ post)).toArray.setIfInBounds pre.length v = ((pre ++ [v]) ++ (old ++ post)).toArray := by simp [List.set_append]
    rw [e] at h1
    have h2 := setCells_list b t fz vs old (pre ++ [v]) post _ (by simpa using hl) h1
    rw [List.length_append] at h2
    simpa [World.setCells] using h2
  | [], _ :: _, _, _, _, hl, _ => by simp at hl
  | _ :: _, [], _, _, _, hl, _ => by simp at hl
theorem step_row {P : Program} {ops : Array Oper} {o : Oper} {a : Act} {K : Act → World → Prop} {Q : Exit → Act → World → Prop} {E : Prop} {w : World} (hgd : o.guard = none) (ty : TypeId) (x y : Operand) (ho : o.op = .store ty x y)
    (g : Nat) (cells : Array Value) (hx : a.eval x = .pointer (some ⟨g, 0, none⟩)) (hy : a.eval y = .agg cells) (t : TypeId) (old : Array Value) (hg : w.heap[g]? = some (.cells old t (0, 0))) (hi : (P.info? ty).map (·.size) = some cells.size)
    (hold : old.size = cells.size) (h1 : cells.all (·.oneCell') = true) (h : K (a.put o.dst undef) (w.setRow g cells)) : if Region.wanted o (yielded ops a.tmps) = true then Oper.wp P o a w K Q else E := by
  rw [if_pos (by simp [Region.wanted, hgd])]
  exact wp_store_row ty x y ho g cells hx hy t old hg hi hold h1 h
theorem wp_load_cells {w : World} {op : Oper} {a : Act} {K : Act → World → Prop} {Q : Exit → Act → World → Prop} (ty : TypeId) (x : Operand) (ho : op.op = .load ty x) (ad : Addr) (hx : a.eval x = .pointer (some ad)) (cs : List Value) (d : TypeDesc)
    (hc : ∀ (j : Nat) (u : Value), cs[j]? = some u → w.cell? (ad.add j) = some u) (hu : Try.prog.underlying ty = some d) (hd : d.isRow = true) (hi : (Try.prog.info? ty).map (·.size) = some cs.length) (h : K (a.put op.dst (.agg cs.toArray)) w) : Oper.wp Try.prog op a w K Q := by
  have hl : (loadCells ad cs.length).run Try.prog w = .ok cs.toArray w := run_loadCells_list (P := Try.prog) w ad cs hc
  have hr : (loadVar ty ad).run Try.prog w = .ok (.agg cs.toArray) w := by
    cases hq : Try.prog.info? ty with
    | none => simp [hq] at hi
    | some i =>
      have hs : i.size = cs.length := by simpa [hq] using hi
      have hagg : (isAgg ty).run Try.prog w = .ok true w := by
        unfold isAgg
        rw [Sem.run_bind, run_underlying hu w]
        cases d <;> simp_all
      simp [loadVar, Sem.run_bind, hagg, sizeOf, typeInfo, hq, hs, hl]
  unfold Oper.wp execOp
  simp only [ho, hx, Instr.loadAt, Instr.sureAddr, Sem.run_bind, Sem.run_pure, Result.andThen_ok, hr]
  exact h
theorem step_load {ops : Array Oper} {w : World} {op : Oper} {a : Act} {K : Act → World → Prop} {Q : Exit → Act → World → Prop} {E : Prop} (hgd : op.guard = none) (ty : TypeId) (x : Operand) (ho : op.op = .load ty x) (ad : Addr) (hx : a.eval x = .pointer (some ad)) (cs : List Value) (d : TypeDesc)
    (hc : ∀ (j : Nat) (u : Value), cs[j]? = some u → w.cell? (ad.add j) = some u) (hu : Try.prog.underlying ty = some d) (hd : d.isRow = true) (hi : (Try.prog.info? ty).map (·.size) = some cs.length) (h : K (a.put op.dst (.agg cs.toArray)) w) :
    if Region.wanted op (yielded ops a.tmps) = true then Oper.wp Try.prog op a w K Q else E := by
  rw [if_pos (by simp [Region.wanted, hgd])]
  exact wp_load_cells ty x ho ad hx cs d hc hu hd hi h
theorem list_load {w : World} {ops : Array Oper} {rest : List Oper} {op : Oper} {a : Act} {Q : Exit → Act → World → Prop} (hgd : op.guard = none) (ty : TypeId) (x : Operand) (ho : op.op = .load ty x) (ad : Addr) (hx : a.eval x = .pointer (some ad)) (cs : List Value) (d : TypeDesc)
    (hc : ∀ (j : Nat) (u : Value), cs[j]? = some u → w.cell? (ad.add j) = some u) (hu : Try.prog.underlying ty = some d) (hd : d.isRow = true) (hi : (Try.prog.info? ty).map (·.size) = some cs.length) (h : wpList Try.prog ops Q rest (a.put op.dst (.agg cs.toArray)) w) : wpList Try.prog ops Q (op :: rest) a w :=
  wpList_plain hgd fun _ hK => wp_load_cells ty x ho ad hx cs d hc hu hd hi (hK _ _ h)
theorem Sb.all {w : World} {o : Col} {c p : Nat} {t : BS} {vm : Value} (h : Sb w o c p t vm) (j : Nat) (u : Value) (hu : (cellsBS t vm)[j]? = some u) : w.cell? ((⟨p, 0, none⟩ : Addr).add j) = some u := by
  rw [Addr.add_lit, Nat.zero_add, h.cell]
  exact hu
theorem stateInfo {t : BS} {vm : Value} (h : t.sum.length = 32) : (Try.prog.info? 59).map (·.size) = some (cellsBS t vm).length := by
  rw [cellsBS_len h]
  kernel_rfl
/-- The hash copied into a state's block. -/
theorem Sb.copy {w : World} {o : Col} {c p c2 cap : Nat} {A : Option Addr} {t : BS} {vm : Value} (h : Sb w o c p t vm) {r : List UInt8} (hr : RdB w o c2 (.slice A r.length cap) r) (hz : t.sum = List.replicate 32 0) (hl : r.length = 32 ∨ r.length = 0) :
    ∃ w', (Builtin.copy_ #[22, 22] 3 #[.slice (some ⟨p, 2, none⟩) 32 32, .slice A r.length cap]).run Try.prog w = .ok (goInt r.length) w' ∧ Stp [c] w o w' o ∧ Sb w' o c p { t with sum := sum32 r } vm := by
  have hsz : (Try.prog.info? 5).map (·.size) = some 1 := by kernel_rfl
  rcases hl with h32 | h0
  · obtain ⟨_, _, _, A', cap', e, hlc, hA, hcells⟩ := hr
    injection e with e1 _ e3
    subst e1
    subst e3
    obtain ⟨ad, rfl, _, _, hcell⟩ := hcells (by omega)
    have hrun := run_copy_cells (P := Try.prog) w 22 22 3 5 p 2 32 32 ad r.length cap (vbs r) Try.underlying22 hsz (by rw [vbs_length, h32]; rfl) hcell
      (fun j hj => by rw [vbs_length, h32] at hj; rw [h.cell, cellsBS_sum h.sum hj]; simp [vbs, h.sum, hj]) (fun j _ => h.free _) (vbs_one _)
    rw [vbs_length] at hrun
    refine ⟨_, hrun, setCells_stp p _ _ _ (by rw [h.col]; simp), ?_, h.col, by simp [sum32, h32]⟩
    have hs := setCells_list p 59 (0, 0) (vbs r) (vbs t.sum) [.int .i64 t.bank, .int .i64 t.size] [.int .i64 t.counter, .string ⟨t.name.toArray⟩, vm] w (by rw [vbs_length, vbs_length, h.sum, h32]) h.blk
    have e : sum32 r = r := by rw [sum32, h32]; simp
    rw [e]
    exact hs
  · have hn : r = [] := List.eq_nil_of_length_eq_zero h0
    subst hn
    refine ⟨w, run_copy_none (P := Try.prog) w 22 22 3 5 _ A 32 32 0 cap Try.underlying22 hsz (by rfl), Stp.refl _ _ _, ?_⟩
    have e : sum32 [] = t.sum := by rw [hz]; rfl
    rw [e]
    exact h
end Go.Proofs.Ytpjnmijfmfgdpaa
