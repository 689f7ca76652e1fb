/- The document's bank (ref13): a state's block; record: the walk. Made of BankQ and BankR. -/
import Derived.Test.YtpjnmijfmfgdpaaKnown13
import Derived.Test.YtpjnmijfmfgdpaaRef1
import Derived.Deep.RegionHeldLaw
namespace Go.Proofs.Ytpjnmijfmfgdpaa
set_option linter.unusedVariables false
set_option linter.unusedSimpArgs false
open Go.RowKit

/-- A state's block. -/
structure Xb (w : World) (o : Col) (c p : Nat) (t : BS) (vm : Value) : Prop where
  blk : w.heap[p]? = some (.cells (cellsBS t vm).toArray 72 (0, 0))
  col : o p = c
  sum : t.sum.length = 32
theorem Xb.stp {C : List Nat} {w w1 : World} {o o1 : Col} {c p : Nat} {t : BS} {vm : Value} (h : Xb w o c p t vm) (hs : Stp C w o w1 o1) (hn : c ∉ C) : Xb w1 o1 c p t vm :=
  ⟨hs.blk h.blk (by rw [h.col]; exact hn), (hs.colb h.blk).trans h.col, h.sum⟩
theorem Xb.cell {w : World} {o : Col} {c p : Nat} {t : BS} {vm : Value} (h : Xb w o c p t vm) (j : Nat) : w.cell? ⟨p, j, none⟩ = (cellsBS t vm)[j]? := by
  rw [blk_cell h.blk]
  simp
theorem Xb.c0 {w : World} {o : Col} {c p : Nat} {t : BS} {vm : Value} (h : Xb w o c p t vm) : w.cell? ⟨p, 0, none⟩ = some (.int .i64 t.bank) := h.cell 0
theorem Xb.c1 {w : World} {o : Col} {c p : Nat} {t : BS} {vm : Value} (h : Xb w o c p t vm) : w.cell? ⟨p, 1, none⟩ = some (.int .i64 t.size) := h.cell 1
theorem Xb.c34 {w : World} {o : Col} {c p : Nat} {t : BS} {vm : Value} (h : Xb w o c p t vm) : w.cell? ⟨p, 34, none⟩ = some (.int .i64 t.counter) := (h.cell 34).trans (cellsBS_rest h.sum 0)
theorem Xb.c35 {w : World} {o : Col} {c p : Nat} {t : BS} {vm : Value} (h : Xb w o c p t vm) : w.cell? ⟨p, 35, none⟩ = some (.string ⟨t.name.toArray⟩) := (h.cell 35).trans (cellsBS_rest h.sum 1)
theorem Xb.c36 {w : World} {o : Col} {c p : Nat} {t : BS} {vm : Value} (h : Xb w o c p t vm) : w.cell? ⟨p, 36, none⟩ = some vm := (h.cell 36).trans (cellsBS_rest h.sum 2)
theorem Xb.free {w : World} {o : Col} {c p : Nat} {t : BS} {vm : Value} (h : Xb w o c p t vm) (j : Nat) : w.frozen? ⟨p, j, none⟩ = false := blk_free h.blk j
/-- The hash, in the middle of a state's block. -/
theorem Xb.rd {w : World} {o : Col} {c p : Nat} {t : BS} {vm : Value} (h : Xb w o c p t vm) : RdB w o c (.slice (some ⟨p, 2, none⟩) 32 32) t.sum := by
  unfold RdB
  rw [h.sum]
  refine ⟨by rw [vbs_length, h.sum], by omega, vbs_one _, some ⟨p, 2, none⟩, 32, rfl, Nat.le_refl _, by simp, fun _ => ⟨_, rfl, h.col, (Array.getElem?_eq_some_iff.1 h.blk).1, fun j u hu => ?_⟩⟩
  have hj : j < 32 := by
    have := (List.getElem?_eq_some_iff.1 hu).1
    rwa [vbs_length, h.sum] at this
  rw [Addr.add_lit, h.cell, cellsBS_sum h.sum hj]
  exact hu
theorem Xb.new (w : World) (o : Col) (c : Nat) (t : BS) (vm : Value) (hs : t.sum.length = 32) : Xb (w.alloc (.cells (cellsBS t vm).toArray 72)) (paint o w.heap.size c) c w.heap.size t vm :=
  ⟨heap_alloc_new _ _, paint_at _ _ _, hs⟩
theorem Xb.all {w : World} {o : Col} {c p : Nat} {t : BS} {vm : Value} (h : Xb w o c p t vm) (j : Nat) (u : Value) (hu : (cellsBS t vm)[j]? = some u) : w.cell? ((⟨p, 0, none⟩ : Addr).add j) = some u := by
  rw [Addr.add_lit, Nat.zero_add, h.cell]
  exact hu
theorem xstateInfo {t : BS} {vm : Value} (h : t.sum.length = 32) : (Try.prog.info? 72).map (·.size) = some (cellsBS t vm).length := by
  rw [cellsBS_len h]
  kernel_rfl
/-- The hash copied into a state's block. -/
theorem Xb.copy {w : World} {o : Col} {c p c2 cap : Nat} {A : Option Addr} {t : BS} {vm : Value} (h : Xb w o c p t vm) {r : List UInt8} (hr : RdB w o c2 (.slice A r.length cap) r) (hz : t.sum = List.replicate 32 0) (hl : r.length = 32 ∨ r.length = 0) :
    ∃ w', (Builtin.copy_ #[22, 22] 3 #[.slice (some ⟨p, 2, none⟩) 32 32, .slice A r.length cap]).run Try.prog w = .ok (goInt r.length) w' ∧ Stp [c] w o w' o ∧ Xb w' o c p { t with sum := sum32 r } vm := by
  have hsz : (Try.prog.info? 5).map (·.size) = some 1 := by kernel_rfl
  rcases hl with h32 | h0
  · obtain ⟨_, _, _, A', cap', e, hlc, hA, hcells⟩ := hr
    injection e with e1 _ e3
    subst e1
    subst e3
    obtain ⟨ad, rfl, _, _, hcell⟩ := hcells (by omega)
    have hrun := run_copy_cells (P := Try.prog) w 22 22 3 5 p 2 32 32 ad r.length cap (vbs r) Try.underlying22 hsz (by rw [vbs_length, h32]; rfl) hcell
      (fun j hj => by rw [vbs_length, h32] at hj; rw [h.cell, cellsBS_sum h.sum hj]; simp [vbs, h.sum, hj]) (fun j _ => h.free _) (vbs_one _)
    rw [vbs_length] at hrun
    refine ⟨_, hrun, setCells_stp p _ _ _ (by rw [h.col]; simp), ?_, h.col, by simp [sum32, h32]⟩
    have hs := setCells_list p 72 (0, 0) (vbs r) (vbs t.sum) [.int .i64 t.bank, .int .i64 t.size] [.int .i64 t.counter, .string ⟨t.name.toArray⟩, vm] w (by rw [vbs_length, vbs_length, h.sum, h32]) h.blk
    have e : sum32 r = r := by rw [sum32, h32]; simp
    rw [e]
    exact hs
  · have hn : r = [] := List.eq_nil_of_length_eq_zero h0
    subst hn
    refine ⟨w, run_copy_none (P := Try.prog) w 22 22 3 5 _ A 32 32 0 cap Try.underlying22 hsz (by rfl), Stp.refl _ _ _, ?_⟩
    have e : sum32 [] = t.sum := by rw [hz]; rfl
    rw [e]
    exact h
theorem xstateRes2 {fn : Func} {a u : Tmp} (h : fn.results = #[.cell a 72, .tmp u]) (tmps : Array Value) {w : World} {o : Col} {c g : Nat} {t : BS} {vm : Value} (ht : tmps.getD a undef = .pointer (some ⟨g, 0, none⟩)) (hs : Xb w o c g t vm) :
    (results fn tmps).run Try.prog w = .ok (.tuple #[.agg (cellsBS t vm).toArray, tmps.getD u undef]) w := by
  have hr := loadVar_cells 72 ⟨g, 0, none⟩ (cellsBS t vm) _ hs.all Try.underlying72 rfl (xstateInfo hs.sum)
  have ha : (asAddr (tmps.getD a undef)).run Try.prog w = .ok ⟨g, 0, none⟩ w := by rw [ht]; rfl
  rw [Array.getD_eq_getD_getElem?] at ha
  simp [results, h, Sem.run_bind, ha, hr, Result.andThen]
theorem xstateRes3 {fn : Func} {a u v : Tmp} (h : fn.results = #[.cell a 72, .tmp u, .tmp v]) (tmps : Array Value) {w : World} {o : Col} {c g : Nat} {t : BS} {vm : Value} (ht : tmps.getD a undef = .pointer (some ⟨g, 0, none⟩)) (hs : Xb w o c g t vm) :
    (results fn tmps).run Try.prog w = .ok (.tuple #[.agg (cellsBS t vm).toArray, tmps.getD u undef, tmps.getD v undef]) w := by
  have hr := loadVar_cells 72 ⟨g, 0, none⟩ (cellsBS t vm) _ hs.all Try.underlying72 rfl (xstateInfo hs.sum)
  have ha : (asAddr (tmps.getD a undef)).run Try.prog w = .ok ⟨g, 0, none⟩ w := by rw [ht]; rfl
  rw [Array.getD_eq_getD_getElem?] at ha
  simp [results, h, Sem.run_bind, ha, hr, Result.andThen]
theorem Xb.range {w : World} {o : Col} {c p : Nat} {t : BS} {vm : Value} (h : Xb w o c p t vm) : w.rangeAt p 2 (vbs t.sum) := fun j v hv => by
  have hj : j < 32 := by
    have := (List.getElem?_eq_some_iff.1 hv).1
    rwa [vbs_length, h.sum] at this
  rw [h.cell, cellsBS_sum h.sum hj]
  exact hv
/-- A state told by a call is laid into a block of its own. -/
theorem Xb.lay {w : World} {o : Col} {e : Nat} (t : BS) (vm : Value) (A : Option Addr) (n cap : Nat) (hvm : vm = .slice A n cap) (hs : t.sum.length = 32) :
    ∃ w1 w2 o2, w.alloc (.cells (cellsBS zeroBS (.slice none 0 0)).toArray 72) = w1 ∧ w1.setRow w.heap.size (cellsBS t vm).toArray = w2 ∧ w1.heap[w.heap.size]? = some (.cells (cellsBS zeroBS (.slice none 0 0)).toArray 72 (0, 0)) ∧ Stp [] w o w2 o2 ∧ Xb w2 o2 e w.heap.size t vm ∧
      (Try.prog.info? 72).map (·.size) = some (cellsBS t vm).toArray.size ∧ (cellsBS zeroBS (.slice none 0 0)).toArray.size = (cellsBS t vm).toArray.size ∧ (cellsBS t vm).toArray.all (·.oneCell') = true := by
  subst hvm
  obtain ⟨e9, he9, _, hf9⟩ := fresh o w.heap.size []
  have T := Xb.new w o e9 zeroBS (.slice none 0 0) rfl
  have s1 : Stp [e9] w o _ _ := (Stp.refl [e9] w o).alloc (.cells (cellsBS zeroBS (.slice none 0 0)).toArray 72) e9
  have s2 : Stp [e9] _ _ ((w.alloc (.cells (cellsBS zeroBS (.slice none 0 0)).toArray 72)).setRow w.heap.size (cellsBS t (.slice A n cap)).toArray) _ := setRow_stp (o := paint o w.heap.size e9) (by rw [T.col]; simp) _
  have s3 := ((s1.trans s2).drop hf9).repaint e
  refine ⟨_, _, _, rfl, rfl, T.blk, s3, ⟨setRow_heap _ _ _ _ _ _ T.blk, ?_, hs⟩, by simpa using xstateInfo hs, by simp [cellsBS_len hs, cellsBS_len (t := zeroBS) (vm := .slice none 0 0) rfl], cells_one _ _ _ _⟩
  unfold paint
  simp

set_option maxRecDepth 100000 in
/-- A text as bytes, as 'go_simp' leaves it. -/
theorem upon_s2b {C : List Nat} {w0 w : World} {o0 o : Col} (_ : Stp C w0 o0 w o) {op : Oper} {a : Act} {K : Act → World → Prop} {Q : Exit → Act → World → Prop} (dd : Option Tmp) (hdd : op.dst = dd) (l : List UInt8) (hl : l.length ≤ 9223372036854775807) (c : Nat)
    (h : ∀ w' cap, Stp [] w o w' (paint o w.heap.size c) → RdB w' (paint o w.heap.size c) c (.slice (some ⟨w.heap.size, 0, none⟩) l.length cap) l → K (a.put dd (.slice (some ⟨w.heap.size, 0, none⟩) l.length cap)) w') : Oper.upon Try.prog op a K Q (((convert 9 22 (.string ⟨l.toArray⟩)).run Try.prog w).andThen fun x w' => .ok (.value x) w') := by
  subst hdd
  have hsz : (⟨l.toArray⟩ : ByteArray).size = l.length := by simp [ByteArray.size]
  have hrun := run_bytes_of_string (P := Try.prog) w 9 22 5 ⟨l.toArray⟩ Try.underlying9 Try.underlying22 Try.underlying5
  rw [hsz] at hrun
  obtain ⟨CP, hCP⟩ : ∃ CP, grownCap w l.length 0 5 = CP := ⟨_, rfl⟩
  have hle : l.length ≤ CP := by rw [← hCP]; exact grownCap_ge _ _ _ _
  rw [hCP] at hrun
  have s1 : Stp [] w o (w.drew.alloc (.cells (bytesRow ⟨l.toArray⟩ CP) 5 ((bytesRow ⟨l.toArray⟩ CP).size, (bytesRow ⟨l.toArray⟩ CP).size + 1))) (paint o w.heap.size c) := ((Stp.refl [] w o).drew).alloc _ c
  have hfin := h _ CP s1 (by
    refine ⟨by rw [vbs_length, Nat.mul_one], hl, vbs_one _, some ⟨w.heap.size, 0, none⟩, CP, rfl, hle, by simp, fun _ => ⟨_, rfl, paint_at _ _ _, by rw [World.size_alloc]; exact Nat.lt_succ_self _, fun j u hu => ?_⟩⟩
    have hj : j < l.length := by
      have := (List.getElem?_eq_some_iff.1 hu).1
      rwa [vbs_length] at this
    rw [Addr.add_lit, Nat.zero_add]
    refine (World.cell?_alloc_mark w.drew _ _ _ j).trans ?_
    rw [bytesRow_at _ _ _ (by simpa using hj)]
    rw [vbs_at hj] at hu
    simpa using hu)
  rw [hrun]
  exact hfin
theorem at_num {C : List Nat} {w0 w : World} {o0 o : Col} (_ : Stp C w0 o0 w o) (e0 : Nat) (x : Int) : Calls Try.prog 56 #[.int .i64 x] w (Post [] w o fun r w' o' => OwnB w' o' e0 r (enc (clamp x))) := rfnum_calls e0 x w o
set_option maxRecDepth 100000 in
/-- 'append' of bytes, as one step of a region that draws. -/
theorem step_appB {w : World} {o : Col} {ops : Array Oper} {op : Oper} {a : Act} {K : Act → World → Prop} {Q : Exit → Act → World → Prop} {E : Prop} {c c2 : Nat} {v x : Value} {l m : List UInt8} (s y : Operand) (dd : Option Tmp) (hdd : op.dst = dd)
    (hgd : op.guard = none) (hop : op.op = .call { callee := .builtin .append, args := #[s, y], argTypes := #[22, 22] })
    (hown : OwnB w o c v l) (hrd : RdB w o c2 x m) (hs : a.eval s = v) (hx : a.eval y = x) (hb : l.length + m.length ≤ 140737488355328)
    (h : ∀ A' n cap' w' o', n = l.length + m.length → Stp [c] w o w' o' → OwnB w' o' c (.slice A' n cap') (l ++ m) → K (a.put dd (.slice A' n cap')) w') :
    if Region.wanted op (yielded ops a.tmps) = true then Oper.wp Try.prog op a w K Q else E := by
  subst hdd
  rw [if_pos (by simp [Region.wanted, hgd])]
  have h : ∀ v' w', Stp [c] w o w' (paint o w.heap.size c) → Own w' (paint o w.heap.size c) c 5 1 v' (l.length + m.length) (vbs l ++ vbs m) → K (a.put op.dst v') w' := by
    intro v' w' h1 h2
    obtain ⟨A', cap', rfl⟩ := h2.shape
    exact h _ _ _ _ _ rfl h1 (by unfold OwnB; rw [vbs_append, List.length_append]; exact h2)
  obtain ⟨i, hi, hz, hsz, hby⟩ := slB.info
  obtain ⟨hl, _, h1, A, cap, rfl, hmc, hA, hcells⟩ := hrd
  have hone : ∀ u ∈ vbs l ++ vbs m, u.oneCell' = true := by
    intro u hu
    rcases List.mem_append.1 hu with hu | hu
    · exact hown.one u hu
    · exact h1 u hu
  cases A with
  | some ad =>
    have hsrc : ∀ j u, (vbs m)[j]? = some u → w.cell? (ad.add j) = some u := by
      intro j u hu
      have hj := (List.getElem?_eq_some_iff.1 hu).1
      have hm : 0 < m.length := Nat.pos_of_ne_zero (fun e => by rw [hl, e] at hj; omega)
      obtain ⟨a, e, _, _, hc⟩ := hcells hm
      injection e with e
      subst e
      exact hc j u hu
    obtain ⟨v', w', hr, o1, g1, n1, a1⟩ := run_app (P := Try.prog) w 22 op.type 5 i _ 1 1 slB.under hi hz hsz hby slB.zsz slB.pos v l.length (vbs l) hown.own ad m.length cap (vbs m) hl hsrc h1 (by simp only [maxLen]; omega) (by omega)
    have key := h v' w' (Stp.grown (Stp.refl _ _ _) g1 (fun k hk => by rw [hown.col k hk]; simp) c) ⟨o1, hone, fun k hk => ?_⟩
    · unfold Oper.wp
      simp only [execOp, hop, resolve, invoke, builtin, Sem.run_bind, Sem.run_pure, Result.andThen_ok, List.map_toArray, List.map_cons, List.map_nil, hs, hx, hr]
      exact key
    · rcases a1 with a1 | a1
      · rw [a1] at hk
        rw [paint_lt (hown.lt hk)]
        exact hown.col k hk
      · rw [a1] at hk
        injection hk with hk
        subst hk
        exact paint_at _ _ _
  | none =>
    have hc0 := hA rfl
    subst hc0
    have hm : m.length = 0 := by omega
    have hnews : m = [] := List.eq_nil_of_length_eq_zero hm
    subst hnews
    have hrun := run_app_none (P := Try.prog) w 22 op.type 5 i 1 slB.under hi _ l.length (vbs l) hown.own
    unfold Oper.wp
    simp [execOp, hop, resolve, invoke, builtin, hs, hx, hrun, Result.andThen]
    refine h v w ⟨rfl, rfl, rfl, Nat.le_refl _, fun k hk => paint_lt hk, fun _ _ _ => rfl⟩ ⟨by simpa [vbs] using hown.own, hone, fun k hk => ?_⟩
    rw [paint_lt (hown.lt hk)]
    exact hown.col k hk

set_option maxHeartbeats 4000000 in
set_option maxRecDepth 100000 in
theorem xrecord_calls (c0 e0 : Nat) (t : BS) (vm : Value) (w : World) (o : Col) (hm : RdB w o c0 vm t.mind) (hsum : t.sum.length = 32) (hnl : t.name.length ≤ 100000) (hml : t.mind.length ≤ 100000) :
    Calls Try.prog 74 #[.agg (cellsBS t vm).toArray] w (Post [] w o fun r w' o' => OwnB w' o' e0 r (recB t)) := by
  obtain ⟨Am, capm, rfl, _, _⟩ := hm.shape
  obtain ⟨c, hc1, _, hcf⟩ := fresh o w.heap.size [c0]
  simp only [List.mem_cons, List.not_mem_nil, or_false, not_or] at hc1
  obtain ⟨e, he1, _, hef⟩ := fresh o w.heap.size [c0, c]
  simp only [List.mem_cons, List.not_mem_nil, or_false, not_or] at he1
  obtain ⟨f, hf1, _, hff⟩ := fresh o w.heap.size [c0, c, e]
  simp only [List.mem_cons, List.not_mem_nil, or_false, not_or] at hf1
  have SB := Xb.new w o e t (.slice Am t.mind.length capm) hsum
  have s1 : Stp [] w o (w.alloc (.cells (cellsBS t (.slice Am t.mind.length capm)).toArray 72)) (paint o w.heap.size e) := (Stp.refl [] w o).alloc _ e
  have m1 := hm.stp s1 (by simp)
  obtain ⟨V, hV⟩ : ∃ V, (cellsBS t (.slice Am t.mind.length capm)).toArray = V := ⟨_, rfl⟩
  rw [hV] at SB s1 m1 ⊢
  obtain ⟨w1, hw1⟩ : ∃ w1, w.alloc (.cells V 72) = w1 := ⟨_, rfl⟩
  obtain ⟨o1, ho1⟩ : ∃ o1, paint o w.heap.size e = o1 := ⟨_, rfl⟩
  obtain ⟨B, hB⟩ : ∃ B, w.heap.size = B := ⟨_, rfl⟩
  rw [hw1, ho1] at SB s1 m1
  rw [hB] at SB
  have st1 : Stp [c] w o w1 o1 := s1.none
  have SBd := SB.stp (Stp.refl [] w1 o1).drew (by simp)
  have m1d := m1.stp (Stp.refl [] w1 o1).drew (by simp)
  have st1d : Stp [c] w o w1.drew o1 := st1.drew
  have c0' := SBd.c0
  have c1' := SBd.c1
  have s3 : Stp [] w1 o1 ((w1.alloc (.cells #[.int .i64 t.bank, .int .i64 t.size] 3)).drew) (paint o1 w1.heap.size f) := ((Stp.refl [] w1 o1).alloc _ f).drew
  have m3 := m1.stp s3 (by simp)
  have SB3 := SB.stp s3 (by simp)
  have n3 : Rd ((w1.alloc (.cells #[.int .i64 t.bank, .int .i64 t.size] 3)).drew) (paint o1 w1.heap.size f) f 1 (.slice (some ⟨w1.heap.size, 0, none⟩) 2 2) 2 [.int .i64 t.bank, .int .i64 t.size] := (Rd.new w1 o1 f #[.int .i64 t.bank, .int .i64 t.size] _ rfl 2 rfl (by omega) (by simp [Value.oneCell']) 3 _ rfl).stp (Stp.refl [] _ _).drew (by simp)
  have st3 : Stp [c] w o _ _ := st1.trans s3.none
  have d0 := SB3.c0
  have d1 := SB3.c1
  have hS1 := Lib.hid (show w1.drew.cell? ⟨B, 0, none⟩ = some (.int .i64 t.bank) ∧ w1.drew.cell? ⟨B, 1, none⟩ = some (.int .i64 t.size) from ⟨c0', c1'⟩)
  have hS3 := Lib.hid (show (w1.alloc (.cells #[.int .i64 t.bank, .int .i64 t.size] 3)).drew.cell? ⟨B, 0, none⟩ = some (.int .i64 t.bank) ∧ (w1.alloc (.cells #[.int .i64 t.bank, .int .i64 t.size] 3)).drew.cell? ⟨B, 1, none⟩ = some (.int .i64 t.size) from ⟨d0, d1⟩)
  replace hV := Lib.hid hV
  replace hw1 := Lib.hid hw1
  replace ho1 := Lib.hid ho1
  replace hB := Lib.hid hB
  replace SB := Lib.hid SB
  replace SBd := Lib.hid SBd
  replace SB3 := Lib.hid SB3
  replace m1 := Lib.hid m1
  replace m1d := Lib.hid m1d
  replace m3 := Lib.hid m3
  replace n3 := Lib.hid n3
  replace hm := Lib.hid hm
  replace s1 := Lib.hid s1
  replace s3 := Lib.hid s3
  replace st1 := Lib.hid st1
  replace st1d := Lib.hid st1d
  replace st3 := Lib.hid st3
  clear d0 d1 c0' c1'
  have hS4 := hS1
  have hS5 := hS1
  go_enter Try.func74, Try.ntmps74
  go_wp2_with fail
  rw [hw1.out, hB.out]
  go_region_held_law (fun w' => w'.cell? ⟨B, 0, none⟩ = some (.int .i64 t.bank) ∧ w'.cell? ⟨B, 1, none⟩ = some (.int .i64 t.size)) (first | with_reducible exact hS1.out | with_reducible exact hS3.out | with_reducible exact hS4.out | with_reducible exact hS5.out) (first
    | (go_at_call 87
       refine (rfnums_calls f c _ [t.bank, t.size] _ _ n3.out (by simp)).mono ?_
       rintro ex w4 ⟨r, o4, rfl, s4, q4⟩
       have SB4 := SB3.out.stp s4 (by simp)
       have m4 := Lib.hid (m3.out.stp s4 (by simp))
       have st4 := Lib.hid (st3.out.trans s4.none)
       have hsl := Lib.hid SB4.rd
       have hS4 := Lib.hid (show w4.cell? ⟨B, 0, none⟩ = some (.int .i64 t.bank) ∧ w4.cell? ⟨B, 1, none⟩ = some (.int .i64 t.size) from ⟨SB4.c0, SB4.c1⟩)
       replace SB4 := Lib.hid SB4
       replace q4 := Lib.hid q4
       replace s4 := Lib.hid s4)
    | (refine step_appB _ _ (some 12) rfl rfl rfl q4.out hsl.out rfl rfl (by have := encs_len [t.bank, t.size]; simp at this; omega) (fun A5 n5 cap5 w5 o5 hn5 s5 q5 => ?_)
       replace hn5 := Lib.hid hn5
       have SB5 := SB4.out.stp s5 (by simpa using he1.2)
       have hS5 := Lib.hid (show w5.cell? ⟨B, 0, none⟩ = some (.int .i64 t.bank) ∧ w5.cell? ⟨B, 1, none⟩ = some (.int .i64 t.size) from ⟨SB5.c0, SB5.c1⟩)
       have m5 := Lib.hid (m4.out.stp s5 (by simpa using fun x => hc1 x.symm))
       have st5 := Lib.hid (st4.out.trans s5)
       replace SB5 := Lib.hid SB5
       replace q5 := Lib.hid q5
       replace s5 := Lib.hid s5))
  have SBx := Lib.hid (SB5.out.stp (Stp.refl [] w5 o5).drew (by simp))
  have mx := Lib.hid (m5.out.stp (Stp.refl [] w5 o5).drew (by simp))
  have stx := Lib.hid st5.out.drew
  have qx := Lib.hid (OwnB.stp q5.out (Stp.refl [] w5 o5).drew (by simp))
  have hSx := Lib.hid (show w5.drew.cell? ⟨B, 34, none⟩ = some (.int .i64 t.counter) ∧ w5.drew.cell? ⟨B, 35, none⟩ = some (.string ⟨t.name.toArray⟩) from ⟨SBx.out.c34, SBx.out.c35⟩)
  have hfc : ¬ c = f := fun x => hf1.2.1 x.symm
  have hcc : ¬ c0 = c := fun x => hc1 x.symm
  have hl1 : (encs [t.bank, t.size]).length ≤ 18 := by have := encs_len [t.bank, t.size]; simpa using this
  have hl2 : (enc (clamp t.counter)).length ≤ 9 := enc_len9 t.counter
  have hl3 : (enc (clamp t.name.length)).length ≤ 9 := enc_len9 t.name.length
  have hl4 : (enc (clamp t.mind.length)).length ≤ 9 := enc_len9 t.mind.length
  clear hS1 hS3 hS4 hS5
  go_wp2_with fail
  go_region_held_law (fun w' => w'.cell? ⟨B, 34, none⟩ = some (.int .i64 t.counter) ∧ w'.cell? ⟨B, 35, none⟩ = some (.string ⟨t.name.toArray⟩)) (first | with_reducible exact hSx.out) (first
    | (go_at_call 56
       refine (at_num stx.out f t.counter).mono ?_
       rintro ex w6 ⟨r, o6, rfl, s6, n6⟩
       obtain ⟨A6, cap6, rfl⟩ := Own.shape n6
       have SBx := Lib.hid (SBx.out.stp s6 (by simp))
       have mx := Lib.hid (mx.out.stp s6 (by simp))
       have stx := Lib.hid (stx.out.trans s6.none)
       have qx := Lib.hid (OwnB.stp qx.out s6 (by simp))
       have nx := Lib.hid n6
       (try (have bx := Lib.hid (bx.out.stp s6 (by simp))))
       have hSx := Lib.hid (show w6.cell? ⟨B, 34, none⟩ = some (.int .i64 t.counter) ∧ w6.cell? ⟨B, 35, none⟩ = some (.string ⟨t.name.toArray⟩) from ⟨SBx.out.c34, SBx.out.c35⟩)
       clear s6 n6)
    | (refine step_appB _ _ (some 17) rfl rfl rfl qx.out (OwnB.rd nx.out) rfl rfl (by simp only [List.length_append]; omega) (fun A7 n7 cap7 w7 o7 hn7 s7 q7 => ?_)
       replace hn7 := Lib.hid hn7
       have SBx := Lib.hid (SBx.out.stp s7 (by simpa using he1.2))
       have mx := Lib.hid (mx.out.stp s7 (by simpa using hcc))
       have stx := Lib.hid (stx.out.trans s7)
       have qx := Lib.hid q7
       (try (have bx := Lib.hid (bx.out.stp s7 (by simpa using hcc))))
       have hSx := Lib.hid (show w7.cell? ⟨B, 34, none⟩ = some (.int .i64 t.counter) ∧ w7.cell? ⟨B, 35, none⟩ = some (.string ⟨t.name.toArray⟩) from ⟨SBx.out.c34, SBx.out.c35⟩)
       clear s7 q7)
    | (refine upon_s2b stx.out (some 20) rfl t.name (by omega) c0 (fun w8 cap8 s8 r8 => ?_)
       have SBx := Lib.hid (SBx.out.stp s8 (by simp))
       have mx := Lib.hid (mx.out.stp s8 (by simp))
       have stx := Lib.hid (stx.out.trans s8.none)
       have qx := Lib.hid (OwnB.stp qx.out s8 (by simp))
       (try (have nx := Lib.hid (OwnB.stp nx.out s8 (by simp))))
       have bx := Lib.hid r8
       have hSx := Lib.hid (show w8.cell? ⟨B, 34, none⟩ = some (.int .i64 t.counter) ∧ w8.cell? ⟨B, 35, none⟩ = some (.string ⟨t.name.toArray⟩) from ⟨SBx.out.c34, SBx.out.c35⟩)
       clear s8 r8)
    | (go_at_call 57
       refine (rfbytes_calls c0 f _ t.name _ _ bx.out (by omega)).mono ?_
       rintro ex w9 ⟨r, o9, rfl, s9, n9⟩
       obtain ⟨A9, cap9, rfl⟩ := Own.shape n9
       obtain ⟨N9, hN9⟩ : ∃ N, (enc (clamp t.name.length) ++ t.name).length = N := ⟨_, rfl⟩
       unfold OwnB at n9
       rw [hN9] at n9 ⊢
       replace hN9 := Lib.hid hN9
       have SBx := Lib.hid (SBx.out.stp s9 (by simp))
       have mx := Lib.hid (mx.out.stp s9 (by simp))
       have stx := Lib.hid (stx.out.trans s9.none)
       have qx := Lib.hid (OwnB.stp qx.out s9 (by simp))
       have yx : Hid (RdB w9 o9 f (.slice A9 N9 cap9) (enc (clamp t.name.length) ++ t.name)) := Lib.hid (by unfold RdB; rw [hN9.out]; exact Own.rd n9)
       have hSx := Lib.hid (show w9.cell? ⟨B, 34, none⟩ = some (.int .i64 t.counter) ∧ w9.cell? ⟨B, 35, none⟩ = some (.string ⟨t.name.toArray⟩) from ⟨SBx.out.c34, SBx.out.c35⟩)
       clear s9 n9)
    | (refine step_appB _ _ (some 22) rfl rfl rfl qx.out yx.out rfl rfl (by simp only [List.length_append]; omega) (fun Aa na capa wa oa hna sa qa => ?_)
       replace hna := Lib.hid hna
       have SBx := Lib.hid (SBx.out.stp sa (by simpa using he1.2))
       have mx := Lib.hid (mx.out.stp sa (by simpa using hcc))
       have stx := Lib.hid (stx.out.trans sa)
       have qx := Lib.hid qa
       have hSx := Lib.hid (show wa.cell? ⟨B, 34, none⟩ = some (.int .i64 t.counter) ∧ wa.cell? ⟨B, 35, none⟩ = some (.string ⟨t.name.toArray⟩) from ⟨SBx.out.c34, SBx.out.c35⟩)
       clear sa qa))
  all_goals
    have c36 := SBx.out.c36
    have hby := rfbytes_calls c0 f _ t.mind wa oa mx.out (by omega)
    go_wp2_with fail
    refine hby.mono ?_
    clear hby c36
    rintro ex wb ⟨r, ob, rfl, sb, nb⟩
    obtain ⟨Ab, capb, rfl⟩ := Own.shape nb
    obtain ⟨Nb, hNb⟩ : ∃ N, (enc (clamp t.mind.length) ++ t.mind).length = N := ⟨_, rfl⟩
    unfold OwnB at nb
    rw [hNb] at nb ⊢
    replace hNb := Lib.hid hNb
    have qb := Lib.hid (OwnB.stp qx.out sb (by simp))
    have stb := Lib.hid (stx.out.trans sb.none)
    have yb : Hid (RdB wb ob f (.slice Ab Nb capb) (enc (clamp t.mind.length) ++ t.mind)) := Lib.hid (by unfold RdB; rw [hNb.out]; exact Own.rd nb)
    clear sb nb
    go_wp2_with (refine holdAt 27 ?_)
    apply Hold.mk
    refine appB _ _ rfl rfl qb.out yb.out rfl rfl (by simp only [List.length_append]; omega) fun Ac capc wc oc sc qc _ _ => ?_
    obtain ⟨NL, hNL⟩ : ∃ N, (encs [t.bank, t.size] ++ t.sum ++ enc (clamp t.counter) ++ (enc (clamp t.name.length) ++ t.name)).length + (enc (clamp t.mind.length) ++ t.mind).length = N := ⟨_, rfl⟩
    rw [hNL] at qc ⊢
    replace hNL := Lib.hid hNL
    have hrec : encs [t.bank, t.size] ++ t.sum ++ enc (clamp t.counter) ++ (enc (clamp t.name.length) ++ t.name) ++ (enc (clamp t.mind.length) ++ t.mind) = recB t := by simp [recB, encs]
    have hf : OwnB wc (paint o w.heap.size e0) e0 _ _ := Own.fresh qc (stb.out.trans sc) hcf e0
    have stc := Lib.hid (((stb.out.trans sc).drop hcf).repaint e0)
    rw [hrec] at hf
    replace hf := Lib.hid hf
    clear sc qc
    go_wp2
    go_ret
    exact Post.mk stc.out hf.out
end Go.Proofs.Ytpjnmijfmfgdpaa
