/- Banks (chapter 13): a state as a block; record: the walk. -/
import Derived.Test.YtpjnmijfmfgdpaaBankB
import Derived.Test.YtpjnmijfmfgdpaaSlotW
namespace Go.Proofs.Ytpjnmijfmfgdpaa
set_option linter.unusedVariables false
set_option linter.unusedSimpArgs false
open Go.RowKit

/-- The cells of a state; vm: the slice of its mind. -/
def cellsBS (t : BS) (vm : Value) : List Value := .int .i64 t.bank :: .int .i64 t.size :: (vbs t.sum ++ [.int .i64 t.counter, .string ⟨t.name.toArray⟩, vm])
theorem cellsBS_sum {t : BS} {vm : Value} (h : t.sum.length = 32) {j : Nat} (hj : j < 32) : (cellsBS t vm)[2 + j]? = (vbs t.sum)[j]? := by
  rw [cellsBS, show 2 + j = j + 1 + 1 by omega, List.getElem?_cons_succ, List.getElem?_cons_succ, List.getElem?_append_left (by rw [vbs_length, h]; exact hj)]
theorem cellsBS_rest {t : BS} {vm : Value} (h : t.sum.length = 32) (j : Nat) : (cellsBS t vm)[34 + j]? = [Value.int .i64 t.counter, .string ⟨t.name.toArray⟩, vm][j]? := by
  rw [cellsBS, show 34 + j = 32 + j + 1 + 1 by omega, List.getElem?_cons_succ, List.getElem?_cons_succ, List.getElem?_append_right (by rw [vbs_length, h]; omega), vbs_length, h, show 32 + j - 32 = j by omega]
theorem cellsBS_len {t : BS} {vm : Value} (h : t.sum.length = 32) : (cellsBS t vm).length = 37 := by
  simp [cellsBS, vbs, h]
/-- A state's block. -/
structure Sb (w : World) (o : Col) (c p : Nat) (t : BS) (vm : Value) : Prop where
  blk : w.heap[p]? = some (.cells (cellsBS t vm).toArray 59 (0, 0))
  col : o p = c
  sum : t.sum.length = 32
theorem Sb.stp {C : List Nat} {w w1 : World} {o o1 : Col} {c p : Nat} {t : BS} {vm : Value} (h : Sb w o c p t vm) (hs : Stp C w o w1 o1) (hn : c ∉ C) : Sb w1 o1 c p t vm :=
  ⟨hs.blk h.blk (by rw [h.col]; exact hn), (hs.colb h.blk).trans h.col, h.sum⟩
theorem Sb.cell {w : World} {o : Col} {c p : Nat} {t : BS} {vm : Value} (h : Sb w o c p t vm) (j : Nat) : w.cell? ⟨p, j, none⟩ = (cellsBS t vm)[j]? := by
  rw [blk_cell h.blk]
  simp
theorem Sb.c0 {w : World} {o : Col} {c p : Nat} {t : BS} {vm : Value} (h : Sb w o c p t vm) : w.cell? ⟨p, 0, none⟩ = some (.int .i64 t.bank) := h.cell 0
theorem Sb.c1 {w : World} {o : Col} {c p : Nat} {t : BS} {vm : Value} (h : Sb w o c p t vm) : w.cell? ⟨p, 1, none⟩ = some (.int .i64 t.size) := h.cell 1
theorem Sb.c34 {w : World} {o : Col} {c p : Nat} {t : BS} {vm : Value} (h : Sb w o c p t vm) : w.cell? ⟨p, 34, none⟩ = some (.int .i64 t.counter) := (h.cell 34).trans (cellsBS_rest h.sum 0)
theorem Sb.c35 {w : World} {o : Col} {c p : Nat} {t : BS} {vm : Value} (h : Sb w o c p t vm) : w.cell? ⟨p, 35, none⟩ = some (.string ⟨t.name.toArray⟩) := (h.cell 35).trans (cellsBS_rest h.sum 1)
theorem Sb.c36 {w : World} {o : Col} {c p : Nat} {t : BS} {vm : Value} (h : Sb w o c p t vm) : w.cell? ⟨p, 36, none⟩ = some vm := (h.cell 36).trans (cellsBS_rest h.sum 2)
theorem Sb.free {w : World} {o : Col} {c p : Nat} {t : BS} {vm : Value} (h : Sb w o c p t vm) (j : Nat) : w.frozen? ⟨p, j, none⟩ = false := blk_free h.blk j
/-- The hash, in the middle of a state's block. -/
theorem Sb.rd {w : World} {o : Col} {c p : Nat} {t : BS} {vm : Value} (h : Sb w o c p t vm) : RdB w o c (.slice (some ⟨p, 2, none⟩) 32 32) t.sum := by
  unfold RdB
  rw [h.sum]
  refine ⟨by rw [vbs_length, h.sum], by omega, vbs_one _, some ⟨p, 2, none⟩, 32, rfl, Nat.le_refl _, by simp, fun _ => ⟨_, rfl, h.col, (Array.getElem?_eq_some_iff.1 h.blk).1, fun j u hu => ?_⟩⟩
  have hj : j < 32 := by
    have := (List.getElem?_eq_some_iff.1 hu).1
    rwa [vbs_length, h.sum] at this
  rw [Addr.add_lit, h.cell, cellsBS_sum h.sum hj]
  exact hu
/-- A text as bytes. -/
theorem s2b {w : World} {o : Col} {ops : Array Oper} {rest : List Oper} {op : Oper} {a : Act} {Q : Exit → Act → World → Prop} (x : Operand) (hgd : op.guard = none) (hop : op.op = .convert 9 22 x) (l : List UInt8) (hl : l.length ≤ 9223372036854775807) (c : Nat) (hx : a.eval x = .string ⟨l.toArray⟩)
    (h : ∀ w' cap, Stp [] w o w' (paint o w.heap.size c) → RdB w' (paint o w.heap.size c) c (.slice (some ⟨w.heap.size, 0, none⟩) l.length cap) l → w'.heap.size = w.heap.size + 1 → wpList Try.prog ops Q rest (a.put op.dst (.slice (some ⟨w.heap.size, 0, none⟩) l.length cap)) w') : wpList Try.prog ops Q (op :: rest) a w := by
  have hsz : (⟨l.toArray⟩ : ByteArray).size = l.length := by simp [ByteArray.size]
  have hrun := run_bytes_of_string (P := Try.prog) w 9 22 5 ⟨l.toArray⟩ Try.underlying9 Try.underlying22 Try.underlying5
  rw [hsz] at hrun
  obtain ⟨CP, hCP⟩ : ∃ CP, grownCap w l.length 0 5 = CP := ⟨_, rfl⟩
  have hle : l.length ≤ CP := by rw [← hCP]; exact grownCap_ge _ _ _ _
  rw [hCP] at hrun
  have s1 : Stp [] w o (w.drew.alloc (.cells (bytesRow ⟨l.toArray⟩ CP) 5 ((bytesRow ⟨l.toArray⟩ CP).size, (bytesRow ⟨l.toArray⟩ CP).size + 1))) (paint o w.heap.size c) := ((Stp.refl [] w o).drew).alloc _ c
  have hfin := h _ CP s1 (by
    refine ⟨by rw [vbs_length, Nat.mul_one], hl, vbs_one _, some ⟨w.heap.size, 0, none⟩, CP, rfl, hle, by simp, fun _ => ⟨_, rfl, paint_at _ _ _, by rw [World.size_alloc]; exact Nat.lt_succ_self _, fun j u hu => ?_⟩⟩
    have hj : j < l.length := by
      have := (List.getElem?_eq_some_iff.1 hu).1
      rwa [vbs_length] at this
    rw [Addr.add_lit, Nat.zero_add]
    refine (World.cell?_alloc_mark w.drew _ _ _ j).trans ?_
    rw [bytesRow_at _ _ _ (by simpa using hj)]
    rw [vbs_at hj] at hu
    simpa using hu) (World.size_alloc _ _)
  refine wpList_plain hgd fun K hK => ?_
  unfold Oper.wp execOp
  simp only [hop, hx, hrun, Sem.run_bind, Sem.run_pure, Result.andThen_ok]
  exact hK _ _ hfin
theorem Sb.new (w : World) (o : Col) (c : Nat) (t : BS) (vm : Value) (hs : t.sum.length = 32) : Sb (w.alloc (.cells (cellsBS t vm).toArray 59)) (paint o w.heap.size c) c w.heap.size t vm :=
  ⟨heap_alloc_new _ _, paint_at _ _ _, hs⟩

set_option maxHeartbeats 4000000 in
set_option maxRecDepth 100000 in
theorem record_calls (c0 e0 : Nat) (t : BS) (vm : Value) (w : World) (o : Col) (hm : RdB w o c0 vm t.mind) (hsum : t.sum.length = 32) (hnl : t.name.length ≤ 100000) (hml : t.mind.length ≤ 100000) :
    Calls Try.prog 68 #[.agg (cellsBS t vm).toArray] w (Post [] w o fun r w' o' => OwnB w' o' e0 r (recB t)) := by
  obtain ⟨Am, capm, rfl, _, _⟩ := hm.shape
  obtain ⟨c, hc1, _, hcf⟩ := fresh o w.heap.size [c0]
  simp only [List.mem_cons, List.not_mem_nil, or_false, not_or] at hc1
  obtain ⟨e, he1, _, hef⟩ := fresh o w.heap.size [c0, c]
  simp only [List.mem_cons, List.not_mem_nil, or_false, not_or] at he1
  obtain ⟨f, hf1, _, hff⟩ := fresh o w.heap.size [c0, c, e]
  simp only [List.mem_cons, List.not_mem_nil, or_false, not_or] at hf1
  have SB := Sb.new w o e t (.slice Am t.mind.length capm) hsum
  have s1 : Stp [] w o (w.alloc (.cells (cellsBS t (.slice Am t.mind.length capm)).toArray 59)) (paint o w.heap.size e) := (Stp.refl [] w o).alloc _ e
  have m1 := hm.stp s1 (by simp)
  obtain ⟨V, hV⟩ : ∃ V, (cellsBS t (.slice Am t.mind.length capm)).toArray = V := ⟨_, rfl⟩
  rw [hV] at SB s1 m1 ⊢
  obtain ⟨w1, hw1⟩ : ∃ w1, w.alloc (.cells V 59) = w1 := ⟨_, rfl⟩
  obtain ⟨o1, ho1⟩ : ∃ o1, paint o w.heap.size e = o1 := ⟨_, rfl⟩
  have z1 : w1.heap.size = w.heap.size + 1 := by rw [← hw1]; exact World.size_alloc _ _
  obtain ⟨B, hB⟩ : ∃ B, w.heap.size = B := ⟨_, rfl⟩
  rw [hw1, ho1] at SB s1 m1
  rw [hB] at SB z1
  have W2 := Wr.new w1 o1 c
  have s2 : Stp [] w1 o1 (w1.alloc (.cells #[.slice none 0 0] 88)) (paint o1 w1.heap.size c) := (Stp.refl [] w1 o1).alloc _ c
  have m2 := m1.stp s2 (by simp)
  have SB2 := SB.stp s2 (by simp)
  have z2 : (w1.alloc (.cells #[.slice none 0 0] 88)).heap.size = w1.heap.size + 1 := World.size_alloc _ _
  obtain ⟨w2, hw2⟩ : ∃ w2, w1.alloc (.cells #[.slice none 0 0] 88) = w2 := ⟨_, rfl⟩
  obtain ⟨o2, ho2⟩ : ∃ o2, paint o1 w1.heap.size c = o2 := ⟨_, rfl⟩
  rw [hw2, ho2] at W2 s2 m2 SB2
  rw [hw2, z1] at z2
  rw [z1] at W2
  have c0' := SB2.c0
  have c1' := SB2.c1
  have s3 : Stp [] w2 o2 (w2.alloc (.cells #[.int .i64 t.bank, .int .i64 t.size] 3)) (paint o2 w2.heap.size f) := (Stp.refl [] w2 o2).alloc _ f
  have W3 := W2.stp s3 (by simp)
  have m3 := m2.stp s3 (by simp)
  have SB3 := SB2.stp s3 (by simp)
  have n3 : Rd (w2.alloc (.cells #[.int .i64 t.bank, .int .i64 t.size] 3)) (paint o2 w2.heap.size f) f 1 (.slice (some ⟨w2.heap.size, 0, none⟩) 2 2) 2 [.int .i64 t.bank, .int .i64 t.size] := Rd.new w2 o2 f #[.int .i64 t.bank, .int .i64 t.size] _ rfl 2 rfl (by omega) (by simp [Value.oneCell']) 3 _ rfl
  have st3 : Stp [c] w o _ _ := (s1.none.trans s2.none).trans s3.none
  replace hV := Lib.hid hV
  replace hw1 := Lib.hid hw1
  replace ho1 := Lib.hid ho1
  replace hw2 := Lib.hid hw2
  replace ho2 := Lib.hid ho2
  replace hB := Lib.hid hB
  replace z1 := Lib.hid z1
  replace z2 := Lib.hid z2
  replace SB := Lib.hid SB
  replace SB2 := Lib.hid SB2
  replace SB3 := Lib.hid SB3
  replace W2 := Lib.hid W2
  replace W3 := Lib.hid W3
  replace m1 := Lib.hid m1
  replace m2 := Lib.hid m2
  replace m3 := Lib.hid m3
  replace n3 := Lib.hid n3
  replace hm := Lib.hid hm
  replace s1 := Lib.hid s1
  replace s2 := Lib.hid s2
  replace s3 := Lib.hid s3
  replace st3 := Lib.hid st3
  go_enter Try.func68, Try.ntmps68
  go_wp2_with (refine holdAt 4 ?_)
  apply Hold.mk
  rw [hw1.out, hB.out]
  rw [hw2.out]
  go_wp2_with fail
  refine (wnums_calls c f (B + 1) _ _ [] [t.bank, t.size] _ _ W3.out n3.out hf1.2.1 (by simp)).mono ?_
  rintro e' w4 ⟨r, o4, rfl, s4, rfl, v4, W4⟩
  rw [List.nil_append] at W4
  have SB4 := SB3.out.stp s4 (by simpa using he1.2)
  have m4 := Lib.hid (m3.out.stp s4 (by simpa using fun x => hc1 x.symm))
  have st4 := Lib.hid (st3.out.trans s4)
  have hsl := SB4.rd
  replace SB4 := Lib.hid SB4
  replace W4 := Lib.hid W4
  replace hsl := Lib.hid hsl
  clear s4 c0' c1'
  go_wp2_with fail
  refine (wraw_calls c e (B + 1) _ _ _ t.sum _ _ W4.out hsl.out (by have := encs_len [t.bank, t.size]; simp at this; omega)).mono ?_
  rintro e' w5 ⟨r, o5, rfl, s5, rfl, v5, W5⟩
  have SB5 := SB4.out.stp s5 (by simpa using he1.2)
  have m5 := m4.out.stp s5 (by simpa using fun x => hc1 x.symm)
  have st5 := Lib.hid (st4.out.trans s5)
  have c34 := SB5.c34
  have s6 : Stp [] w5 o5 (w5.alloc (.cells #[.int .i64 t.counter] 3)) (paint o5 w5.heap.size f) := (Stp.refl [] w5 o5).alloc _ f
  have W6 := Lib.hid (W5.stp s6 (by simp))
  have SB6 := Lib.hid (SB5.stp s6 (by simp))
  have m6 := Lib.hid (m5.stp s6 (by simp))
  have n6 : Rd (w5.alloc (.cells #[.int .i64 t.counter] 3)) (paint o5 w5.heap.size f) f 1 (.slice (some ⟨w5.heap.size, 0, none⟩) 1 1) 1 [.int .i64 t.counter] := Rd.new w5 o5 f #[.int .i64 t.counter] _ rfl 1 rfl (by omega) (by simp [Value.oneCell']) 3 _ rfl
  have st6 := Lib.hid (st5.out.trans s6.none)
  replace SB5 := Lib.hid SB5
  replace m5 := Lib.hid m5
  replace W5 := Lib.hid W5
  replace n6 := Lib.hid n6
  clear s5 s6
  go_wp2_with fail
  refine (wnums_calls c f (B + 1) _ _ _ [t.counter] _ _ W6.out n6.out hf1.2.1 (by have := encs_len [t.bank, t.size]; simp at this ⊢; omega)).mono ?_
  rintro e' w7 ⟨r, o7, rfl, s7, rfl, v7, W7⟩
  have SB7 := SB6.out.stp s7 (by simpa using he1.2)
  have m7 := Lib.hid (m6.out.stp s7 (by simpa using fun x => hc1 x.symm))
  have st7 := Lib.hid (st6.out.trans s7)
  have c35 := SB7.c35
  have c36 := SB7.c36
  have C36 := Lib.hid c36
  replace SB7 := Lib.hid SB7
  replace W7 := Lib.hid W7
  clear s7 c34
  go_wp2_with (refine holdAt 19 ?_)
  apply Hold.mk
  refine s2b (o := o7) _ rfl rfl t.name (by omega) c0 rfl fun w8 cap8 s8 r8 z8 => ?_
  have SB8 := SB7.out.stp s8 (by simp)
  have W8 := W7.out.stp s8 (by simp)
  have m8 := m7.out.stp s8 (by simp)
  have d36 := SB8.c36
  have n8 := RdRows.new2 w8 _ f c0 _ _ _ _ 22 _ rfl r8 m8
  have s9 : Stp [] w8 (paint o7 w7.heap.size c0) _ (paint (paint o7 w7.heap.size c0) w8.heap.size f) := (Stp.refl [] w8 _).alloc (.cells #[.slice (some ⟨w7.heap.size, 0, none⟩) t.name.length cap8, .slice Am t.mind.length capm] 22) f
  have W9 := Lib.hid (W8.stp s9 (by simp))
  have st9 := Lib.hid ((st7.out.trans s8.none).trans s9.none)
  replace SB8 := Lib.hid SB8
  replace W8 := Lib.hid W8
  replace m8 := Lib.hid m8
  replace r8 := Lib.hid r8
  replace n8 := Lib.hid n8
  replace z8 := Lib.hid z8
  clear s8 s9 c35 c36
  obtain ⟨G, hG⟩ : ∃ G, w7.heap.size = G := ⟨_, rfl⟩
  rw [hG] at n8 W9 st9 ⊢
  replace hG := Lib.hid hG
  go_wp2_with fail
  refine (wbytes_calls c f c0 (B + 1) _ _ _ [t.name, t.mind] _ _ W9.out n8.out hf1.2.1 (fun x => hc1 x.symm) (by have := encs_len [t.bank, t.size]; have h9 := encs_len [t.counter]; simp [wide] at this h9 ⊢; omega)).mono ?_
  rintro e' wa ⟨r, oa, rfl, sa, rfl, va, Wa⟩
  have sta := Lib.hid (st9.out.trans sa)
  have hrec : encs [t.bank, t.size] ++ t.sum ++ encs [t.counter] ++ encRows [t.name, t.mind] = recB t := by simp [recB, encRows]
  rw [hrec] at Wa
  replace Wa := Lib.hid Wa
  clear sa d36
  go_wp2_with fail
  refine (wout_calls c e0 (B + 1) _ _ _ _ Wa.out (by have := encs_len [t.bank, t.size]; have h9 := encs_len [t.counter]; have h8 := enc_len9 t.name.length; have h7 := enc_len9 t.mind.length; simp [recB] at this h9 ⊢; omega)).mono ?_
  rintro e' wb ⟨r, ob, rfl, sb, hb⟩
  obtain ⟨Ab, capb, rfl⟩ := Own.shape hb
  have stb := Lib.hid ((sta.out.trans sb.none).drop hcf)
  replace hb := Lib.hid hb
  clear sb
  go_wp2
  go_ret
  exact Post.mk stb.out hb.out
end Go.Proofs.Ytpjnmijfmfgdpaa
