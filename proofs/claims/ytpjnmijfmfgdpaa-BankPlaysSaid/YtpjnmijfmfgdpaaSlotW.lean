/- Slots (chapter 12): Pack, the walk. -/
import Derived.Test.YtpjnmijfmfgdpaaSlotP
import Derived.Test.YtpjnmijfmfgdpaaShaD
namespace Go.Proofs.Ytpjnmijfmfgdpaa
set_option linter.unusedVariables false
set_option linter.unusedSimpArgs false
open Go.RowKit

theorem Wr.new (w : World) (o : Col) (c : Nat) : Wr (w.alloc (.cells #[.slice none 0 0] 88)) (paint o w.heap.size c) c w.heap.size [] (.slice none 0 0) :=
  ⟨heap_alloc_new w _, paint_at _ _ _, OwnB.nil _ _ _⟩

set_option maxHeartbeats 4000000 in
set_option maxRecDepth 100000 in
theorem pack_calls (c0 e0 : Nat) (n : Int) (v : Value) (b : List UInt8) (w : World) (o : Col) (hb : RdB w o c0 v b) (hl : b.length ≤ 900000) :
    Calls Try.prog 18 #[.int .i64 n, v] w (Post [] w o fun r w' o' => OwnB w' o' e0 r (packS n b)) := by
  obtain ⟨c, hc1, _, hcf⟩ := fresh o w.heap.size [c0]
  simp only [List.mem_cons, List.not_mem_nil, or_false, not_or] at hc1
  obtain ⟨e, he1, _, hef⟩ := fresh o w.heap.size [c0, c]
  simp only [List.mem_cons, List.not_mem_nil, or_false, not_or] at he1
  obtain ⟨he0, hec⟩ := he1
  have hpl := packB_len n b
  have hpe : encs [n] ++ encRows [b] = packB n b := by simp [encs, encRows, packB]
  have W1 := Wr.new w o c
  have s1 : Stp [] w o (w.alloc (.cells #[.slice none 0 0] 88)) (paint o w.heap.size c) := (Stp.refl [] w o).alloc _ c
  have r1 := hb.stp s1 (by simp)
  have z1 : (w.alloc (.cells #[.slice none 0 0] 88)).heap.size = w.heap.size + 1 := World.size_alloc _ _
  obtain ⟨w1, hw1⟩ : ∃ w1, w.alloc (.cells #[.slice none 0 0] 88) = w1 := ⟨_, rfl⟩
  obtain ⟨o1, ho1⟩ : ∃ o1, paint o w.heap.size c = o1 := ⟨_, rfl⟩
  obtain ⟨p, hp⟩ : ∃ p, w.heap.size = p := ⟨_, rfl⟩
  rw [hw1, ho1] at W1 s1 r1
  rw [hp] at W1
  rw [hw1, hp] at z1
  have Hz1 := Lib.hid z1.symm
  clear z1
  have Hw1 := Lib.hid hw1
  have Hp := Lib.hid hp
  clear hw1 hp
  have s2 : Stp [] w1 o1 (w1.alloc (.cells #[.int .i64 n] 3)) (paint o1 w1.heap.size e) := (Stp.refl [] w1 o1).alloc _ e
  have W2 := W1.stp s2 (by simp)
  have r2 := r1.stp s2 (by simp)
  have n2 : Rd (w1.alloc (.cells #[.int .i64 n] 3)) (paint o1 w1.heap.size e) e 1 (.slice (some ⟨w1.heap.size, 0, none⟩) 1 1) 1 [.int .i64 n] := Rd.new w1 o1 e #[.int .i64 n] _ rfl 1 rfl (by omega) (by simp [Value.oneCell']) 3 _ rfl
  replace W1 := Lib.hid W1
  replace W2 := Lib.hid W2
  replace r1 := Lib.hid r1
  replace r2 := Lib.hid r2
  replace n2 := Lib.hid n2
  replace s1 := Lib.hid s1
  replace s2 := Lib.hid s2
  replace hb := Lib.hid hb
  replace hpl := Lib.hid hpl
  replace hpe := Lib.hid hpe
  obtain ⟨A, cap, rfl, hlc, hA⟩ := hb.out.shape
  go_enter Try.func18, Try.ntmps18
  go_wp2_with fail
  rw [Hw1.out, Hp.out, Hz1.out]
  refine (wnums_calls c e p _ _ [] [n] _ _ W2.out n2.out hec (by simp)).mono ?_
  rintro e' w3 ⟨r, o3, rfl, s3, rfl, v3, W3⟩
  rw [List.nil_append] at W3
  have r3 := r2.out.stp s3 (by simpa using fun x => hc1 x.symm)
  have s4 : Stp [] w3 o3 (w3.alloc (.cells #[.slice A b.length cap] 22)) (paint o3 w3.heap.size e) := (Stp.refl [] w3 o3).alloc _ e
  have W4 := W3.stp s4 (by simp)
  have r4 := r3.stp s4 (by simp)
  have n4 := RdRows.new1 w3 o3 e c0 (.slice A b.length cap) b 22 _ rfl r3
  have s5 : Stp [c] w o _ _ := ((s1.out.none.trans s2.out.none).trans s3).trans s4.none
  replace W3 := Lib.hid W3
  replace W4 := Lib.hid W4
  replace r3 := Lib.hid r3
  replace r4 := Lib.hid r4
  replace n4 := Lib.hid n4
  replace s3 := Lib.hid s3
  replace s4 := Lib.hid s4
  replace s5 := Lib.hid s5
  go_wp2_with fail
  refine (wbytes_calls c e c0 p _ _ (encs [n]) [b] _ _ W4.out n4.out hec (fun x => hc1 x.symm) (by have := hpl.out; have h9 := encs_len [n]; simp [wide] at h9 ⊢; omega)).mono ?_
  rintro e' w5 ⟨r, o5, rfl, s6, rfl, v5, W5⟩
  rw [hpe.out] at W5
  obtain ⟨M, hM⟩ : ∃ M, packB n b = M := ⟨_, rfl⟩
  have hMl : M.length ≤ 900018 := by rw [← hM]; have := hpl.out; omega
  rw [hM] at W5
  have hres : packS n b = M ++ sha M := by rw [packS, hM]
  have s7 := s5.out.trans s6
  replace W5 := Lib.hid W5
  replace s6 := Lib.hid s6
  replace s7 := Lib.hid s7
  replace hM := Lib.hid hM
  replace hres := Lib.hid hres
  go_wp2_with fail
  refine (wout_calls c e p _ M _ _ W5.out (by omega)).mono ?_
  rintro e' w6 ⟨r, o6, rfl, s8, h6⟩
  obtain ⟨A6, cap6, rfl⟩ := Own.shape h6
  have W6 := W5.out.stp s8 (by simp)
  have s9 := s7.out.trans s8.none
  replace W6 := Lib.hid W6
  replace h6 := Lib.hid h6
  replace s8 := Lib.hid s8
  replace s9 := Lib.hid s9
  go_wp2_with fail
  refine (shaSum_calls e _ M _ _ (OwnB.rd h6.out) (by omega)).mono ?_
  rintro e' w7 ⟨r, o7, rfl, s10, rfl⟩
  have W7 := W6.out.stp s10 (by simp)
  have s11 := s9.out.trans s10.none
  have kB : Stp [e] w7 o7 (w7.alloc (.cells (vbs (List.replicate 32 0)).toArray 57)) (paint o7 w7.heap.size e) := (Stp.refl [e] w7 o7).alloc _ e
  have hkb : (w7.alloc (.cells (vbs (List.replicate 32 0)).toArray 57)).heap[w7.heap.size]? = some (.cells (vbs (List.replicate 32 0)).toArray 57 (0, 0)) := heap_alloc_new _ _
  have hkc : paint o7 w7.heap.size e w7.heap.size = e := paint_at _ _ _
  have hbl : (sha M).length = 32 := sha_len M
  obtain ⟨HL, hHL⟩ : ∃ HL, sha M = HL := ⟨_, rfl⟩
  rw [hHL] at hbl
  rw [hHL]
  obtain ⟨HV, hHV⟩ : ∃ HV, (vbs HL).toArray = HV := ⟨_, rfl⟩
  have hsz : (Try.prog.info? 57).map (·.size) = some HV.size := by rw [← hHV, show (vbs HL).toArray.size = 32 by simp [vbs, hbl]]; kernel_rfl
  have hold : (vbs (List.replicate 32 0)).toArray.size = HV.size := by rw [← hHV, show (vbs HL).toArray.size = 32 by simp [vbs, hbl]]; kernel_rfl
  have hone : HV.all (·.oneCell') = true := by rw [← hHV]; exact vbs_all _
  have sK : Stp [e] w7 o7 ((w7.alloc (.cells (vbs (List.replicate 32 0)).toArray 57)).setRow w7.heap.size HV) (paint o7 w7.heap.size e) := kB.trans (setRow_stp (g := w7.heap.size) (by simp [hkc]) _)
  have K2 : Bk ((w7.alloc (.cells (vbs (List.replicate 32 0)).toArray 57)).setRow w7.heap.size HV) (paint o7 w7.heap.size e) e w7.heap.size 57 HL := ⟨by rw [hHV]; exact setRow_heap _ _ _ _ _ _ hkb, hkc⟩
  have W8 := W7.stp sK (by simpa using fun x : c = e => hec x.symm)
  have r8 := K2.rd 0 (by omega) (by omega) (show 32 = HL.length - 0 by omega)
  rw [List.drop_zero] at r8
  have s12 : Stp [e, c] w o _ _ := (s11.mono (by intro x hx; simp at hx ⊢; omega) : Stp [e, c] _ _ _ _).trans (sK.mono (by simp))
  rw [hHV]
  obtain ⟨wK, hwK⟩ : ∃ wK, (w7.alloc (.cells (vbs (List.replicate 32 0)).toArray 57)).setRow w7.heap.size HV = wK := ⟨_, rfl⟩
  rw [hwK] at W8 r8 s12
  replace hwK := Lib.hid hwK
  replace W7 := Lib.hid W7
  replace W8 := Lib.hid W8
  replace r8 := Lib.hid r8
  replace s10 := Lib.hid s10
  replace s11 := Lib.hid s11
  replace s12 := Lib.hid s12
  replace sK := Lib.hid sK
  replace kB := Lib.hid kB
  replace K2 := Lib.hid K2
  replace hHV := Lib.hid hHV
  replace hHL := Lib.hid hHL
  go_wp2_with (refine wpList_store_row rfl _ _ _ rfl w7.heap.size HV rfl rfl 57 (vbs (List.replicate 32 0)).toArray hkb hsz hold hone ?_)
  rw [show (w7.alloc (.cells #[.int .u8 0, .int .u8 0, .int .u8 0, .int .u8 0, .int .u8 0, .int .u8 0, .int .u8 0, .int .u8 0, .int .u8 0, .int .u8 0, .int .u8 0, .int .u8 0, .int .u8 0, .int .u8 0, .int .u8 0, .int .u8 0, .int .u8 0, .int .u8 0, .int .u8 0, .int .u8 0, .int .u8 0, .int .u8 0, .int .u8 0, .int .u8 0, .int .u8 0, .int .u8 0, .int .u8 0, .int .u8 0, .int .u8 0, .int .u8 0, .int .u8 0, .int .u8 0] 57)).setRow w7.heap.size HV = wK from hwK.out]
  refine (wraw_calls c e p _ _ M HL _ _ W8.out r8.out (by omega)).mono ?_
  rintro e' w9 ⟨r, o9, rfl, s13, rfl, v9, W9⟩
  have s14 := s12.out.trans (s13.mono (by simp))
  replace W9 := Lib.hid W9
  replace s13 := Lib.hid s13
  replace s14 := Lib.hid s14
  go_wp2_with fail
  refine (wout_calls c e0 p _ _ _ _ W9.out (by rw [List.length_append]; omega)).mono ?_
  rintro e' w10 ⟨r, o10, rfl, s15, h10⟩
  have s16 := (((s14.out.trans s15.none).drop hef).drop hcf)
  obtain ⟨A10, cap10, rfl⟩ := Own.shape h10
  obtain ⟨N, hN⟩ : ∃ N, (M ++ HL).length = N := ⟨_, rfl⟩
  rw [hN] at h10 ⊢
  replace hN := Lib.hid hN
  replace h10 := Lib.hid h10
  replace s15 := Lib.hid s15
  replace s16 := Lib.hid s16
  go_wp2
  go_ret
  refine Post.mk s16.out ?_
  rw [hres.out, hHL.out]
  exact h10.out
end Go.Proofs.Ytpjnmijfmfgdpaa
