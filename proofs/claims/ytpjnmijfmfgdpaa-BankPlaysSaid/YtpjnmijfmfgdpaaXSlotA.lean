/- The document's slots (ref12): Pack: the walk. -/
import Derived.Test.YtpjnmijfmfgdpaaSlotP
import Derived.Test.YtpjnmijfmfgdpaaRef1
import Derived.Test.YtpjnmijfmfgdpaaShaE
namespace Go.Proofs.Ytpjnmijfmfgdpaa
set_option linter.unusedVariables false
set_option linter.unusedSimpArgs false
open Go.RowKit

set_option maxHeartbeats 4000000 in
set_option maxRecDepth 100000 in
theorem xpack_calls (c0 e0 : Nat) (n : Int) (v : Value) (b : List UInt8) (w : World) (o : Col) (hb : RdB w o c0 v b) (hl : b.length ≤ 900000) :
    Calls Try.prog 19 #[.int .i64 n, v] w (Post [] w o fun r w' o' => OwnB w' o' e0 r (packS n b)) := by
  obtain ⟨c, hc1, _, hcf⟩ := fresh o w.heap.size [c0]
  simp only [List.mem_cons, List.not_mem_nil, or_false, not_or] at hc1
  obtain ⟨e, he1, _, hef⟩ := fresh o w.heap.size [c0, c]
  simp only [List.mem_cons, List.not_mem_nil, or_false, not_or] at he1
  obtain ⟨he0, hec⟩ := he1
  have hpl := packB_len n b
  have hpe : enc (clamp n) ++ (enc (clamp b.length) ++ b) = packB n b := rfl
  have h9 := enc_len9 n
  have h8 := enc_len9 b.length
  obtain ⟨M, hM⟩ : ∃ M, packB n b = M := ⟨_, rfl⟩
  rw [hM] at hpl hpe
  have hres : packS n b = M ++ sha M := by rw [packS, hM]
  have hMl : M.length ≤ 900018 := by omega
  obtain ⟨X, hX⟩ : ∃ X, enc (clamp n) = X := ⟨_, rfl⟩
  obtain ⟨Y, hY⟩ : ∃ Y, enc (clamp b.length) ++ b = Y := ⟨_, rfl⟩
  rw [hX, hY] at hpe
  rw [hX] at h9
  have hYl : Y.length ≤ 900009 := by rw [← hY, List.length_append]; omega
  have hnum := rfnum_calls c n w o
  rw [hX] at hnum
  obtain ⟨A, cap, rfl, hlc, hA⟩ := hb.shape
  have hbytes := fun w' o' (h : RdB w' o' c0 (.slice A b.length cap) b) => rfbytes_calls c0 e _ b w' o' h (by omega)
  rw [hY] at hbytes
  replace hbytes := Lib.hid hbytes
  replace hb := Lib.hid hb
  replace hM := Lib.hid hM
  replace hX := Lib.hid hX
  replace hY := Lib.hid hY
  replace hpe := Lib.hid hpe
  replace hpl := Lib.hid hpl
  replace hres := Lib.hid hres
  go_enter Try.func19, Try.ntmps19
  go_wp2_with fail
  refine hnum.mono ?_
  clear hnum
  rintro e' w1 ⟨r, o1, rfl, s1, h1⟩
  obtain ⟨A1, cap1, rfl⟩ := Own.shape h1
  have hb1 := hb.out.stp s1 (by simp)
  have hcall := hbytes.out _ _ hb1
  replace h1 := Lib.hid h1
  replace s1 := Lib.hid s1
  replace hb1 := Lib.hid hb1
  go_wp2_with fail
  refine hcall.mono ?_
  clear hcall
  rintro e' w2 ⟨r, o2, rfl, s2, h2⟩
  have h1' := Lib.hid (OwnB.stp h1.out s2 (by simp))
  obtain ⟨A2, cap2, rfl⟩ := Own.shape h2
  have st2 := Lib.hid (s1.out.trans s2)
  replace h2 := Lib.hid h2
  replace s2 := Lib.hid s2
  go_wp2_with (refine holdAt 11 ?_)
  apply Hold.mk
  refine appB _ _ rfl rfl h1'.out (OwnB.rd h2.out) rfl rfl (by omega) fun A3 cap3 w3 o3 s3 h3 _ _ => ?_
  have hl3 : X.length + Y.length = M.length := by rw [← hpe.out, List.length_append]
  rw [hpe.out, hl3] at h3
  rw [hl3]
  have st3 := Lib.hid (st2.out.none.trans s3 : Stp [c] w o w3 o3)
  replace h3 := Lib.hid h3
  replace hl3 := Lib.hid hl3
  clear s3
  go_wp2_with fail
  refine (xsum_calls c _ M _ _ (OwnB.rd h3.out) (by omega)).mono ?_
  rintro e' w7 ⟨r, o7, rfl, s10, rfl⟩
  have h7 := OwnB.stp h3.out s10 (by simp)
  have s11 := st3.out.trans s10.none
  have kB : Stp [e] w7 o7 (w7.alloc (.cells (vbs (List.replicate 32 0)).toArray 57)) (paint o7 w7.heap.size e) := (Stp.refl [e] w7 o7).alloc _ e
  have hkb : (w7.alloc (.cells (vbs (List.replicate 32 0)).toArray 57)).heap[w7.heap.size]? = some (.cells (vbs (List.replicate 32 0)).toArray 57 (0, 0)) := heap_alloc_new _ _
  have hkc : paint o7 w7.heap.size e w7.heap.size = e := paint_at _ _ _
  have hbl : (sha M).length = 32 := sha_len M
  obtain ⟨HL, hHL⟩ : ∃ HL, sha M = HL := ⟨_, rfl⟩
  rw [hHL] at hbl
  rw [hHL]
  obtain ⟨HV, hHV⟩ : ∃ HV, (vbs HL).toArray = HV := ⟨_, rfl⟩
  have hsz : (Try.prog.info? 57).map (·.size) = some HV.size := by rw [← hHV, show (vbs HL).toArray.size = 32 by simp [vbs, hbl]]; kernel_rfl
  have hold : (vbs (List.replicate 32 0)).toArray.size = HV.size := by rw [← hHV, show (vbs HL).toArray.size = 32 by simp [vbs, hbl]]; kernel_rfl
  have hone : HV.all (·.oneCell') = true := by rw [← hHV]; exact vbs_all _
  have sK : Stp [e] w7 o7 ((w7.alloc (.cells (vbs (List.replicate 32 0)).toArray 57)).setRow w7.heap.size HV) (paint o7 w7.heap.size e) := kB.trans (setRow_stp (g := w7.heap.size) (by simp [hkc]) _)
  have K2 : Bk ((w7.alloc (.cells (vbs (List.replicate 32 0)).toArray 57)).setRow w7.heap.size HV) (paint o7 w7.heap.size e) e w7.heap.size 57 HL := ⟨by rw [hHV]; exact setRow_heap _ _ _ _ _ _ hkb, hkc⟩
  have h8' := OwnB.stp h7 sK (by simpa using fun x : c = e => hec x.symm)
  have r8 := K2.rd 0 (by omega) (by omega) (show 32 = HL.length - 0 by omega)
  rw [List.drop_zero] at r8
  have s12 : Stp [e, c] w o _ _ := (s11.mono (by intro x hx; simp at hx ⊢; omega) : Stp [e, c] _ _ _ _).trans (sK.mono (by simp))
  rw [hHV]
  obtain ⟨wK, hwK⟩ : ∃ wK, (w7.alloc (.cells (vbs (List.replicate 32 0)).toArray 57)).setRow w7.heap.size HV = wK := ⟨_, rfl⟩
  rw [hwK] at h8' r8 s12
  replace hwK := Lib.hid hwK
  replace h7 := Lib.hid h7
  replace h8' := Lib.hid h8'
  replace r8 := Lib.hid r8
  replace s10 := Lib.hid s10
  replace s11 := Lib.hid s11
  replace s12 := Lib.hid s12
  replace sK := Lib.hid sK
  replace kB := Lib.hid kB
  replace K2 := Lib.hid K2
  replace hHV := Lib.hid hHV
  replace hHL := Lib.hid hHL
  go_wp2_with (first | (refine wpList_store_row rfl _ _ _ rfl w7.heap.size HV rfl rfl 57 (vbs (List.replicate 32 0)).toArray hkb hsz hold hone ?_) | (refine holdAt 16 ?_))
  rw [show (w7.alloc (.cells #[.int .u8 0, .int .u8 0, .int .u8 0, .int .u8 0, .int .u8 0, .int .u8 0, .int .u8 0, .int .u8 0, .int .u8 0, .int .u8 0, .int .u8 0, .int .u8 0, .int .u8 0, .int .u8 0, .int .u8 0, .int .u8 0, .int .u8 0, .int .u8 0, .int .u8 0, .int .u8 0, .int .u8 0, .int .u8 0, .int .u8 0, .int .u8 0, .int .u8 0, .int .u8 0, .int .u8 0, .int .u8 0, .int .u8 0, .int .u8 0, .int .u8 0, .int .u8 0] 57)).setRow w7.heap.size HV = wK from hwK.out]
  apply Hold.mk
  refine appB _ _ rfl rfl h8'.out r8.out rfl rfl (by omega) fun A9 cap9 w9 o9 s13 h9' _ _ => ?_
  have s14 := s12.out.trans (s13.mono (by simp))
  have hf : OwnB w9 (paint o w.heap.size e0) e0 (.slice A9 (M.length + HL.length) cap9) (M ++ HL) := Own.fresh h9' s14 hcf e0
  have s16 := Lib.hid (((s14.drop hef).drop hcf).repaint e0)
  obtain ⟨N, hN⟩ : ∃ N, M.length + HL.length = N := ⟨_, rfl⟩
  rw [hN] at hf ⊢
  replace hN := Lib.hid hN
  replace hf := Lib.hid hf
  clear s13 h9' s14
  go_wp2
  go_ret
  refine Post.mk s16.out ?_
  rw [hres.out, hHL.out]
  exact hf.out
end Go.Proofs.Ytpjnmijfmfgdpaa
