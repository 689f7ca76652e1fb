/- SHA-256: the document's Sum, the walk. -/
import Derived.Test.YtpjnmijfmfgdpaaShaC
import Derived.Test.YtpjnmijfmfgdpaaShaQ
namespace Go.Proofs.Ytpjnmijfmfgdpaa
set_option linter.unusedVariables false
set_option linter.unusedSimpArgs false
open Go.RowKit

/-- What the first loop keeps. -/
def XmA (w0 : World) (o0 : Col) (d : Nat) (b : List UInt8) (x : Value) (wr : World) : Prop :=
  ∃ (j : Nat) (o' : Col), j ≤ zerosN b.length ∧ Stp [d] w0 o0 wr o' ∧ OwnB wr o' d x (b ++ 128 :: List.replicate j 0)
/-- What the second loop keeps. -/
def XmB (w0 : World) (o0 : Col) (d : Nat) (b : List UInt8) (x y : Value) (wr : World) : Prop :=
  ∃ (j : Nat) (o' : Col), y = .int .i64 (7 - (j : Int)) ∧ j ≤ 8 ∧ Stp [d] w0 o0 wr o' ∧ OwnB wr o' d x (b ++ 128 :: (List.replicate (zerosN b.length) 0 ++ (lenBs b.length).take j))
/-- What the third loop keeps. -/
def XmC (w0 : World) (o0 : Col) (cs p z : Nat) (m : List UInt8) (x : Value) (wr : World) : Prop :=
  ∃ (a i : Nat) (o' : Col), x = .int .i64 a ∧ a = 64 * i ∧ i ≤ z ∧ Stp [cs] w0 o0 wr o' ∧ Wd wr o' cs p 111 (blocksI ivI m i)
theorem XmC.to {w0 : World} {o0 : Col} {cs p z : Nat} {m : List UInt8} {x : Value} {wr : World} (h : XmC w0 o0 cs p z m x wr) (W : World) (e : wr = W) : XmC w0 o0 cs p z m x W := e ▸ h
/-- What the fourth loop keeps. -/
def XmD (w0 : World) (o0 : Col) (e H : Nat) (l : List Int) (x : Value) (wr : World) : Prop :=
  ∃ (i : Nat) (o' : Col), x = .int .i64 i ∧ i ≤ 32 ∧ Stp [e] w0 o0 wr o' ∧ Bk wr o' e H 57 ((bytesI l).take i ++ List.replicate (32 - i) 0)

set_option maxHeartbeats 8000000 in
set_option maxRecDepth 100000 in
theorem xsum_calls (c2 : Nat) (v : Value) (b : List UInt8) (w : World) (o : Col) (hb : RdB w o c2 v b) (hlen : b.length ≤ 1000000) :
    Calls Try.prog 38 #[v] w (Post [] w o fun r _ _ => r = .agg (vbs (sha b)).toArray) := by
  obtain ⟨A, cap, rfl, hlc, hA⟩ := hb.shape
  obtain ⟨g, hg1, _, hgf⟩ := fresh o w.heap.size [c2]
  simp only [List.mem_cons, List.not_mem_nil, or_false, not_or] at hg1
  obtain ⟨d, hd1, _, hdf⟩ := fresh o w.heap.size [c2, g]
  simp only [List.mem_cons, List.not_mem_nil, or_false, not_or] at hd1
  obtain ⟨hd2, hdg⟩ := hd1
  have hz := hb.stp ((Stp.refl [] w o).alloc (.cells (vbs (List.replicate 32 0)).toArray 57) g) (by simp)
  have R0 := Bk.new w o g 57 (List.replicate 32 0)
  have s0 : Stp [] w o (w.alloc (.cells (vbs (List.replicate 32 0)).toArray 57)) (paint o w.heap.size g) := (Stp.refl [] w o).alloc _ g
  have z0 : (w.alloc (.cells (vbs (List.replicate 32 0)).toArray 57)).heap.size = w.heap.size + 1 := World.size_alloc _ _
  obtain ⟨w1, hw1⟩ : ∃ w1, w.alloc (.cells (vbs (List.replicate 32 0)).toArray 57) = w1 := ⟨_, rfl⟩
  obtain ⟨o1, ho1⟩ : ∃ o1, paint o w.heap.size g = o1 := ⟨_, rfl⟩
  obtain ⟨R, hR⟩ : ∃ R, w.heap.size = R := ⟨_, rfl⟩
  rw [hw1, ho1] at hz R0 s0
  rw [hw1] at z0
  rw [hR] at R0 z0
  replace hw1 := Lib.hid hw1
  have HR := Lib.hid hR
  clear hR
  replace R0 := Lib.hid R0
  replace s0 := Lib.hid s0
  have hb1 := Lib.hid hz
  replace hb := Lib.hid hb
  clear hz
  go_enter Try.func38, Try.ntmps38
  go_wp2_with (refine holdAt 13 ?_)
  apply Hold.mk
  rw [show w.alloc (.cells #[.int .u8 0, .int .u8 0, .int .u8 0, .int .u8 0, .int .u8 0, .int .u8 0, .int .u8 0, .int .u8 0, .int .u8 0, .int .u8 0, .int .u8 0, .int .u8 0, .int .u8 0, .int .u8 0, .int .u8 0, .int .u8 0, .int .u8 0, .int .u8 0, .int .u8 0, .int .u8 0, .int .u8 0, .int .u8 0, .int .u8 0, .int .u8 0, .int .u8 0, .int .u8 0, .int .u8 0, .int .u8 0, .int .u8 0, .int .u8 0, .int .u8 0, .int .u8 0] 57) = w1 from hw1.out, HR.out]
  have s2 := (Stp.refl [d] w1 o1).alloc (.cells #[] 5) d
  refine appB (l := []) _ _ rfl rfl (OwnB.new w1 o1 d #[] [] rfl 0 rfl (by omega) _ z0) (hb1.out.stp s2 (by simpa using fun x : c2 = d => hd2 x.symm)) rfl rfl (by simp; omega) fun A3 cap3 w3 o3 s3 h3 _ _ => ?_
  rw [List.nil_append, List.length_nil, Nat.zero_add] at h3
  rw [List.length_nil, Nat.zero_add]
  have s4 := (Stp.refl [d] w3 o3).alloc (.cells #[.int .u8 128] 5) d
  have h4 := Lib.hid (OwnB.stp h3 ((Stp.refl [] w3 o3).alloc (.cells #[.int .u8 128] 5) d) (by simp))
  have r4 := Lib.hid (RdB.new w3 o3 d #[.int .u8 128] [128] rfl 1 rfl (by omega) 5 _ rfl)
  have s5 := Lib.hid ((s2.trans s3).trans s4)
  clear s2 s3 s4 h3
  go_wp2_with (refine holdAt 15 ?_)
  apply Hold.mk
  refine appB _ _ rfl rfl h4.out r4.out rfl rfl (by simp; omega) fun A5 cap5 w5 o5 s6 h6 _ _ => ?_
  have s7 := Lib.hid (s5.out.trans s6)
  have h6' : OwnB w5 o5 d (.slice A5 (b.length + 1) cap5) (b ++ 128 :: List.replicate 0 0) := h6
  replace h6' := Lib.hid h6'
  clear s6 h6
  go_wp2_with fail
  go_loopw [3] (XmA w5 o5 d b) (fun x _ => b.length + 1 + zerosN b.length - (match x with | .slice _ n _ => n | _ => 0))
  case atStart => exact ⟨0, o5, Nat.zero_le _, Stp.refl _ _ _, h6'.out⟩
  case round =>
    obtain ⟨j, o6, hj, st6, hm⟩ := hrel
    have hml : (b ++ 128 :: List.replicate j 0).length = b.length + 1 + j := by simp; omega
    obtain ⟨A6, cap6, rfl⟩ := Own.shape hm
    rw [hml]
    obtain ⟨N, hN⟩ : ∃ N, b.length + 1 + j = N := ⟨_, rfl⟩
    have hst := zerosN_stop b.length j hj
    have hzb : zerosN b.length ≤ 64 := by unfold zerosN endN; split <;> omega
    rw [hN] at hst hml ⊢
    obtain ⟨Nm, hNm⟩ : ∃ Nm, N % 64 = Nm := ⟨_, rfl⟩
    have hNI : (N : Int) % 64 = (Nm : Int) := by omega
    by_cases hjz : j = zerosN b.length
    · have g1 : ((Nm : Int) != 56) = false := by have := hst.2 hjz; simp; omega
      rw [hml, hjz] at hm
      have s9 := Lib.hid (s7.out.trans st6)
      obtain ⟨Z, hZ⟩ : ∃ Z, zerosN b.length = Z := ⟨_, rfl⟩
      have hNz : N = b.length + 1 + Z ∧ N % 64 = 56 := by rw [hZ] at hst; omega
      have hZ64 : Z ≤ 64 := by omega
      have hm0 : OwnB wr o6 d (.slice A6 N cap6) (b ++ 128 :: (List.replicate Z 0 ++ (lenBs b.length).take 0)) := by rw [List.take_zero, List.append_nil, ← hZ]; exact hm
      replace hm0 := Lib.hid hm0
      replace hN := Lib.hid hN
      replace hNm := Lib.hid hNm
      replace hst := Lib.hid hst
      replace hml := Lib.hid hml
      replace hm := Lib.hid hm
      replace st6 := Lib.hid st6
      replace hjz := Lib.hid hjz
      have hZ' := Lib.hid hZ
      clear hZ
      have hq56 : (N : Int) % 64 = 56 := by omega
      have hN6 : (0 : Int) ≤ (N : Int) ∧ (N : Int) ≤ 1000100 := by omega
      clear hNI g1
      replace hNz := Lib.hid hNz
      go_wp2_with fail
      replace hq56 := Lib.hid hq56
      go_loopw [3, 5] (XmB wr o6 d b) (fun _ y _ => (intOf y + 1).toNat)
      case atStart => exact ⟨0, o6, rfl, by omega, Stp.refl _ _ _, by rw [hZ'.out]; exact hm0.out⟩
      case round =>
        obtain ⟨i, o7, rfl, hi, st7, hm7⟩ := hrel
        have hl7 : (b ++ 128 :: (List.replicate (zerosN b.length) 0 ++ (lenBs b.length).take i)).length = N + i := by
          simp only [List.length_append, List.length_cons, List.length_replicate, List.length_take, lenBs, List.length_nil]
          rw [hZ'.out]
          have := hNz.out
          omega
        obtain ⟨A7, cap7, rfl⟩ := Own.shape hm7
        rw [hl7] at hm7 ⊢
        by_cases hi8 : i < 8
        · obtain ⟨y, hy⟩ : ∃ y, 7 - i = y := ⟨_, rfl⟩
          have hyI : (7 : Int) - (i : Int) = (y : Int) := by omega
          rw [hyI]
          have hy7 : (0 : Int) ≤ (y : Int) ∧ (y : Int) ≤ 7 := by omega
          have g2 : decide ((0 : Int) ≤ (y : Int)) = true := decide_eq_true (by omega)
          obtain ⟨t, ht⟩ : ∃ t, 8 * y = t := ⟨_, rfl⟩
          have htI : 8 * (y : Int) = (t : Int) := by omega
          have ht2 : (0 : Int) ≤ (t : Int) ∧ (t : Int) ≤ 56 := by omega
          have hv := lenB_val b.length y
          rw [ht] at hv
          have hnext : (lenBs b.length).take (i + 1) = (lenBs b.length).take i ++ [lenB b.length y] := by
            rw [← hy]
            match i, hi8 with
            | 0, _ => rfl
            | 1, _ => rfl
            | 2, _ => rfl
            | 3, _ => rfl
            | 4, _ => rfl
            | 5, _ => rfl
            | 6, _ => rfl
            | 7, _ => rfl
          obtain ⟨B, hB⟩ : ∃ B, lenB b.length y = B := ⟨_, rfl⟩
          rw [hB] at hv hnext
          have s7a := (Stp.refl [d] wr o7).alloc (.cells #[.int .u8 (B.toNat : Int)] 5) d
          have h7 := Lib.hid (OwnB.stp hm7 ((Stp.refl [] wr o7).alloc (.cells #[.int .u8 (B.toNat : Int)] 5) d) (by simp))
          have r7 := Lib.hid (RdB.new wr o7 d #[.int .u8 (B.toNat : Int)] [B] rfl 1 rfl (by omega) 5 _ rfl)
          have s8 := Lib.hid (st7.trans s7a)
          have hyI2 : (y : Int) - 1 = 7 - ((i : Int) + 1) := by omega
          replace hyI2 := Lib.hid hyI2
          replace hyI := Lib.hid hyI
          replace hy := Lib.hid hy
          replace ht := Lib.hid ht
          replace hB := Lib.hid hB
          replace hm7 := Lib.hid hm7
          replace st7 := Lib.hid st7
          replace hl7 := Lib.hid hl7
          replace hnext := Lib.hid hnext
          replace hv := hv.symm
          clear s7a
          go_wp2_with (refine holdAt 39 ?_)
          apply Hold.mk
          refine appB _ _ rfl rfl h7.out r7.out rfl rfl (by rw [hl7.out]; simp; omega) fun A8 cap8 w8 o8 s9 h9 _ _ => ?_
          rw [hl7.out] at h9 ⊢
          have h9' : OwnB w8 o8 d (.slice A8 (N + (i + 1)) cap8) (b ++ 128 :: (List.replicate (zerosN b.length) 0 ++ (lenBs b.length).take (i + 1))) := by
            have e : b ++ 128 :: (List.replicate (zerosN b.length) 0 ++ (lenBs b.length).take (i + 1)) = (b ++ 128 :: (List.replicate (zerosN b.length) 0 ++ (lenBs b.length).take i)) ++ [B] := by rw [hnext.out]; simp only [List.append_assoc, List.cons_append]
            rw [e]; exact h9
          change wpList _ _ _ _ (Act.put _ _ (.slice A8 (N + (i + 1)) cap8)) _
          have sA := Lib.hid (s8.out.trans s9)
          replace h9' := Lib.hid h9'
          clear h9 s9
          go_wp2
          go_roundw
          case rel => exact ⟨i + 1, o8, by have := hyI2.out; go_num, hi8, sA.out, h9'.out⟩
          case measure => simp [intOf]
        · have hi8' : i = 8 := by omega
          have hyI : (7 : Int) - (i : Int) = -1 := by omega
          rw [hyI]
          have hpad : padI b = b ++ 128 :: (List.replicate (zerosN b.length) 0 ++ (lenBs b.length).take i) := by rw [padI_eq, hi8']; rfl
          rw [← hpad] at hm7 hl7
          have hM : (padI b).length = 64 * (b.length / 64 + endN (b.length % 64) / 64) := padI_len b
          obtain ⟨Q, hQ⟩ : ∃ Q, b.length / 64 + endN (b.length % 64) / 64 = Q := ⟨_, rfl⟩
          obtain ⟨m, hmm⟩ : ∃ m, padI b = m := ⟨_, rfl⟩
          obtain ⟨M, hMM⟩ : ∃ M, N + i = M := ⟨_, rfl⟩
          rw [hQ] at hM
          rw [hmm] at hM hm7 hl7
          rw [hMM] at hm7 hl7 ⊢
          have hsha : shaI b = blocksI ivI m Q := by rw [shaI, hQ, hmm]
          have hM64 : M = 64 * Q := by omega
          have hMb : M ≤ 1000200 ∧ 64 ≤ M := by have := hNz.out; omega
          replace hM64 := Lib.hid hM64
          have R7 := (R0.out.stp s9.out (by simpa using fun x : g = d => hdg x.symm)).stp st7 (by simpa using fun x : g = d => hdg x.symm)
          have sB := s0.out.none.trans (s9.out.trans st7)
          have rm := OwnB.rd hm7
          replace R7 := Lib.hid R7
          replace sB := Lib.hid sB
          replace rm := Lib.hid rm
          replace hm7 := Lib.hid hm7
          replace st7 := Lib.hid st7
          replace hl7 := Lib.hid hl7
          replace hM := Lib.hid hM
          replace hMM := Lib.hid hMM
          replace hmm := Lib.hid hmm
          replace hQ := Lib.hid hQ
          replace hpad := Lib.hid hpad
          replace hi8' := Lib.hid hi8'
          replace hyI := Lib.hid hyI
          replace hsha := Lib.hid hsha
          obtain ⟨cs, hcs1, _, hcsf⟩ := fresh o w.heap.size [c2, g, d]
          simp only [List.mem_cons, List.not_mem_nil, or_false, not_or] at hcs1
          obtain ⟨hcs2, hcsg, hcsd⟩ := hcs1
          obtain ⟨k, hk1, _, hkf⟩ := fresh o w.heap.size [c2, g, d, cs]
          simp only [List.mem_cons, List.not_mem_nil, or_false, not_or] at hk1
          obtain ⟨hk2, hkg, hkd, hkcs⟩ := hk1
          obtain ⟨e, he1, _, hef⟩ := fresh o w.heap.size [c2, g, d, cs, k]
          simp only [List.mem_cons, List.not_mem_nil, or_false, not_or] at he1
          obtain ⟨he2, heg, hed, hecs, hek⟩ := he1
          have S0 := Wd.new wr o7 cs 111 ivI ivI_U
          have sS : Stp [] wr o7 (wr.alloc (.cells (us ivI).toArray 111)) (paint o7 wr.heap.size cs) := (Stp.refl [] wr o7).alloc _ cs
          have rm8 := rm.out.stp sS (by simp)
          have R8 := R7.out.stp sS (by simp)
          have sC := sB.out.trans sS.none
          obtain ⟨wS, hwS⟩ : ∃ wS, wr.alloc (.cells (us ivI).toArray 111) = wS := ⟨_, rfl⟩
          obtain ⟨oS, hoS⟩ : ∃ oS, paint o7 wr.heap.size cs = oS := ⟨_, rfl⟩
          obtain ⟨p, hp⟩ : ∃ p, wr.heap.size = p := ⟨_, rfl⟩
          rw [hwS, hoS] at S0 rm8 R8 sC
          rw [hp] at S0
          have HwS := Lib.hid hwS
          have Hp := Lib.hid hp
          clear hwS hp sS
          replace S0 := Lib.hid S0
          replace rm8 := Lib.hid rm8
          replace R8 := Lib.hid R8
          replace sC := Lib.hid sC
          go_wp2_with fail
          rw [show wr.alloc (.cells #[.int .u32 1779033703, .int .u32 3144134277, .int .u32 1013904242, .int .u32 2773480762, .int .u32 1359893119, .int .u32 2600822924, .int .u32 528734635, .int .u32 1541459225] 111) = wS from HwS.out, Hp.out]
          refine (xk_calls _ oS).mono ?_
          rintro e' w1' ⟨r', o1', rfl, s1', rfl⟩
          have S1 := S0.out.stp s1' (by simp)
          have rm9 := rm8.out.stp s1' (by simp)
          have R9 := R8.out.stp s1' (by simp)
          have sD := sC.out.trans s1'.none
          have kB : Stp [k] w1' o1' (w1'.alloc (.cells (us (List.replicate 64 0)).toArray 112)) (paint o1' w1'.heap.size k) := (Stp.refl [k] w1' o1').alloc _ k
          have hkb : (w1'.alloc (.cells (us (List.replicate 64 0)).toArray 112)).heap[w1'.heap.size]? = some (.cells (us (List.replicate 64 0)).toArray 112 (0, 0)) := heap_alloc_new _ _
          have hkc : paint o1' w1'.heap.size k w1'.heap.size = k := paint_at _ _ _
          obtain ⟨K, hK⟩ : ∃ K, (us kI).toArray = K := ⟨_, rfl⟩
          have hszK : (Try.prog.info? 112).map (·.size) = some K.size := by rw [← hK]; kernel_rfl
          have holdK : (us (List.replicate 64 0)).toArray.size = K.size := by rw [← hK]; kernel_rfl
          have honeK : K.all (·.oneCell') = true := by rw [← hK]; decide +kernel
          rw [hK]
          replace hK := Lib.hid hK
          have sK : Stp [k] w1' o1' ((w1'.alloc (.cells (us (List.replicate 64 0)).toArray 112)).setRow w1'.heap.size K) (paint o1' w1'.heap.size k) := kB.trans (setRow_stp (by simp [hkc]) _)
          have K2 : Wd ((w1'.alloc (.cells (us (List.replicate 64 0)).toArray 112)).setRow w1'.heap.size K) (paint o1' w1'.heap.size k) k w1'.heap.size 112 kI := ⟨by rw [hK.out]; exact setRow_heap _ _ _ _ _ _ hkb, hkc, kI_U⟩
          obtain ⟨wK, hwK⟩ : ∃ wK, (w1'.alloc (.cells (us (List.replicate 64 0)).toArray 112)).setRow w1'.heap.size K = wK := ⟨_, rfl⟩
          obtain ⟨oK, hoK⟩ : ∃ oK, paint o1' w1'.heap.size k = oK := ⟨_, rfl⟩
          rw [hwK, hoK] at sK K2
          have S2 := S1.stp sK (by simpa using fun x : cs = k => hkcs x.symm)
          have rmK := rm9.stp sK (by simpa using fun x : d = k => hkd x.symm)
          have RK := R9.stp sK (by simpa using fun x : g = k => hkg x.symm)
          have sE : Stp [d, k] w o wK oK := (sD.mono (by simp) : Stp [d, k] _ _ _ _).trans (sK.mono (by simp))
          obtain ⟨q, hq⟩ : ∃ q, w1'.heap.size = q := ⟨_, rfl⟩
          rw [hq] at K2
          have Hq := Lib.hid hq
          have HwK := Lib.hid hwK
          clear hq hwK kB S1 rm9 R9 sD sK
          replace K2 := Lib.hid K2
          replace S2 := Lib.hid S2
          replace rmK := Lib.hid rmK
          replace RK := Lib.hid RK
          replace sE := Lib.hid sE
          replace s1' := Lib.hid s1'
          go_wp2_with (refine wpList_store_row rfl _ _ _ rfl w1'.heap.size K rfl rfl 112 (us (List.replicate 64 0)).toArray hkb hszK holdK honeK ?_)
          rw [Hq.out]
          obtain ⟨aa, hA7, _⟩ := RdB.at_ rmK.out (j := 0) (by rw [hl7.out]; omega)
          subst hA7
          go_loopw [8] (XmC wK oK cs p Q m) (fun x _ => M - (intOf x).toNat)
          case atStart =>
            have hst : XmC wK oK cs p Q m (.int .i64 0) wK := ⟨0, 0, oK, rfl, rfl, Nat.zero_le _, Stp.refl _ _ _, S2.out⟩
            exact hst.to _ (by have e := HwK.out; rw [Hq.out] at e; exact e.symm)
          case round =>
            obtain ⟨a, z, o9, rfl, haz, hz, st9, hS9⟩ := hrel
            have hSl : (blocksI ivI m z).length = 8 := blocksI_len _ rfl _
            have hnx : blocksI ivI m (z + 1) = blockI kI (blocksI ivI m z) (m.drop (64 * z)) := rfl
            by_cases ha : a < M
            · have g3 : decide ((a : Int) < (M : Int)) = true := decide_eq_true (by omega)
              have haM : a + 64 ≤ M ∧ z + 1 ≤ Q ∧ a + 64 = 64 * (z + 1) := by have := hM64.out; omega
              obtain ⟨a64, ha64⟩ : ∃ a64, a + 64 = a64 := ⟨_, rfl⟩
              rw [ha64] at haM
              have i1 : IntKind.i64.wrap ((a : Int) + 64) = (a64 : Int) := by rw [IntKind.wrap_i64]; omega
              have hcapM : M ≤ cap7 := by
                obtain ⟨_, cap', e', hnc, _⟩ := rmK.out.is
                injection e' with _ e1' e2'
                omega
              have i2 : (0 : Int) ≤ (a : Int) ∧ (a : Int) ≤ (a64 : Int) ∧ (a64 : Int) ≤ (cap7 : Int) := by omega
              have i3 : ¬ cap7 = a := by omega
              have rm5 := rmK.out.stp st9 (by simpa using fun x : d = cs => hcsd x.symm)
              rw [← haz] at hnx
              obtain ⟨l9, hl9⟩ : ∃ l9, blocksI ivI m z = l9 := ⟨_, rfl⟩
              rw [hl9] at hS9 hSl hnx
              obtain ⟨x0, x1, x2, x3, x4, x5, x6, x7, rfl⟩ : ∃ x0 x1 x2 x3 x4 x5 x6 x7, l9 = [x0, x1, x2, x3, x4, x5, x6, x7] := by
                match l9, hSl with
                | [s0, s1, s2, s3, s4, s5, s6, s7], _ => exact ⟨_, _, _, _, _, _, _, _, rfl⟩
              have c0 := hS9.cell (i := 0) (by simp)
              have c1 := hS9.cell (i := 1) (by simp)
              have c2' := hS9.cell (i := 2) (by simp)
              have c3 := hS9.cell (i := 3) (by simp)
              have c4 := hS9.cell (i := 4) (by simp)
              have c5 := hS9.cell (i := 5) (by simp)
              have c6 := hS9.cell (i := 6) (by simp)
              have c7 := hS9.cell (i := 7) (by simp)
              simp only [List.getD_cons_zero, List.getD_cons_succ] at c0 c1 c2' c3 c4 c5 c6 c7
              replace haM := Lib.hid haM
              replace haz := Lib.hid haz
              replace ha64 := Lib.hid ha64
              replace hcapM := Lib.hid hcapM
              replace hl9 := Lib.hid hl9
              replace hnx := Lib.hid hnx
              replace hS9 := Lib.hid hS9
              replace st9 := Lib.hid st9
              replace rm5 := Lib.hid rm5
              go_wp2_with fail
              refine wp_region_still_tail 6 (by kernel_rfl) (by kernel_rfl) ?_
              simp only [List.take_succ_cons, List.take_zero, List.drop_succ_cons, List.drop_zero]
              repeat still_step
              refine wpStill_nil ?_
              have sd := Lib.hid st9.out.drew
              have Sq := Lib.hid (hS9.out.stp (Stp.refl [] wr o9).drew (by simp))
              have hKd := (K2.out.stp st9.out (by simpa using hkcs)).stp (Stp.refl [] wr o9).drew (by simp)
              have rmd : RdB wr.drew o9 d (.slice (some (aa.add a)) (a64 - a) (cap7 - a)) ((m.drop a).take (a64 - a)) := by
                have h5 := rm5.out.stp (Stp.refl [] wr o9).drew (by simp)
                have hm9 := hl7.out
                have h9 := haM.out
                have h8 := ha64.out
                unfold RdB at h5
                rw [hm9] at h5
                have h6 := h5.sub a a64 (by omega) (by omega)
                rw [if_neg i3, Nat.mul_one, Nat.mul_one] at h6
                unfold RdB
                rw [List.length_take, List.length_drop, hm9, Nat.min_eq_left (by omega), show vbs ((m.drop a).take (a64 - a)) = ((vbs m).drop a).take (a64 - a) by simp only [vbs, List.map_take, List.map_drop]]
                exact h6
              have h64 : 64 ≤ ((m.drop a).take (a64 - a)).length := by
                rw [List.length_take, List.length_drop, hl7.out]
                have h9 := haM.out
                have h8 := ha64.out
                omega
              have hbc : blockI kI [x0, x1, x2, x3, x4, x5, x6, x7] ((m.drop a).take (a64 - a)) = blocksI ivI m (z + 1) := by
                rw [hnx.out]
                exact blockI_congr _ _ fun j hj => by
                  rw [byI, byI, List.getD_eq_getElem?_getD, List.getD_eq_getElem?_getD, List.getElem?_take_of_lt (by have h8 := ha64.out; omega)]
              change wpList _ _ _ _ _ wr.drew
              clear c0 c1 c2' c3 c4 c5 c6 c7
              replace hKd := Lib.hid hKd
              replace rmd := Lib.hid rmd
              replace h64 := Lib.hid h64
              replace hbc := Lib.hid hbc
              generalize wr.drew = wd at *
              go_wp2_with fail
              refine (xblock_calls d k q [x0, x1, x2, x3, x4, x5, x6, x7] kI _ _ wd o9 Sq.out.rng rfl hKd.out kI_len rmd.out h64.out).mono ?_
              rw [hbc.out]
              rintro e4 w4 ⟨r4, o4, rfl, s4, rfl⟩
              have S4 := Sq.out.stp s4 (by simp)
              have hl8 : (blocksI ivI m (z + 1)).length = 8 := blocksI_len _ rfl _
              have hlU : ∀ x ∈ blocksI ivI m (z + 1), U x := blocksI_U _ ivI_U _
              obtain ⟨l8, hl8'⟩ : ∃ l8, blocksI ivI m (z + 1) = l8 := ⟨_, rfl⟩
              rw [hl8'] at hl8 hlU ⊢
              have hsz : (Try.prog.info? 111).map (·.size) = some (us l8).toArray.size := by rw [show (us l8).toArray.size = 8 by simp [us, hl8]]; kernel_rfl
              have sst := (setRow_stp (C := [cs]) (g := p) (w := w4) (o := o4) (by simp [S4.col]) (us l8).toArray)
              have s5 := (sd.out.trans s4.none).trans sst
              have S5 : Wd (w4.setRow p (us l8).toArray) o4 cs p 111 l8 := ⟨setRow_heap _ _ _ _ _ _ S4.blk, S4.col, hlU⟩
              replace s5 := Lib.hid s5
              replace S5 := Lib.hid S5
              replace hl8' := Lib.hid hl8'
              replace hlU := Lib.hid hlU
              replace s4 := Lib.hid s4
              replace sst := Lib.hid sst
              have hS4b := Lib.hid S4.blk
              replace S4 := Lib.hid S4
              have hl8h := Lib.hid hl8
              clear hl8
              go_wp2_with (refine wpList_store_row rfl _ _ _ rfl p (us l8).toArray rfl rfl 111 _ hS4b.out hsz (by simp [us, hl8h.out]) (us_all _) ?_)
              go_roundw
              case rel => exact ⟨a64, z + 1, o4, by go_num, haM.out.2.2, haM.out.2.1, s5.out, by rw [hl8'.out]; exact S5.out⟩
              case measure => have := ha64.out; simp [intOf]; omega
            · have hzQ : z = Q := by have := hM64.out; omega
              have g3 : decide ((a : Int) < (M : Int)) = false := decide_eq_false (by omega)
              rw [hzQ, ← hsha.out] at hS9 hSl
              obtain ⟨l9, hl9⟩ : ∃ l9, shaI b = l9 := ⟨_, rfl⟩
              rw [hl9] at hS9 hSl
              have hres : sha b = bytesI l9 := by rw [sha, hl9]
              have hU9 := hS9.rng
              have hBL : (bytesI l9).length = 32 := by rw [bytesI_len, hSl]
              have H0 := Bk.new wr o9 e 57 (List.replicate 32 0)
              have sH : Stp [] wr o9 (wr.alloc (.cells (vbs (List.replicate 32 0)).toArray 57)) (paint o9 wr.heap.size e) := (Stp.refl [] wr o9).alloc _ e
              have S10 := hS9.stp sH (by simp)
              have R10 := (RK.out.stp st9 (by simpa using fun x : g = cs => hcsg x.symm)).stp sH (by simp)
              have sF : Stp [d, k, cs] w o _ _ := ((sE.out.mono (by intro c hc; simp at hc ⊢; omega) : Stp [d, k, cs] _ _ _ _).trans (st9.mono (by simp))).trans sH.none
              obtain ⟨wH, hwH⟩ : ∃ wH, wr.alloc (.cells (vbs (List.replicate 32 0)).toArray 57) = wH := ⟨_, rfl⟩
              obtain ⟨oH, hoH⟩ : ∃ oH, paint o9 wr.heap.size e = oH := ⟨_, rfl⟩
              obtain ⟨H, hH⟩ : ∃ H, wr.heap.size = H := ⟨_, rfl⟩
              rw [hwH, hoH] at H0 S10 R10 sF
              rw [hH] at H0
              have HwH := Lib.hid hwH
              have HH := Lib.hid hH
              clear hwH hH sH
              replace haz := Lib.hid haz
              replace hzQ := Lib.hid hzQ
              replace hS9 := Lib.hid hS9
              replace st9 := Lib.hid st9
              replace hnx := Lib.hid hnx
              replace hres := Lib.hid hres
              replace hl9 := Lib.hid hl9
              replace H0 := Lib.hid H0
              replace S10 := Lib.hid S10
              replace R10 := Lib.hid R10
              replace sF := Lib.hid sF
              replace hU9 := Lib.hid hU9
              go_wp2_with fail
              rw [show wr.alloc (.cells #[.int .u8 0, .int .u8 0, .int .u8 0, .int .u8 0, .int .u8 0, .int .u8 0, .int .u8 0, .int .u8 0, .int .u8 0, .int .u8 0, .int .u8 0, .int .u8 0, .int .u8 0, .int .u8 0, .int .u8 0, .int .u8 0, .int .u8 0, .int .u8 0, .int .u8 0, .int .u8 0, .int .u8 0, .int .u8 0, .int .u8 0, .int .u8 0, .int .u8 0, .int .u8 0, .int .u8 0, .int .u8 0, .int .u8 0, .int .u8 0, .int .u8 0, .int .u8 0] 57) = wH from HwH.out, HH.out]
              go_loopw [10] (XmD wH oH e H l9) (fun x _ => 32 - (intOf x).toNat)
              case atStart => exact ⟨0, oH, rfl, by omega, Stp.refl _ _ _, by rw [List.take_zero]; exact H0.out⟩
              case round =>
                obtain ⟨i', o10, rfl, hi', st10, hH10⟩ := hrel
                by_cases hi32 : i' < 32
                · have g4 : decide ((i' : Int) < 32) = true := decide_eq_true (by omega)
                  obtain ⟨i4, hi4⟩ : ∃ i4, i' / 4 = i4 := ⟨_, rfl⟩
                  obtain ⟨r4, hr4⟩ : ∃ r4, i' % 4 = r4 := ⟨_, rfl⟩
                  obtain ⟨t, ht⟩ : ∃ t, 24 - 8 * r4 = t := ⟨_, rfl⟩
                  have j0 : (0 : Int) ≤ (i' : Int) ∧ (i' : Int) < 32 := by omega
                  have j1 : (i' : Int) / 4 = (i4 : Int) := by omega
                  have j2 : (i' : Int) % 4 = (r4 : Int) := by omega
                  have j3 : (24 : Int) - 8 * (r4 : Int) = (t : Int) := by omega
                  have j4 : (0 : Int) ≤ (i4 : Int) ∧ (i4 : Int) < 8 := by omega
                  have j5 : (0 : Int) ≤ (r4 : Int) ∧ (r4 : Int) < 4 := by omega
                  have j6 : (0 : Int) ≤ (t : Int) ∧ (t : Int) ≤ 24 := by omega
                  have cS := (S10.out.stp st10 (by simpa using fun x : cs = e => hecs x.symm)).cell (i := i4) (by omega)
                  have hget := bytesI_get (l := l9) (i := i') (by omega)
                  have hxU := getD_U hU9.out i4
                  rw [hi4, hr4] at hget
                  obtain ⟨x, hx⟩ : ∃ x, l9.getD i4 0 = x := ⟨_, rfl⟩
                  rw [hx] at cS hget hxU
                  have hv := wordB_at hxU (j := r4) ht.symm
                  have hset := take_fill hget 32 hBL
                  have hcl : ((bytesI l9).take i' ++ List.replicate (32 - i') 0).length = 32 := by rw [List.length_append, List.length_take, hBL, List.length_replicate]; omega
                  have cH := hH10.cell (i := i') (by omega)
                  have fH := hH10.free i'
                  obtain ⟨zz, hzz⟩ : ∃ zz, ((((bytesI l9).take i' ++ List.replicate (32 - i') 0).getD i' 0).toNat : Int) = zz := ⟨_, rfl⟩
                  rw [hzz] at cH
                  obtain ⟨hx0, hx1⟩ := hxU
                  replace hzz := Lib.hid hzz
                  replace hcl := Lib.hid hcl
                  replace hset := Lib.hid hset
                  replace hget := Lib.hid hget
                  replace hx := Lib.hid hx
                  replace hi4 := Lib.hid hi4
                  replace hr4 := Lib.hid hr4
                  replace ht := Lib.hid ht
                  replace hH10 := Lib.hid hH10
                  replace st10 := Lib.hid st10
                  go_wp2
                  go_roundw
                  case rel =>
                    obtain ⟨H11, s11⟩ := hH10.out.set i' (wordB x r4)
                    exact ⟨i' + 1, o10, by go_num, by omega, st10.out.trans s11, by rw [← hset.out]; exact H11⟩
                  case measure => simp [intOf]; omega
                · have hi32' : i' = 32 := by omega
                  have g4 : decide ((i' : Int) < 32) = false := decide_eq_false (by omega)
                  rw [hi32', List.take_of_length_le (by omega), show 32 - 32 = 0 from rfl, List.replicate_zero, List.append_nil, ← hres.out] at hH10
                  have hbl : (sha b).length = 32 := sha_len b
                  have hsz2 : (Try.prog.info? 57).map (·.size) = some (vbs (sha b)).toArray.size := by rw [show (vbs (sha b)).toArray.size = 32 by simp [vbs, hbl]]; kernel_rfl
                  have hone : (vbs (sha b)).toArray.all (·.oneCell') = true := vbs_all _
                  have R12 := R10.out.stp st10 (by simpa using fun x : g = e => heg x.symm)
                  have hold2 : (vbs (List.replicate 32 0)).toArray.size = (vbs (sha b)).toArray.size := by rw [show (vbs (sha b)).toArray.size = 32 by simp [vbs, hbl]]; kernel_rfl
                  obtain ⟨HV, hHV⟩ : ∃ HV, (vbs (sha b)).toArray = HV := ⟨_, rfl⟩
                  have hRb := hH10.blk
                  rw [hHV] at hRb hsz2 hone hold2
                  have sZ : Stp [d, k, cs, e, g] w o _ o10 := (sF.out.mono (by intro c hc; simp at hc ⊢; omega) : Stp [d, k, cs, e, g] _ _ _ _).trans (st10.mono (by simp))
                  have sY := sZ.trans (setRow_stp (C := [d, k, cs, e, g]) (g := R) (by simp [R12.col]) HV)
                  have hR12 := R12.blk
                  have hR13 := setRow_heap _ _ _ HV _ _ hR12
                  replace hHV := Lib.hid hHV
                  replace hH10 := Lib.hid hH10
                  replace st10 := Lib.hid st10
                  replace sZ := Lib.hid sZ
                  replace sY := Lib.hid sY
                  replace hi32' := Lib.hid hi32'
                  replace hbl := Lib.hid hbl
                  replace R12 := Lib.hid R12
                  have HR12 := Lib.hid hR12
                  have HR13 := Lib.hid hR13
                  clear hR12 hR13
                  go_wp2_with (refine holdAt 72 ?_)
                  apply Hold.mk
                  refine wpList_load_row rfl _ _ rfl H rfl _ _ _ _ hRb Try.underlying57 rfl hsz2 ?_
                  refine wpList_store_row rfl _ _ _ rfl R _ rfl rfl _ _ HR12.out hsz2 hold2 hone ?_
                  go_wp2
                  refine bodyPost_ret (results_cell_row rfl _ _ R 57 HV (0, 0) _ rfl ?_ Try.underlying57 rfl hsz2) rfl ?_
                  · exact HR13.out
                  · exact Post.mk (((((sY.out.drop hdf).drop hkf).drop hcsf).drop hef).drop hgf) (by rw [hHV.out])
    · have g1 : ((Nm : Int) != 56) = true := by
        have : Nm ≠ 56 := fun e => hjz (hst.1 (by omega))
        simp; omega
      have s7' := (Stp.refl [d] wr o6).alloc (.cells #[.int .u8 0] 5) d
      rw [hml] at hm
      have h7 := Lib.hid (OwnB.stp hm ((Stp.refl [] wr o6).alloc (.cells #[.int .u8 0] 5) d) (by simp))
      have r7 := Lib.hid (RdB.new wr o6 d #[.int .u8 0] [0] rfl 1 rfl (by omega) 5 _ rfl)
      have s8 := Lib.hid (st6.trans s7')
      have hj1 : j + 1 ≤ zerosN b.length := by omega
      have hN6 : N ≤ 1000100 := by omega
      replace hN := Lib.hid hN
      replace hNm := Lib.hid hNm
      replace hst := Lib.hid hst
      replace hml := Lib.hid hml
      replace hm := Lib.hid hm
      replace st6 := Lib.hid st6
      clear s7'
      go_wp2_with (refine holdAt 22 ?_)
      apply Hold.mk
      refine appB _ _ rfl rfl h7.out r7.out rfl rfl (by rw [hml.out]; simp; omega) fun A8 cap8 w8 o8 s9 h9 _ _ => ?_
      rw [hml.out] at h9 ⊢
      have h9' : OwnB w8 o8 d (.slice A8 (N + 1) cap8) (b ++ 128 :: List.replicate (j + 1) 0) := by
        have e : b ++ 128 :: List.replicate (j + 1) (0 : UInt8) = (b ++ 128 :: List.replicate j 0) ++ [0] := by rw [List.replicate_succ', List.append_assoc, List.cons_append]
        rw [e]; exact h9
      change wpList _ _ _ _ (Act.put _ _ (.slice A8 (N + 1) cap8)) _
      have sA := Lib.hid (s8.out.trans s9)
      replace h9' := Lib.hid h9'
      clear h9 s9
      go_wp2
      go_roundw
      case rel => exact ⟨j + 1, o8, hj1, sA.out, h9'.out⟩
      case measure => simp; have := hN.out; omega
end Go.Proofs.Ytpjnmijfmfgdpaa
