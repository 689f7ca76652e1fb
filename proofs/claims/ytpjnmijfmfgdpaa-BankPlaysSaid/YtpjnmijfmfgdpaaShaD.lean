/- SHA-256: the program's Sum, the walk. -/
import Derived.Test.YtpjnmijfmfgdpaaShaB
import Derived.Test.YtpjnmijfmfgdpaaShaQ
namespace Go.Proofs.Ytpjnmijfmfgdpaa
set_option linter.unusedVariables false
set_option linter.unusedSimpArgs false
open Go.RowKit

/-- A new state, and the numbers. -/
theorem Wd.new2 (w : World) (o : Col) (c t : Nat) (l : List Int) (h : ∀ x ∈ l, U x) : Stp [] w o (w.alloc (.cells (us l).toArray t)) (paint o w.heap.size c) := (Stp.refl [] w o).alloc _ c
/-- What the first loop keeps. -/
def SmA (w0 : World) (o0 : Col) (c c2 s : Nat) (b : List UInt8) (x : Value) (wr : World) : Prop :=
  ∃ (n : Nat) (o' : Col), RdB wr o' c2 x (b.drop (64 * n)) ∧ n ≤ b.length / 64 ∧ Stp [c] w0 o0 wr o' ∧ Wd wr o' c s 123 (blocksI ivI b n)
/-- What the second loop keeps. -/
def SmB (w0 : World) (o0 : Col) (l L n : Nat) (pre post : List UInt8) (x : Value) (wr : World) : Prop :=
  ∃ (i : Nat) (o' : Col), x = .int .i64 i ∧ i ≤ 8 ∧ Stp [l] w0 o0 wr o' ∧ Bk wr o' l L 125 (pre ++ (midB n i ++ post))
/-- What the third loop keeps. -/
def SmC (w0 : World) (o0 : Col) (c p z : Nat) (s : List Int) (m : List UInt8) (x : Value) (wr : World) : Prop :=
  ∃ (a i : Nat) (o' : Col), x = .int .i64 a ∧ a = 64 * i ∧ i ≤ z ∧ Stp [c] w0 o0 wr o' ∧ Wd wr o' c p 123 (blocksI s m i)
/-- What the fourth loop keeps. -/
def SmE (w0 : World) (o0 : Col) (g R : Nat) (s : List Int) (x : Value) (wr : World) : Prop :=
  ∃ (i : Nat) (o' : Col), x = .int .i64 i ∧ i ≤ 8 ∧ Stp [g] w0 o0 wr o' ∧ Bk wr o' g R 57 (bytesI (s.take i) ++ List.replicate (32 - 4 * i) 0)
theorem SmA.to {w0 : World} {o0 : Col} {c c2 s : Nat} {b : List UInt8} {x : Value} {wr : World} (h : SmA w0 o0 c c2 s b x wr) (W : World) (e : wr = W) : SmA w0 o0 c c2 s b x W := e ▸ h

set_option maxHeartbeats 8000000 in
set_option maxRecDepth 100000 in
theorem shaSum_calls (c2 : Nat) (v : Value) (b : List UInt8) (w : World) (o : Col) (hb : RdB w o c2 v b) (hlen : b.length ≤ 1000000) :
    Calls Try.prog 53 #[v] w (Post [] w o fun r _ _ => r = .agg (vbs (sha b)).toArray) := by
  obtain ⟨A, cap, rfl, hlc, hA⟩ := hb.shape
  obtain ⟨g, hg1, _, hgf⟩ := fresh o w.heap.size [c2]
  simp only [List.mem_cons, List.not_mem_nil, or_false, not_or] at hg1
  obtain ⟨c, hc1, _, hcf⟩ := fresh o w.heap.size [c2, g]
  simp only [List.mem_cons, List.not_mem_nil, or_false, not_or] at hc1
  obtain ⟨hc2, hcg⟩ := hc1
  obtain ⟨k, hk1, _, hkf⟩ := fresh o w.heap.size [c2, g, c]
  simp only [List.mem_cons, List.not_mem_nil, or_false, not_or] at hk1
  obtain ⟨hk2, hkg, hkc'⟩ := hk1
  obtain ⟨l, hl1, _, hlf⟩ := fresh o w.heap.size [c2, g, c, k]
  simp only [List.mem_cons, List.not_mem_nil, or_false, not_or] at hl1
  obtain ⟨hl2, hlg, hlc', hlk⟩ := hl1
  obtain ⟨wA, oA, hwA, sA, R0, S0⟩ := two32 w o c g
  have hbA := Lib.hid (hb.stp sA (by simp))
  replace hb := Lib.hid hb
  replace hwA := Lib.hid hwA
  replace sA := Lib.hid sA
  replace R0 := Lib.hid R0
  replace S0 := Lib.hid S0
  go_enter Try.func53, Try.ntmps53
  go_wp2_with fail
  refine (numbers_calls _ oA).mono ?_
  rintro e w1 ⟨r, o1, rfl, s1, rfl⟩
  replace s1 : Stp [] wA oA w1 o1 := by rw [← hwA.out]; exact s1
  have R1 := R0.out.stp s1 (by simp)
  have S1 := S0.out.stp s1 (by simp)
  have hb1 := hbA.out.stp s1 (by simp)
  have s1' := sA.out.trans s1
  have kB : Stp [k] w1 o1 (w1.alloc (.cells (us (List.replicate 64 0)).toArray 112)) (paint o1 w1.heap.size k) := (Stp.refl [k] w1 o1).alloc _ k
  have hkb : (w1.alloc (.cells (us (List.replicate 64 0)).toArray 112)).heap[w1.heap.size]? = some (.cells (us (List.replicate 64 0)).toArray 112 (0, 0)) := heap_alloc_new _ _
  have hkc : paint o1 w1.heap.size k w1.heap.size = k := paint_at _ _ _
  obtain ⟨K, hK⟩ : ∃ K, (us kI).toArray = K := ⟨_, rfl⟩
  have hszK : (Try.prog.info? 112).map (·.size) = some K.size := by rw [← hK]; kernel_rfl
  have holdK : (us (List.replicate 64 0)).toArray.size = K.size := by rw [← hK]; kernel_rfl
  have honeK : K.all (·.oneCell') = true := by rw [← hK]; decide +kernel
  rw [hK]
  replace hK := Lib.hid hK
  have sK : Stp [k] w1 o1 ((w1.alloc (.cells (us (List.replicate 64 0)).toArray 112)).setRow w1.heap.size K) (paint o1 w1.heap.size k) := kB.trans (setRow_stp (by simp [hkc]) _)
  have K2 : Wd ((w1.alloc (.cells (us (List.replicate 64 0)).toArray 112)).setRow w1.heap.size K) (paint o1 w1.heap.size k) k w1.heap.size 112 kI := ⟨by rw [hK.out]; exact setRow_heap _ _ _ _ _ _ hkb, hkc, kI_U⟩
  obtain ⟨wB, hwB⟩ : ∃ wB, (w1.alloc (.cells (us (List.replicate 64 0)).toArray 112)).setRow w1.heap.size K = wB := ⟨_, rfl⟩
  obtain ⟨oB, hoB⟩ : ∃ oB, paint o1 w1.heap.size k = oB := ⟨_, rfl⟩
  rw [hwB, hoB] at sK K2
  have R2 := R1.stp sK (by simpa using fun x : g = k => hkg x.symm)
  have S2 := S1.stp sK (by simpa using fun x : c = k => hkc' x.symm)
  have hb2 := hb1.stp sK (by simpa using fun x : c2 = k => hk2 x.symm)
  have s2 : Stp [k] w o wB oB := s1'.none.trans sK
  obtain ⟨q, hq⟩ : ∃ q, w1.heap.size = q := ⟨_, rfl⟩
  obtain ⟨R, hR⟩ : ∃ R, w.heap.size = R := ⟨_, rfl⟩
  obtain ⟨p, hp⟩ : ∃ p, R + 1 = p := ⟨_, rfl⟩
  rw [hq] at K2
  rw [hR] at R2
  rw [hR, hp] at S2
  have HwB := Lib.hid hwB
  have HR := Lib.hid hR
  have Hp := Lib.hid hp
  have Hq := Lib.hid hq
  clear hwB hR hp hq
  replace K2 := Lib.hid K2
  replace R2 := Lib.hid R2
  replace S2 := Lib.hid S2
  replace hb2 := Lib.hid hb2
  replace s2 := Lib.hid s2
  replace sK := Lib.hid sK
  replace R1 := Lib.hid R1
  replace S1 := Lib.hid S1
  replace hb1 := Lib.hid hb1
  replace s1' := Lib.hid s1'
  replace s1 := Lib.hid s1
  replace kB := Lib.hid kB
  go_wp2_with (refine wpList_store_row rfl _ _ _ rfl w1.heap.size K rfl rfl 112 (us (List.replicate 64 0)).toArray hkb hszK holdK honeK ?_)
  rw [Hq.out, HR.out, Hp.out]
  go_loopw [5] (SmA wB oB c c2 p b) (fun x _ => (match x with | .slice _ n _ => n | _ => 0))
  case atStart =>
    have hst : SmA wB oB c c2 p b (.slice A b.length cap) wB := ⟨0, oB, by simpa using hb2.out, Nat.zero_le _, Stp.refl _ _ _, S2.out⟩
    exact hst.to _ (by have e := HwB.out; rw [Hq.out] at e; exact e.symm)
  case round =>
    obtain ⟨n, o3, hr, hn, st, hS⟩ := hrel
    have hl64 : (b.drop (64 * n)).length = b.length - 64 * n := List.length_drop
    obtain ⟨A', cap', rfl, hlc2, hA'⟩ := hr.shape
    rw [hl64] at hlc2 ⊢
    have hK3 := K2.out.stp st (by simpa using hkc')
    replace hS := Lib.hid hS
    replace st := Lib.hid st
    by_cases hge : 64 ≤ b.length - 64 * n
    · obtain ⟨m, hm⟩ : ∃ m, b.length - 64 * n = m := ⟨_, rfl⟩
      rw [hm] at hge hl64 hlc2 ⊢
      have g1 : decide ((64 : Int) ≤ (m : Int)) = true := decide_eq_true (by omega)
      replace hK3 := Lib.hid hK3
      rw [hl64] at hr
      have hr2 := Lib.hid hr
      go_wp2_with fail
      refine (shaTake_calls c c2 k p q _ kI _ _ _ _ hS.out (blocksI_len _ rfl _) hK3.out kI_len hr2.out (by rw [hl64]; exact hge) (by simpa using fun x : c2 = c => hc2 x.symm) (by simpa using hkc')).mono ?_
      rintro e w4 ⟨r, o4, rfl, s4, rfl, hS4⟩
      have hr4 := hr2.out.stp s4 (by simpa using fun x : c2 = c => hc2 x.symm)
      have hn1 : n + 1 ≤ b.length / 64 := by omega
      have hd1 : (b.drop (64 * n)).drop 64 = b.drop (64 * (n + 1)) := by rw [List.drop_drop]; congr 1
      have st4 := Lib.hid (st.out.trans s4)
      replace hS4 := Lib.hid hS4
      replace s4 := Lib.hid s4
      replace hn1 := Lib.hid hn1
      replace hd1 := Lib.hid hd1
      replace hm := Lib.hid hm
      replace hl64 := Lib.hid hl64
      go_wp2_with (refine holdAt 21 ?_)
      apply Hold.mk
      rw [← hl64.out] at hr4 ⊢
      refine slcBL (c := c2) _ _ rfl rfl hr4 64 rfl rfl (by rw [hl64.out]; exact hge) fun A5 r5 => ?_
      rw [hd1.out, hl64.out] at r5
      rw [hl64.out]
      replace r5 := Lib.hid r5
      replace hr4 := Lib.hid hr4
      go_wp2
      go_roundw
      case rel => exact ⟨n + 1, o4, r5.out, hn1.out, st4.out, hS4.out⟩
      case measure => simp; omega
    · have hn9 : n = b.length / 64 := by omega
      obtain ⟨m, hm⟩ : ∃ m, b.length - 64 * n = m := ⟨_, rfl⟩
      rw [hm] at hge hl64 hlc2 ⊢
      have g1 : decide ((64 : Int) ≤ (m : Int)) = false := decide_eq_false (by omega)
      have hm64 : m < 64 := by omega
      have hr3 := hr
      rw [hn9] at hr3
      rw [hl64] at hr
      obtain ⟨r, hrr⟩ : ∃ r, b.drop (64 * (b.length / 64)) = r := ⟨_, rfl⟩
      have hrl : r.length = m := by rw [← hrr, ← hn9]; exact hl64
      rw [hn9, hrr] at hr
      have sL : Stp [] wr o3 (wr.alloc (.cells (vbs (List.replicate 128 0)).toArray 125)) (paint o3 wr.heap.size l) := (Stp.refl [] wr o3).alloc _ l
      have L0 := Bk.new wr o3 l 125 (List.replicate 128 0)
      have hr4 := hr.stp sL (by simp)
      have hK4 := hK3.stp sL (by simp)
      have hS4 := hS.out.stp sL (by simp)
      rw [hn9] at hS4
      have R4 := ((R2.out.stp st.out (by simpa using fun x : g = c => hcg x.symm)).stp sL (by simp))
      have st4 := st.out.trans sL.none
      replace hr := Lib.hid hr
      replace hr3 := Lib.hid hr3
      replace hr4 := Lib.hid hr4
      replace hK3 := Lib.hid hK3
      replace hK4 := Lib.hid hK4
      replace hS4 := Lib.hid hS4
      replace R4 := Lib.hid R4
      replace st4 := Lib.hid st4
      replace L0 := Lib.hid L0
      replace sL := Lib.hid sL
      replace hrr := Lib.hid hrr
      replace hn9 := Lib.hid hn9
      replace hm := Lib.hid hm
      replace hl64 := Lib.hid hl64
      go_wp2_with (refine holdAt 26 ?_)
      apply Hold.mk
      have hz : Try.zeroCells125 = (vbs (List.replicate 128 0)).toArray := by kernel_rfl
      rw [hz]
      refine copyB _ _ rfl rfl rfl rfl (hr4.out) L0.out.blk L0.out.col (by omega) (fun _ => rfl) (by rw [vbs_length, List.length_replicate]; omega) fun w5 s5 hb5 => ?_
      clear hz
      rw [hrl]
      obtain ⟨L, hL⟩ : ∃ L, wr.heap.size = L := ⟨_, rfl⟩
      have hcol : (paint o3 wr.heap.size l) L = l := by rw [← hL]; exact paint_at _ _ _
      rw [hL] at hb5 ⊢
      have L5 : Bk w5 (paint o3 wr.heap.size l) l L 125 (r ++ List.replicate (128 - m) 0) := ⟨by rw [hb5, cutRow, hrl], hcol⟩
      obtain ⟨o5, ho5⟩ : ∃ o5, paint o3 wr.heap.size l = o5 := ⟨_, rfl⟩
      rw [ho5] at L5 s5 hcol hS4 hK4 R4 st4
      have K5 := K2.out
      have e5 := L5.cell (i := m) (by rw [List.length_append, List.length_replicate]; omega)
      have f5 := L5.free m
      replace hL := Lib.hid hL
      replace ho5 := Lib.hid ho5
      replace L5 := Lib.hid L5
      clear hb5
      replace s5 := Lib.hid s5
      -- printed
      by_cases h56 : 56 ≤ m
      · have g56 : decide ((56 : Int) ≤ (m : Int)) = true := decide_eq_true (by omega)
        have hE : endN r.length = 128 := by rw [hrl, endN]; split <;> omega
        obtain ⟨L6, s6⟩ := L5.out.set m 128
        rw [markB hrl (show m + 9 ≤ 128 by omega) (by omega) b.length] at L6
        have S6 := ((hS4.out.stp s5.out (by simpa using fun x : c = l => hlc' x.symm)).stp s6 (by simpa using fun x : c = l => hlc' x.symm))
        have K6 := ((hK4.out.stp s5.out (by simpa using fun x : k = l => hlk x.symm)).stp s6 (by simpa using fun x : k = l => hlk x.symm))
        have R6 := ((R4.out.stp s5.out (by simpa using fun x : g = l => hlg x.symm)).stp s6 (by simpa using fun x : g = l => hlg x.symm))
        have s7 : Stp [k, c, l, g] w o _ o5 := ((s2.out.mono (by simp) : Stp [k, c, l, g] _ _ _ _).trans (st4.out.mono (by simp))).trans (((s5.out.mono (by simp) : Stp [k, c, l, g] _ _ _ _).trans (s6.mono (by simp))))
        change Bk (w5.setCell ⟨L, m, none⟩ (.int .u8 128)) _ _ _ _ _ at L6
        change Wd (w5.setCell ⟨L, m, none⟩ (.int .u8 128)) _ _ _ _ _ at S6
        change Wd (w5.setCell ⟨L, m, none⟩ (.int .u8 128)) _ _ _ _ _ at K6
        change Bk (w5.setCell ⟨L, m, none⟩ (.int .u8 128)) _ _ _ _ _ at R6
        change Stp [k, c, l, g] w o (w5.setCell ⟨L, m, none⟩ (.int .u8 128)) o5 at s7
        replace L6 := Lib.hid L6
        replace S6 := Lib.hid S6
        replace K6 := Lib.hid K6
        replace R6 := Lib.hid R6
        replace s7 := Lib.hid s7
        replace s6 := Lib.hid s6
        replace hE := Lib.hid hE
        have Hpl := Lib.hid (show (preB r 128).length + 8 = 128 by rw [preB_len (by omega)])
        replace h56 := Lib.hid h56
        go_wp2_with fail
        clear e5 f5
        obtain ⟨w6, hw6⟩ : ∃ w6, w5.setCell ⟨L, m, none⟩ (.int .u8 128) = w6 := ⟨_, rfl⟩
        rw [hw6] at L6 S6 K6 R6 s7 ⊢
        clear hw6 s6
        go_loopw [35] (SmB w6 o5 l L b.length (preB r 128) (List.replicate (128 - 128) 0)) (fun x _ => 8 - (intOf x).toNat)
        case atStart => exact ⟨0, o5, rfl, by omega, Stp.refl _ _ _, L6.out⟩
        case round =>
          obtain ⟨i, o6, rfl, hi, st6, hL6⟩ := hrel
          have hpl := Hpl.out
          by_cases hi8 : i < 8
          · have g8 : decide ((i : Int) < 8) = true := decide_eq_true (by omega)
            obtain ⟨j, hj⟩ : ∃ j, j = 128 - 1 - i := ⟨_, rfl⟩
            obtain ⟨t, ht⟩ : ∃ t, 8 * i = t := ⟨_, rfl⟩
            have hjI : (127 : Int) - (i : Int) = (j : Int) := by omega
            have htI : 8 * (i : Int) = (t : Int) := by omega
            have ht2 : (0 : Int) ≤ (t : Int) ∧ (t : Int) ≤ 56 := by omega
            have hj2 : (0 : Int) ≤ (j : Int) ∧ (j : Int) < 128 := by omega
            have ej := hL6.cell (i := j) (by rw [List.length_append, List.length_append, midB_len, List.length_replicate]; omega)
            have fj := hL6.free j
            obtain ⟨xj, hxj⟩ : ∃ xj, (((preB r 128 ++ (midB b.length i ++ List.replicate (128 - 128) 0)).getD j 0).toNat : Int) = xj := ⟨_, rfl⟩
            rw [hxj] at ej
            have hv := lenB_val b.length i
            rw [ht] at hv
            have hset := midB_set (preB r 128) (List.replicate (128 - 128) 0) b.length hi8 (j := j) (by omega)
            replace hj := Lib.hid hj
            replace ht := Lib.hid ht
            replace hxj := Lib.hid hxj
            replace hL6 := Lib.hid hL6
            replace st6 := Lib.hid st6
            replace hv := hv.symm
            replace hset := Lib.hid hset
            replace hpl := Lib.hid hpl
            go_wp2
            go_roundw
            case rel =>
              obtain ⟨L7, s7'⟩ := hL6.out.set j (lenB b.length i)
              exact ⟨i + 1, o6, by go_num, by omega, st6.out.trans s7', by rw [← hset.out]; exact L7⟩
            case measure => simp [intOf]; omega
          · have hi8' : i = 8 := by omega
            have g8 : decide ((i : Int) < 8) = false := decide_eq_false (by omega)
            rw [hi8', lastB_pre b.length hE.out] at hL6
            obtain ⟨M, hM⟩ : ∃ M, lastB r b.length ++ List.replicate (128 - 128) 0 = M := ⟨_, rfl⟩
            rw [hM] at hL6
            have hM128 : M.length = 128 := by rw [← hM, List.length_append, lastB_len _ (by omega), hE.out, List.length_replicate]
            obtain ⟨S0', hS0'⟩ : ∃ S0', blocksI ivI b (b.length / 64) = S0' := ⟨_, rfl⟩
            have hsha : shaI b = blocksI S0' M (128 / 64) := by
              rw [shaI_eq, hS0', hrr.out, ← hM, blocksI_last _ _ _ _ _ (by rw [lastB_len _ (by omega), hE.out]), show b.length % 64 = r.length by rw [← hrr.out, List.length_drop]; omega, hE.out]
            have hl0 : S0'.length = 8 := by rw [← hS0']; exact blocksI_len _ rfl _
            have S7 := S6.out.stp st6 (by simpa using fun x : c = l => hlc' x.symm)
            have K7 := K6.out.stp st6 (by simpa using fun x : k = l => hlk x.symm)
            have R7 := R6.out.stp st6 (by simpa using fun x : g = l => hlg x.symm)
            rw [hS0'] at S7
            have s8 := s7.out.trans (st6.mono (by simp) : Stp [k, c, l, g] _ _ _ _)
            replace hi8' := Lib.hid hi8'
            replace hM := Lib.hid hM
            replace hS0' := Lib.hid hS0'
            replace hsha := Lib.hid hsha
            replace S7 := Lib.hid S7
            replace K7 := Lib.hid K7
            replace R7 := Lib.hid R7
            replace s8 := Lib.hid s8
            replace hL6 := Lib.hid hL6
            replace st6 := Lib.hid st6
            replace hpl := Lib.hid hpl
            go_wp2_with fail
            obtain ⟨w7, hw7⟩ : ∃ w7, wr = w7 := ⟨_, rfl⟩
            subst hw7
            go_loopw [11] (SmC wr o6 c p (128 / 64) S0' M) (fun x _ => 128 - (intOf x).toNat)
            case atStart => exact ⟨0, 0, o6, rfl, rfl, by omega, Stp.refl _ _ _, S7.out⟩
            case round =>
              obtain ⟨a, z, o7, rfl, haz, hz, st7, hS7⟩ := hrel
              by_cases ha : a < 128
              · have g9 : decide ((a : Int) < 128) = true := decide_eq_true (by omega)
                have ha2 : (0 : Int) ≤ (a : Int) ∧ (a : Int) ≤ 128 := by omega
                have hL7 := hL6.out.stp st7 (by simpa using hlc')
                have K8 := K7.out.stp st7 (by simpa using hkc')
                have hr7 := hL7.rd a (by omega) (by omega) (show 128 - a = M.length - a by omega)
                have hd64 : 64 ≤ (M.drop a).length := by rw [List.length_drop]; omega
                have hnext : blockI kI (blocksI S0' M z) (M.drop a) = blocksI S0' M (z + 1) := by rw [haz]; rfl
                have hz1 : a + 64 = 64 * (z + 1) ∧ z + 1 ≤ 128 / 64 := by omega
                replace hz1 := Lib.hid hz1
                replace hnext := Lib.hid hnext
                replace hz := Lib.hid hz
                replace haz := Lib.hid haz
                replace hL7 := Lib.hid hL7
                replace K8 := Lib.hid K8
                replace hr7 := Lib.hid hr7
                replace hS7 := Lib.hid hS7
                replace st7 := Lib.hid st7
                go_wp2_with fail
                refine (shaTake_calls c l k p q _ kI _ _ _ _ hS7.out (blocksI_len M hl0 z) K8.out kI_len hr7.out hd64 (by simpa using hlc') (by simpa using hkc')).mono ?_
                rw [hnext.out]
                rintro e w9 ⟨rr, o9, rfl, s9, rfl, hS9⟩
                replace s9 := Lib.hid (st7.out.trans s9)
                replace hS9 := Lib.hid hS9
                go_wp2
                go_roundw
                case rel => exact ⟨a + 64, z + 1, o9, by go_num, hz1.out.1, hz1.out.2, s9.out, hS9.out⟩
                case measure => simp [intOf]; omega
              · have hzE : z = 128 / 64 := by omega
                have g9 : decide ((a : Int) < 128) = false := decide_eq_false (by omega)
                rw [hzE, ← hsha.out] at hS7
                have R8 := R7.out.stp st7 (by simpa using fun x : g = c => hcg x.symm)
                have s9 := s8.out.trans (st7.mono (by simp) : Stp [k, c, l, g] _ _ _ _)
                obtain ⟨l9, hl9⟩ : ∃ l9, shaI b = l9 := ⟨_, rfl⟩
                have hlen9 : l9.length = 8 := by rw [← hl9]; exact shaI_len b
                have hU9 : ∀ x ∈ l9, U x := by rw [← hl9]; exact shaI_U b
                rw [hl9] at hS7
                have hres : sha b = bytesI l9 := by rw [sha, hl9]
                have hsz : (Try.prog.info? 123).map (·.size) = some (us l9).toArray.size := by rw [show (us l9).toArray.size = 8 by simp [us, hlen9]]; kernel_rfl
                replace hzE := Lib.hid hzE
                replace haz := Lib.hid haz
                replace hl9 := Lib.hid hl9
                replace hres := Lib.hid hres
                replace hlen9 := Lib.hid hlen9
                replace hU9 := Lib.hid hU9
                replace R8 := Lib.hid R8
                replace s9 := Lib.hid s9
                replace hS7 := Lib.hid hS7
                replace st7 := Lib.hid st7
                go_wp2_with (refine holdAt 57 ?_)
                apply Hold.mk
                refine wpList_load_row rfl _ _ rfl p rfl _ _ _ _ hS7.out.blk Try.underlying123 rfl hsz ?_
                go_wp2_with fail
                obtain ⟨w8, hw8⟩ : ∃ w8, wr = w8 := ⟨_, rfl⟩
                subst hw8
                go_loopw [58] (SmE wr o7 g R l9) (fun x _ => 8 - (intOf x).toNat)
                case atStart => exact ⟨0, o7, rfl, by omega, Stp.refl _ _ _, R8.out⟩
                case round =>
                  obtain ⟨y, o8, rfl, hy, st8, hR8⟩ := hrel
                  by_cases hy8 : y < 8
                  · have g10 : decide ((y : Int) < 8) = true := decide_eq_true (by omega)
                    have hxU := getD_U hU9.out y
                    obtain ⟨x, hx⟩ : ∃ x, l9.getD y 0 = x := ⟨_, rfl⟩
                    rw [hx] at hxU
                    have hxU' : 0 ≤ x ∧ x < 4294967296 := hxU
                    have hy2 : (0 : Int) ≤ (y : Int) ∧ (y : Int) < 8 := by omega
                    obtain ⟨t0, ht0⟩ : ∃ t0, 4 * y = t0 := ⟨_, rfl⟩
                    obtain ⟨t1, ht1⟩ : ∃ t1, t0 + 1 = t1 := ⟨_, rfl⟩
                    obtain ⟨t2, ht2⟩ : ∃ t2, t0 + 2 = t2 := ⟨_, rfl⟩
                    obtain ⟨t3, ht3⟩ : ∃ t3, t0 + 3 = t3 := ⟨_, rfl⟩
                    have a0 : 4 * (y : Int) = (t0 : Int) := by omega
                    have a1 : (t0 : Int) + 1 = (t1 : Int) := by omega
                    have a2 : (t0 : Int) + 2 = (t2 : Int) := by omega
                    have a3 : (t0 : Int) + 3 = (t3 : Int) := by omega
                    have b0 : (0 : Int) ≤ (t0 : Int) ∧ (t0 : Int) < 32 := by omega
                    have b1 : (0 : Int) ≤ (t1 : Int) ∧ (t1 : Int) < 32 := by omega
                    have b2 : (0 : Int) ≤ (t2 : Int) ∧ (t2 : Int) < 32 := by omega
                    have b3 : (0 : Int) ≤ (t3 : Int) ∧ (t3 : Int) < 32 := by omega
                    have hRl : (bytesI (l9.take y) ++ List.replicate (32 - 4 * y) 0).length = 32 := by rw [List.length_append, bytesI_len, List.length_take, hlen9.out, List.length_replicate]; omega
                    obtain ⟨RL, hRL⟩ : ∃ RL, bytesI (l9.take y) ++ List.replicate (32 - 4 * y) 0 = RL := ⟨_, rfl⟩
                    rw [hRL] at hRl hR8
                    have e0 := hR8.cell (i := t0) (by omega)
                    have e1 := hR8.cell (i := t1) (by omega)
                    have e2 := hR8.cell (i := t2) (by omega)
                    have e3 := hR8.cell (i := t3) (by omega)
                    have f0 := hR8.free t0
                    have f1 := hR8.free t1
                    have f2 := hR8.free t2
                    have f3 := hR8.free t3
                    obtain ⟨z0, hz0⟩ : ∃ z0, ((RL.getD t0 0).toNat : Int) = z0 := ⟨_, rfl⟩
                    obtain ⟨z1, hz1⟩ : ∃ z1, ((RL.getD t1 0).toNat : Int) = z1 := ⟨_, rfl⟩
                    obtain ⟨z2, hz2⟩ : ∃ z2, ((RL.getD t2 0).toNat : Int) = z2 := ⟨_, rfl⟩
                    obtain ⟨z3, hz3⟩ : ∃ z3, ((RL.getD t3 0).toNat : Int) = z3 := ⟨_, rfl⟩
                    rw [hz0] at e0
                    rw [hz1] at e1
                    rw [hz2] at e2
                    rw [hz3] at e3
                    replace hz0 := Lib.hid hz0
                    replace hz1 := Lib.hid hz1
                    replace hz2 := Lib.hid hz2
                    replace hz3 := Lib.hid hz3
                    have n01 : t1 ≠ t0 := by omega
                    have n02 : t2 ≠ t0 := by omega
                    have n12 : t2 ≠ t1 := by omega
                    have n03 : t3 ≠ t0 := by omega
                    have n13 : t3 ≠ t1 := by omega
                    have n23 : t3 ≠ t2 := by omega
                    have hw0 := wordB_0 hxU
                    have hw1 := wordB_1 hxU
                    have hw2 := wordB_2 hxU
                    have hw3 := wordB_3 hxU
                    have hstep := bytesI_step hlen9.out hy8
                    rw [hRL, ht0, ht1, ht2, ht3, hx] at hstep
                    replace hstep := Lib.hid hstep
                    replace ht0 := Lib.hid ht0
                    replace ht1 := Lib.hid ht1
                    replace ht2 := Lib.hid ht2
                    replace ht3 := Lib.hid ht3
                    replace hRl := Lib.hid hRl
                    replace hRL := Lib.hid hRL
                    replace hR8 := Lib.hid hR8
                    replace st8 := Lib.hid st8
                    replace hx := Lib.hid hx
                    go_wp2_with (refine holdAt 61 ?_)
                    apply Hold.mk
                    refine wp_index_us rfl _ _ rfl l9 hlen9.out y hy8 rfl rfl ?_
                    rw [hx.out]
                    go_wp2
                    go_roundw
                    case rel =>
                      obtain ⟨Q0, p0⟩ := hR8.out.set t0 (wordB x 0)
                      obtain ⟨Q1, p1⟩ := Q0.set t1 (wordB x 1)
                      obtain ⟨Q2, p2⟩ := Q1.set t2 (wordB x 2)
                      obtain ⟨Q3, p3⟩ := Q2.set t3 (wordB x 3)
                      exact ⟨y + 1, o8, by go_num, by omega, (((st8.out.trans p0).trans p1).trans p2).trans p3, by rw [hstep.out]; exact Q3⟩
                    case measure => simp [intOf]; omega
                  · have hy8' : y = 8 := by omega
                    have g10 : decide ((y : Int) < 8) = false := decide_eq_false (by omega)
                    rw [hy8', List.take_of_length_le (by rw [hlen9.out]; exact Nat.le_refl _), show 32 - 4 * 8 = 0 from rfl, List.replicate_zero, List.append_nil, ← hres.out] at hR8
                    have hbl : (sha b).length = 32 := sha_len b
                    have hsz2 : (Try.prog.info? 57).map (·.size) = some (vbs (sha b)).toArray.size := by rw [show (vbs (sha b)).toArray.size = 32 by simp [vbs, hbl]]; kernel_rfl
                    have hone : (vbs (sha b)).toArray.all (·.oneCell') = true := vbs_all _
                    obtain ⟨HV, hHV⟩ : ∃ HV, (vbs (sha b)).toArray = HV := ⟨_, rfl⟩
                    have hRb := hR8.blk
                    rw [hHV] at hRb hsz2 hone
                    have sA9 : Stp [k, c, l, g] w o _ o8 := s9.out.trans (st8.mono (by simp))
                    have sA10 := sA9.trans (setRow_stp (C := [k, c, l, g]) (g := R) (by simp [hR8.col]) HV)
                    replace hHV := Lib.hid hHV
                    replace hR8 := Lib.hid hR8
                    replace st8 := Lib.hid st8
                    replace sA9 := Lib.hid sA9
                    replace sA10 := Lib.hid sA10
                    replace hy8' := Lib.hid hy8'
                    replace hbl := Lib.hid hbl
                    go_wp2_with (refine holdAt 89 ?_)
                    apply Hold.mk
                    refine wpList_load_row rfl _ _ rfl R rfl _ _ _ _ hRb Try.underlying57 rfl hsz2 ?_
                    refine wpList_store_row rfl _ _ _ rfl R _ rfl rfl _ _ hRb hsz2 rfl hone ?_
                    go_wp2
                    refine bodyPost_ret (results_cell_row rfl _ _ R 57 HV (0, 0) _ rfl ?_ Try.underlying57 rfl hsz2) rfl ?_
                    · exact setRow_heap _ _ _ _ _ _ hRb
                    · exact Post.mk ((((sA10.out.drop hkf).drop hcf).drop hlf).drop hgf) (by rw [hHV.out])
      · have g56 : decide ((56 : Int) ≤ (m : Int)) = false := decide_eq_false (by omega)
        have hE : endN r.length = 64 := by rw [hrl, endN]; split <;> omega
        obtain ⟨L6, s6⟩ := L5.out.set m 128
        rw [markB hrl (show m + 9 ≤ 64 by omega) (by omega) b.length] at L6
        have S6 := ((hS4.out.stp s5.out (by simpa using fun x : c = l => hlc' x.symm)).stp s6 (by simpa using fun x : c = l => hlc' x.symm))
        have K6 := ((hK4.out.stp s5.out (by simpa using fun x : k = l => hlk x.symm)).stp s6 (by simpa using fun x : k = l => hlk x.symm))
        have R6 := ((R4.out.stp s5.out (by simpa using fun x : g = l => hlg x.symm)).stp s6 (by simpa using fun x : g = l => hlg x.symm))
        have s7 : Stp [k, c, l, g] w o _ o5 := ((s2.out.mono (by simp) : Stp [k, c, l, g] _ _ _ _).trans (st4.out.mono (by simp))).trans (((s5.out.mono (by simp) : Stp [k, c, l, g] _ _ _ _).trans (s6.mono (by simp))))
        change Bk (w5.setCell ⟨L, m, none⟩ (.int .u8 128)) _ _ _ _ _ at L6
        change Wd (w5.setCell ⟨L, m, none⟩ (.int .u8 128)) _ _ _ _ _ at S6
        change Wd (w5.setCell ⟨L, m, none⟩ (.int .u8 128)) _ _ _ _ _ at K6
        change Bk (w5.setCell ⟨L, m, none⟩ (.int .u8 128)) _ _ _ _ _ at R6
        change Stp [k, c, l, g] w o (w5.setCell ⟨L, m, none⟩ (.int .u8 128)) o5 at s7
        replace L6 := Lib.hid L6
        replace S6 := Lib.hid S6
        replace K6 := Lib.hid K6
        replace R6 := Lib.hid R6
        replace s7 := Lib.hid s7
        replace s6 := Lib.hid s6
        replace hE := Lib.hid hE
        have Hpl := Lib.hid (show (preB r 64).length + 8 = 64 by rw [preB_len (by omega)])
        replace h56 := Lib.hid h56
        go_wp2_with fail
        clear e5 f5
        obtain ⟨w6, hw6⟩ : ∃ w6, w5.setCell ⟨L, m, none⟩ (.int .u8 128) = w6 := ⟨_, rfl⟩
        rw [hw6] at L6 S6 K6 R6 s7 ⊢
        clear hw6 s6
        go_loopw [35] (SmB w6 o5 l L b.length (preB r 64) (List.replicate (128 - 64) 0)) (fun x _ => 8 - (intOf x).toNat)
        case atStart => exact ⟨0, o5, rfl, by omega, Stp.refl _ _ _, L6.out⟩
        case round =>
          obtain ⟨i, o6, rfl, hi, st6, hL6⟩ := hrel
          have hpl := Hpl.out
          by_cases hi8 : i < 8
          · have g8 : decide ((i : Int) < 8) = true := decide_eq_true (by omega)
            obtain ⟨j, hj⟩ : ∃ j, j = 64 - 1 - i := ⟨_, rfl⟩
            obtain ⟨t, ht⟩ : ∃ t, 8 * i = t := ⟨_, rfl⟩
            have hjI : (63 : Int) - (i : Int) = (j : Int) := by omega
            have htI : 8 * (i : Int) = (t : Int) := by omega
            have ht2 : (0 : Int) ≤ (t : Int) ∧ (t : Int) ≤ 56 := by omega
            have hj2 : (0 : Int) ≤ (j : Int) ∧ (j : Int) < 128 := by omega
            have ej := hL6.cell (i := j) (by rw [List.length_append, List.length_append, midB_len, List.length_replicate]; omega)
            have fj := hL6.free j
            obtain ⟨xj, hxj⟩ : ∃ xj, (((preB r 64 ++ (midB b.length i ++ List.replicate (128 - 64) 0)).getD j 0).toNat : Int) = xj := ⟨_, rfl⟩
            rw [hxj] at ej
            have hv := lenB_val b.length i
            rw [ht] at hv
            have hset := midB_set (preB r 64) (List.replicate (128 - 64) 0) b.length hi8 (j := j) (by omega)
            replace hj := Lib.hid hj
            replace ht := Lib.hid ht
            replace hxj := Lib.hid hxj
            replace hL6 := Lib.hid hL6
            replace st6 := Lib.hid st6
            replace hv := hv.symm
            replace hset := Lib.hid hset
            replace hpl := Lib.hid hpl
            go_wp2
            go_roundw
            case rel =>
              obtain ⟨L7, s7'⟩ := hL6.out.set j (lenB b.length i)
              exact ⟨i + 1, o6, by go_num, by omega, st6.out.trans s7', by rw [← hset.out]; exact L7⟩
            case measure => simp [intOf]; omega
          · have hi8' : i = 8 := by omega
            have g8 : decide ((i : Int) < 8) = false := decide_eq_false (by omega)
            rw [hi8', lastB_pre b.length hE.out] at hL6
            obtain ⟨M, hM⟩ : ∃ M, lastB r b.length ++ List.replicate (128 - 64) 0 = M := ⟨_, rfl⟩
            rw [hM] at hL6
            have hM128 : M.length = 128 := by rw [← hM, List.length_append, lastB_len _ (by omega), hE.out, List.length_replicate]
            obtain ⟨S0', hS0'⟩ : ∃ S0', blocksI ivI b (b.length / 64) = S0' := ⟨_, rfl⟩
            have hsha : shaI b = blocksI S0' M (64 / 64) := by
              rw [shaI_eq, hS0', hrr.out, ← hM, blocksI_last _ _ _ _ _ (by rw [lastB_len _ (by omega), hE.out]), show b.length % 64 = r.length by rw [← hrr.out, List.length_drop]; omega, hE.out]
            have hl0 : S0'.length = 8 := by rw [← hS0']; exact blocksI_len _ rfl _
            have S7 := S6.out.stp st6 (by simpa using fun x : c = l => hlc' x.symm)
            have K7 := K6.out.stp st6 (by simpa using fun x : k = l => hlk x.symm)
            have R7 := R6.out.stp st6 (by simpa using fun x : g = l => hlg x.symm)
            rw [hS0'] at S7
            have s8 := s7.out.trans (st6.mono (by simp) : Stp [k, c, l, g] _ _ _ _)
            replace hi8' := Lib.hid hi8'
            replace hM := Lib.hid hM
            replace hS0' := Lib.hid hS0'
            replace hsha := Lib.hid hsha
            replace S7 := Lib.hid S7
            replace K7 := Lib.hid K7
            replace R7 := Lib.hid R7
            replace s8 := Lib.hid s8
            replace hL6 := Lib.hid hL6
            replace st6 := Lib.hid st6
            replace hpl := Lib.hid hpl
            go_wp2_with fail
            obtain ⟨w7, hw7⟩ : ∃ w7, wr = w7 := ⟨_, rfl⟩
            subst hw7
            go_loopw [11] (SmC wr o6 c p (64 / 64) S0' M) (fun x _ => 64 - (intOf x).toNat)
            case atStart => exact ⟨0, 0, o6, rfl, rfl, by omega, Stp.refl _ _ _, S7.out⟩
            case round =>
              obtain ⟨a, z, o7, rfl, haz, hz, st7, hS7⟩ := hrel
              by_cases ha : a < 64
              · have g9 : decide ((a : Int) < 64) = true := decide_eq_true (by omega)
                have ha2 : (0 : Int) ≤ (a : Int) ∧ (a : Int) ≤ 128 := by omega
                have hL7 := hL6.out.stp st7 (by simpa using hlc')
                have K8 := K7.out.stp st7 (by simpa using hkc')
                have hr7 := hL7.rd a (by omega) (by omega) (show 128 - a = M.length - a by omega)
                have hd64 : 64 ≤ (M.drop a).length := by rw [List.length_drop]; omega
                have hnext : blockI kI (blocksI S0' M z) (M.drop a) = blocksI S0' M (z + 1) := by rw [haz]; rfl
                have hz1 : a + 64 = 64 * (z + 1) ∧ z + 1 ≤ 64 / 64 := by omega
                replace hz1 := Lib.hid hz1
                replace hnext := Lib.hid hnext
                replace hz := Lib.hid hz
                replace haz := Lib.hid haz
                replace hL7 := Lib.hid hL7
                replace K8 := Lib.hid K8
                replace hr7 := Lib.hid hr7
                replace hS7 := Lib.hid hS7
                replace st7 := Lib.hid st7
                go_wp2_with fail
                refine (shaTake_calls c l k p q _ kI _ _ _ _ hS7.out (blocksI_len M hl0 z) K8.out kI_len hr7.out hd64 (by simpa using hlc') (by simpa using hkc')).mono ?_
                rw [hnext.out]
                rintro e w9 ⟨rr, o9, rfl, s9, rfl, hS9⟩
                replace s9 := Lib.hid (st7.out.trans s9)
                replace hS9 := Lib.hid hS9
                go_wp2
                go_roundw
                case rel => exact ⟨a + 64, z + 1, o9, by go_num, hz1.out.1, hz1.out.2, s9.out, hS9.out⟩
                case measure => simp [intOf]; omega
              · have hzE : z = 64 / 64 := by omega
                have g9 : decide ((a : Int) < 64) = false := decide_eq_false (by omega)
                rw [hzE, ← hsha.out] at hS7
                have R8 := R7.out.stp st7 (by simpa using fun x : g = c => hcg x.symm)
                have s9 := s8.out.trans (st7.mono (by simp) : Stp [k, c, l, g] _ _ _ _)
                obtain ⟨l9, hl9⟩ : ∃ l9, shaI b = l9 := ⟨_, rfl⟩
                have hlen9 : l9.length = 8 := by rw [← hl9]; exact shaI_len b
                have hU9 : ∀ x ∈ l9, U x := by rw [← hl9]; exact shaI_U b
                rw [hl9] at hS7
                have hres : sha b = bytesI l9 := by rw [sha, hl9]
                have hsz : (Try.prog.info? 123).map (·.size) = some (us l9).toArray.size := by rw [show (us l9).toArray.size = 8 by simp [us, hlen9]]; kernel_rfl
                replace hzE := Lib.hid hzE
                replace haz := Lib.hid haz
                replace hl9 := Lib.hid hl9
                replace hres := Lib.hid hres
                replace hlen9 := Lib.hid hlen9
                replace hU9 := Lib.hid hU9
                replace R8 := Lib.hid R8
                replace s9 := Lib.hid s9
                replace hS7 := Lib.hid hS7
                replace st7 := Lib.hid st7
                go_wp2_with (refine holdAt 57 ?_)
                apply Hold.mk
                refine wpList_load_row rfl _ _ rfl p rfl _ _ _ _ hS7.out.blk Try.underlying123 rfl hsz ?_
                go_wp2_with fail
                obtain ⟨w8, hw8⟩ : ∃ w8, wr = w8 := ⟨_, rfl⟩
                subst hw8
                go_loopw [58] (SmE wr o7 g R l9) (fun x _ => 8 - (intOf x).toNat)
                case atStart => exact ⟨0, o7, rfl, by omega, Stp.refl _ _ _, R8.out⟩
                case round =>
                  obtain ⟨y, o8, rfl, hy, st8, hR8⟩ := hrel
                  by_cases hy8 : y < 8
                  · have g10 : decide ((y : Int) < 8) = true := decide_eq_true (by omega)
                    have hxU := getD_U hU9.out y
                    obtain ⟨x, hx⟩ : ∃ x, l9.getD y 0 = x := ⟨_, rfl⟩
                    rw [hx] at hxU
                    have hxU' : 0 ≤ x ∧ x < 4294967296 := hxU
                    have hy2 : (0 : Int) ≤ (y : Int) ∧ (y : Int) < 8 := by omega
                    obtain ⟨t0, ht0⟩ : ∃ t0, 4 * y = t0 := ⟨_, rfl⟩
                    obtain ⟨t1, ht1⟩ : ∃ t1, t0 + 1 = t1 := ⟨_, rfl⟩
                    obtain ⟨t2, ht2⟩ : ∃ t2, t0 + 2 = t2 := ⟨_, rfl⟩
                    obtain ⟨t3, ht3⟩ : ∃ t3, t0 + 3 = t3 := ⟨_, rfl⟩
                    have a0 : 4 * (y : Int) = (t0 : Int) := by omega
                    have a1 : (t0 : Int) + 1 = (t1 : Int) := by omega
                    have a2 : (t0 : Int) + 2 = (t2 : Int) := by omega
                    have a3 : (t0 : Int) + 3 = (t3 : Int) := by omega
                    have b0 : (0 : Int) ≤ (t0 : Int) ∧ (t0 : Int) < 32 := by omega
                    have b1 : (0 : Int) ≤ (t1 : Int) ∧ (t1 : Int) < 32 := by omega
                    have b2 : (0 : Int) ≤ (t2 : Int) ∧ (t2 : Int) < 32 := by omega
                    have b3 : (0 : Int) ≤ (t3 : Int) ∧ (t3 : Int) < 32 := by omega
                    have hRl : (bytesI (l9.take y) ++ List.replicate (32 - 4 * y) 0).length = 32 := by rw [List.length_append, bytesI_len, List.length_take, hlen9.out, List.length_replicate]; omega
                    obtain ⟨RL, hRL⟩ : ∃ RL, bytesI (l9.take y) ++ List.replicate (32 - 4 * y) 0 = RL := ⟨_, rfl⟩
                    rw [hRL] at hRl hR8
                    have e0 := hR8.cell (i := t0) (by omega)
                    have e1 := hR8.cell (i := t1) (by omega)
                    have e2 := hR8.cell (i := t2) (by omega)
                    have e3 := hR8.cell (i := t3) (by omega)
                    have f0 := hR8.free t0
                    have f1 := hR8.free t1
                    have f2 := hR8.free t2
                    have f3 := hR8.free t3
                    obtain ⟨z0, hz0⟩ : ∃ z0, ((RL.getD t0 0).toNat : Int) = z0 := ⟨_, rfl⟩
                    obtain ⟨z1, hz1⟩ : ∃ z1, ((RL.getD t1 0).toNat : Int) = z1 := ⟨_, rfl⟩
                    obtain ⟨z2, hz2⟩ : ∃ z2, ((RL.getD t2 0).toNat : Int) = z2 := ⟨_, rfl⟩
                    obtain ⟨z3, hz3⟩ : ∃ z3, ((RL.getD t3 0).toNat : Int) = z3 := ⟨_, rfl⟩
                    rw [hz0] at e0
                    rw [hz1] at e1
                    rw [hz2] at e2
                    rw [hz3] at e3
                    replace hz0 := Lib.hid hz0
                    replace hz1 := Lib.hid hz1
                    replace hz2 := Lib.hid hz2
                    replace hz3 := Lib.hid hz3
                    have n01 : t1 ≠ t0 := by omega
                    have n02 : t2 ≠ t0 := by omega
                    have n12 : t2 ≠ t1 := by omega
                    have n03 : t3 ≠ t0 := by omega
                    have n13 : t3 ≠ t1 := by omega
                    have n23 : t3 ≠ t2 := by omega
                    have hw0 := wordB_0 hxU
                    have hw1 := wordB_1 hxU
                    have hw2 := wordB_2 hxU
                    have hw3 := wordB_3 hxU
                    have hstep := bytesI_step hlen9.out hy8
                    rw [hRL, ht0, ht1, ht2, ht3, hx] at hstep
                    replace hstep := Lib.hid hstep
                    replace ht0 := Lib.hid ht0
                    replace ht1 := Lib.hid ht1
                    replace ht2 := Lib.hid ht2
                    replace ht3 := Lib.hid ht3
                    replace hRl := Lib.hid hRl
                    replace hRL := Lib.hid hRL
                    replace hR8 := Lib.hid hR8
                    replace st8 := Lib.hid st8
                    replace hx := Lib.hid hx
                    go_wp2_with (refine holdAt 61 ?_)
                    apply Hold.mk
                    refine wp_index_us rfl _ _ rfl l9 hlen9.out y hy8 rfl rfl ?_
                    rw [hx.out]
                    go_wp2
                    go_roundw
                    case rel =>
                      obtain ⟨Q0, p0⟩ := hR8.out.set t0 (wordB x 0)
                      obtain ⟨Q1, p1⟩ := Q0.set t1 (wordB x 1)
                      obtain ⟨Q2, p2⟩ := Q1.set t2 (wordB x 2)
                      obtain ⟨Q3, p3⟩ := Q2.set t3 (wordB x 3)
                      exact ⟨y + 1, o8, by go_num, by omega, (((st8.out.trans p0).trans p1).trans p2).trans p3, by rw [hstep.out]; exact Q3⟩
                    case measure => simp [intOf]; omega
                  · have hy8' : y = 8 := by omega
                    have g10 : decide ((y : Int) < 8) = false := decide_eq_false (by omega)
                    rw [hy8', List.take_of_length_le (by rw [hlen9.out]; exact Nat.le_refl _), show 32 - 4 * 8 = 0 from rfl, List.replicate_zero, List.append_nil, ← hres.out] at hR8
                    have hbl : (sha b).length = 32 := sha_len b
                    have hsz2 : (Try.prog.info? 57).map (·.size) = some (vbs (sha b)).toArray.size := by rw [show (vbs (sha b)).toArray.size = 32 by simp [vbs, hbl]]; kernel_rfl
                    have hone : (vbs (sha b)).toArray.all (·.oneCell') = true := vbs_all _
                    obtain ⟨HV, hHV⟩ : ∃ HV, (vbs (sha b)).toArray = HV := ⟨_, rfl⟩
                    have hRb := hR8.blk
                    rw [hHV] at hRb hsz2 hone
                    have sA9 : Stp [k, c, l, g] w o _ o8 := s9.out.trans (st8.mono (by simp))
                    have sA10 := sA9.trans (setRow_stp (C := [k, c, l, g]) (g := R) (by simp [hR8.col]) HV)
                    replace hHV := Lib.hid hHV
                    replace hR8 := Lib.hid hR8
                    replace st8 := Lib.hid st8
                    replace sA9 := Lib.hid sA9
                    replace sA10 := Lib.hid sA10
                    replace hy8' := Lib.hid hy8'
                    replace hbl := Lib.hid hbl
                    go_wp2_with (refine holdAt 89 ?_)
                    apply Hold.mk
                    refine wpList_load_row rfl _ _ rfl R rfl _ _ _ _ hRb Try.underlying57 rfl hsz2 ?_
                    refine wpList_store_row rfl _ _ _ rfl R _ rfl rfl _ _ hRb hsz2 rfl hone ?_
                    go_wp2
                    refine bodyPost_ret (results_cell_row rfl _ _ R 57 HV (0, 0) _ rfl ?_ Try.underlying57 rfl hsz2) rfl ?_
                    · exact setRow_heap _ _ _ _ _ _ hRb
                    · exact Post.mk ((((sA10.out.drop hkf).drop hcf).drop hlf).drop hgf) (by rw [hHV.out])
end Go.Proofs.Ytpjnmijfmfgdpaa
