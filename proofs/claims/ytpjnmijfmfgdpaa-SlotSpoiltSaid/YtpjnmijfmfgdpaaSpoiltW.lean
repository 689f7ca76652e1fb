/- SlotSpoilt: the walk. Printed by wip/spoiltgen.py. -/
import Derived.Test.YtpjnmijfmfgdpaaXSlotD
import Derived.Test.YtpjnmijfmfgdpaaRef11c
import Derived.Test.YtpjnmijfmfgdpaaKnown12
import Derived.Test.YtpjnmijfmfgdpaaSlotU
namespace Go.Proofs.Ytpjnmijfmfgdpaa
set_option linter.unusedVariables false
set_option linter.unusedSimpArgs false
open Go.RowKit

/-- What the loop of SlotSpoilt keeps. -/
def SpR (w0 : World) (o0 : Col) (C : List Nat) (cx ex px : Nat) (vP : Value) (vs : List Value) (pg : List (List UInt8)) (x : Value) (wr : World) : Prop :=
  ∃ (i : Nat) (o' : Col), x = .int .i64 i ∧ i ≤ 80 ∧ Stp C w0 o0 wr o' ∧ XFl wr o' cx ex px vP vs (spX pg i)
set_option maxHeartbeats 4000000 in
set_option maxRecDepth 100000 in
theorem spoilt_law (v : Value) (a : List UInt8) (v2 : Value) (b : List UInt8) (at_ : Int) (by_ : UInt8) (once : Bool) (w : World) (ha : RdB w (fun _ => 0) 0 v a) (hb : RdB w (fun _ => 0) 0 v2 b) (_hn : (Lit.int .i64 at_).wf = true) : Calls Try.prog 4 #[v, v2, .int .i64 at_, .int .u8 (by_.toNat : Int), .bool once] w (Post [] w (fun _ => 0) fun r _ _ => r = .bool true) := by
  obtain ⟨A, capA, rfl, _, _⟩ := ha.shape
  obtain ⟨B, capB, rfl, _, _⟩ := hb.shape
  replace ha := Lib.hid ha
  replace hb := Lib.hid hb
  by_cases h1 : 300 < a.length
  · have g1 : decide ((300 : Int) < (a.length : Int)) = true := decide_eq_true (by omega)
    go_enter Try.func4, Try.ntmps4
    go_wp2
    go_ret
    exact Post.mk (Stp.refl _ _ _) rfl
  have g1 : decide ((300 : Int) < (a.length : Int)) = false := decide_eq_false (by omega)
  by_cases h2 : 300 < b.length
  · have g2 : decide ((300 : Int) < (b.length : Int)) = true := decide_eq_true (by omega)
    go_enter Try.func4, Try.ntmps4
    go_wp2
    go_ret
    exact Post.mk (Stp.refl _ _ _) rfl
  have g2 : decide ((300 : Int) < (b.length : Int)) = false := decide_eq_false (by omega)
  by_cases h3 : by_ = 0
  · subst h3
    go_enter Try.func4, Try.ntmps4
    go_wp2
    go_ret
    exact Post.mk (Stp.refl _ _ _) rfl
  have g3 : ((by_.toNat : Int) == 0) = false := by
    rw [beq_eq_false_iff_ne]
    intro e
    exact h3 (UInt8.toNat_inj.1 (by simp; omega))
  have g3n : ¬ by_.toNat = 0 := fun e => h3 (UInt8.toNat_inj.1 (by simpa using e))
  obtain ⟨Sa, Sb, e1, e2, hca, hcb, hla, hlb, hw0⟩ := spoil_plain a b (by omega) (by omega)
  obtain ⟨S0, hS0⟩ : ∃ S0, newS 80 = S0 := ⟨_, rfl⟩
  have hnew := new_calls' 1 w (fun _ => 0)
  rw [hS0] at hnew e1
  have hpa := packS_len 1 a
  have hpb := packS_len 2 b
  obtain ⟨PA, hPA⟩ : ∃ PA, packS 1 a = PA := ⟨_, rfl⟩
  obtain ⟨PB, hPB⟩ : ∃ PB, packS 2 b = PB := ⟨_, rfl⟩
  have hpk1 := fun w' o' h' => xpack_calls 0 4 1 (.slice A a.length capA) a w' o' h' (by omega)
  have hpk2 := fun w' o' h' => xpack_calls 0 4 2 (.slice B b.length capB) b w' o' h' (by omega)
  rw [hPA] at hpa hpk1
  rw [hPB] at hpb hpk2
  obtain ⟨ZA, hZA⟩ : ∃ ZA, PA.length = ZA := ⟨_, rfl⟩
  obtain ⟨ZB, hZB⟩ : ∃ ZB, PB.length = ZB := ⟨_, rfl⟩
  rw [hZA] at hpa
  rw [hZB] at hpb
  have bA : 34 ≤ ZA ∧ ZA ≤ 350 := by omega
  have bB : 34 ≤ ZB ∧ ZB ≤ 350 := by omega
  clear hpa hpb
  replace hPA := Lib.hid hPA
  replace hPB := Lib.hid hPB
  replace hZA := Lib.hid hZA
  replace hZB := Lib.hid hZB
  replace hpk1 := Lib.hid hpk1
  replace hpk2 := Lib.hid hpk2
  replace hS0 := Lib.hid hS0
  replace e1 := Lib.hid e1
  replace e2 := Lib.hid e2
  replace hca := Lib.hid hca
  replace hcb := Lib.hid hcb
  replace hla := Lib.hid hla
  replace hlb := Lib.hid hlb
  replace hw0 := Lib.hid hw0
  cases once
  · go_enter Try.func4, Try.ntmps4
    go_wp2_with fail
    refine hnew.mono ?_
    clear hnew
    rintro e w1 ⟨r, o1, rfl, s1, p, g, cap, rfl, f1⟩
    have st1 : Hid (Stp [1] w (fun _ => 0) w1 o1) := Lib.hid s1.none
    have hsv := save_any 1 0 p g cap S0 _ a w1 o1 f1 (ha.out.stp s1 (by simp)) (by decide)
    rw [e1.out] at hsv
    dsimp only at hsv
    replace f1 := Lib.hid f1
    clear s1
    go_wp2_with fail
    refine hsv.mono ?_
    clear hsv
    rintro e w2 ⟨r, o2, rfl, s2, rfl, f2⟩
    have st2 : Hid (Stp [1] w (fun _ => 0) w2 o2) := Lib.hid (st1.out.trans s2)
    have hpc := hpk1.out w2 o2 (ha.out.stp st2.out (by simp))
    replace f2 := Lib.hid f2
    clear s2
    go_wp2_with fail
    refine hpc.mono ?_
    clear hpc
    rintro e w3 ⟨r, o3, rfl, s3, q3⟩
    obtain ⟨A3, cap3, rfl⟩ := Own.shape q3
    have f3 := Lib.hid (f2.out.stp s3 (by simp))
    have st3 := Lib.hid (st2.out.trans s3.none)
    rw [hZA.out]
    replace q3 := Lib.hid q3
    clear s3
    have hsv := save_any 1 0 p g cap Sa _ b w3 o3 f3.out (hb.out.stp st3.out (by simp)) (by decide)
    rw [e2.out] at hsv
    dsimp only at hsv
    go_wp2_with fail
    refine hsv.mono ?_
    clear hsv
    rintro e w4 ⟨r, o4, rfl, s4, rfl, f4⟩
    have st4 := Lib.hid (st3.out.trans s4)
    have hpc := hpk2.out w4 o4 (hb.out.stp st4.out (by simp))
    replace f4 := Lib.hid f4
    clear s4
    go_wp2_with fail
    refine hpc.mono ?_
    clear hpc
    rintro e w5 ⟨r, o5, rfl, s5, q5⟩
    obtain ⟨A5, cap5, rfl⟩ := Own.shape q5
    have f5 := Lib.hid (f4.out.stp s5 (by simp))
    have st5 := Lib.hid (st4.out.trans s5.none)
    rw [hZB.out]
    replace q5 := Lib.hid q5
    clear s5
    obtain ⟨wm, hwm⟩ : ∃ wm, w5 = wm := ⟨_, rfl⟩
    subst hwm
    have fm := f5
    have stm := st5
    obtain ⟨k, hkZ, hrem⟩ := place16 at_ ZB (by omega)
    obtain ⟨kq, hkq⟩ : ∃ kq, k / 64 = kq := ⟨_, rfl⟩
    obtain ⟨kr, hkr⟩ : ∃ kr, k % 64 = kr := ⟨_, rfl⟩
    have hkqI : Int.tdiv (k : Int) 64 = (kq : Int) := by rw [← hkq]; rfl
    have hkqJ : (k : Int) / 64 = (kq : Int) := by rw [← hkq]; rfl
    have hkrI : Int.tmod (k : Int) 64 = (kr : Int) := by rw [← hkr]; rfl
    have hkrJ : (k : Int) % 64 = (kr : Int) := by rw [← hkr]; rfl
    have hkb : k < 350 := by omega
    have hkqb : kq ≤ 5 := by omega
    have hkrb : kr < 64 := by omega
    have hz0 : ((ZB : Int) == 0) = false := by simp; omega
    have hz1 : ¬ ZB = 0 := by omega
    have hj3 : (0 : Int) ≤ (kr : Int) ∧ (kr : Int) < 64 := by omega
    obtain ⟨P, hP⟩ : ∃ P, 40 + kq = P := ⟨_, rfl⟩
    have hPI : (40 : Int) + (kq : Int) = (P : Int) := by omega
    have hPb : P < 80 := by omega
    have hP40 : 40 ≤ P := by omega
    replace hP := Lib.hid hP
    obtain ⟨q, hq⟩ : ∃ q, Sb.pg[P]? = some q := by
      have hl := hlb.out
      exact ⟨Sb.pg[P]'(by omega), by simp [show P < Sb.pg.length by omega]⟩
    have hok := fm.out.ok
    have hq64 : q.length = 64 := hok.1 q (List.mem_of_getElem? hq)
    have hall := hok.1
    have hE : readE Sb (P : Int) = 0 := by
      have hl := hlb.out
      rw [readE, if_pos (by simp [hasB]; omega)]
    have hR : readB Sb (P : Int) = q := readB_get hq
    have hkrq : kr < q.length := by rw [hq64]; exact hkrb
    obtain ⟨x0, hx0⟩ : ∃ x0, q[kr]'hkrq = x0 := ⟨_, rfl⟩
    obtain ⟨q', hq'⟩ : ∃ q', q.set kr (x0 ^^^ by_) = q' := ⟨_, rfl⟩
    replace hx0 := Lib.hid hx0
    have hq'64 : q'.length = 64 := by rw [← hq', List.length_set]; exact hq64
    obtain ⟨n1, n2, n3⟩ := anew hcb.out (P := P) (q' := q') (by have hl := hlb.out; omega) hq'64
    obtain ⟨F2, hF2⟩ : ∃ F2, Sb.with_ (Sb.pg.set P q') = F2 := ⟨_, rfl⟩
    have hFpg : F2.pg = Sb.pg.set P q' := by rw [← hF2]; rfl
    have hF80 : F2.pg.length = 80 := by rw [hFpg, List.length_set]; exact hlb.out
    have hF64 : ∀ x ∈ F2.pg, x.length = 64 := by rw [hFpg]; exact set_ok hall hq'64
    rw [hF2] at n3
    have hrd := read_calls 1 4 p g cap Sb (P : Int) _ _ fm.out
    rw [hE, hR] at hrd
    replace hkq := Lib.hid hkq
    replace hkr := Lib.hid hkr
    replace hE := Lib.hid hE
    replace hR := Lib.hid hR
    replace hok := Lib.hid hok
    replace hq := Lib.hid hq
    replace hq' := Lib.hid hq'
    replace hq'64 := Lib.hid hq'64
    replace hall := Lib.hid hall
    replace hF2 := Lib.hid hF2
    replace hFpg := Lib.hid hFpg
    replace hF80 := Lib.hid hF80
    replace hF64 := Lib.hid hF64
    replace n1 := Lib.hid n1
    replace n2 := Lib.hid n2
    replace n3 := Lib.hid n3
    go_wp2_with fail
    refine hrd.mono ?_
    clear hrd
    rintro e w6 ⟨r, o6, rfl, s6, v6, rfl, h6⟩
    obtain ⟨A6, cap6, rfl⟩ := Own.shape h6
    have h6 : OwnB w6 o6 4 (.slice A6 q.length cap6) q := h6
    rw [hq64] at h6 ⊢
    have f6 := Lib.hid (fm.out.stp s6 (by simp))
    have st6 := Lib.hid (stm.out.trans s6.none)
    obtain ⟨gb, rfl, k1, k2, k3⟩ := OwnB.store h6 (j := kr) hkrq
    rw [hx0.out] at k1
    obtain ⟨h7, s7⟩ := k3 (x0 ^^^ by_)
    rw [hq'.out] at h7
    have hxor := xor8 x0 by_
    have hx8 : ((x0 ^^^ by_).toNat : Int) < 256 := by have := UInt8.toNat_lt (x0 ^^^ by_); omega
    have f7 := Lib.hid (f6.out.stp s7 (by simp))
    have st7 := Lib.hid ((st6.out.mono (by simp) : Stp [4, 1] _ _ _ _).trans (s7.mono (by simp)))
    have r7 := Lib.hid (OwnB.rd h7)
    have her := erase_calls 1 p g cap Sb (P : Int) _ _ f7.out
    rw [n1.out] at her
    have Hq64 := Lib.hid hq64
    clear hx0 hkrq hq64
    replace h7 := Lib.hid h7
    replace h6 := Lib.hid h6
    clear k3 s6 s7
    go_wp2_with fail
    refine her.mono ?_
    clear her k1 k2
    rintro e w8 ⟨r, o8, rfl, s8, rfl, f8⟩
    have st8 := Lib.hid (st7.out.trans (s8.mono (by simp)))
    have r8 := Lib.hid (r7.out.stp s8 (by simp))
    have hpr := program_calls 1 4 p g cap _ (P : Int) (.slice (some ⟨gb, 0, none⟩) 64 cap6) q' w8 o8 f8 (by have := r8.out; exact this)
    rw [n2.out, n3.out] at hpr
    replace f8 := Lib.hid f8
    clear s8
    go_wp2_with fail
    refine hpr.mono ?_
    clear hpr
    rintro e w9 ⟨r, o9, rfl, s9, rfl, f9⟩
    have st9 := Lib.hid (st8.out.trans (s9.mono (by simp)))
    obtain ⟨cx, hx1, hx2, hx3⟩ := fresh o9 w9.heap.size [0, 1, 4]
    obtain ⟨ex, he1, he2, he3⟩ := fresh o9 w9.heap.size [0, 1, 4, cx]
    simp only [List.mem_cons, List.not_mem_nil, or_false, not_or] at hx1 he1
    have hxe : cx ≠ ex := fun e => he1.2.2.2 e.symm
    have hxn := xnew_calls cx ex 80 w9 o9 80 (by omega) hx3 he3 hxe
    rw [show (⟨List.replicate 80 blankPage, -1, 0, false⟩ : FS) = spX F2.pg 0 from (spX_zero F2.pg).symm] at hxn
    have m1 : ¬ (1 : Nat) ∈ [cx, ex] := by simp; exact ⟨fun e => hx1.2.1 e.symm, fun e => he1.2.1 e.symm⟩
    have m4 : 4 ≠ cx ∧ 4 ≠ ex := ⟨fun e => hx1.2.2 e.symm, fun e => he1.2.2.1 e.symm⟩
    have hC0 : ¬ (0 : Nat) ∈ [4, 1, cx, ex] := by simp; exact ⟨fun e => hx2 e.symm, fun e => he2 e.symm⟩
    replace f9 := Lib.hid f9
    replace hx1 := Lib.hid hx1
    replace he1 := Lib.hid he1
    replace hxe := Lib.hid hxe
    replace m1 := Lib.hid m1
    replace m4 := Lib.hid m4
    replace hC0 := Lib.hid hC0
    clear s9 hx3 he3
    go_wp2_with fail
    refine hxn.mono ?_
    clear hxn
    rintro e wa ⟨r, oa, rfl, sa, px, vP, vs, rfl, xa⟩
    have fa := Lib.hid (f9.out.stp sa (by simp))
    have sta : Hid (Stp [4, 1, cx, ex] w (fun _ => 0) wa oa) := Lib.hid ((st9.out.mono (by intro x hx; simp at hx ⊢; omega)).trans sa.none)
    replace xa := Lib.hid xa
    clear sa
    go_wp2_with fail
    go_loopw [18] (SpR wa oa [cx, ex] cx ex px vP vs F2.pg) (fun x _ => 80 - (intOf x).toNat)
    case atStart => exact ⟨0, oa, rfl, by omega, Stp.refl _ _ _, xa.out⟩
    case round =>
      obtain ⟨i, ob, rfl, hi, hs, xb⟩ := hrel
      have fb := Lib.hid (fa.out.stp hs m1.out)
      have stb := Lib.hid (sta.out.trans (hs.mono (by simp)))
      replace hs := Lib.hid hs
      by_cases hlt : i < 80
      · have g5 : decide ((i : Int) < 80) = true := decide_eq_true (by omega)
        obtain ⟨Q, hQ⟩ : ∃ Q, F2.pg[i]? = some Q := by
          have hl := hF80.out
          exact ⟨F2.pg[i]'(by omega), by simp [show i < F2.pg.length by omega]⟩
        have hQ64 : Q.length = 64 := hF64.out Q (List.mem_of_getElem? hQ)
        have hE : readE F2 (i : Int) = 0 := by
          have hl := hF80.out
          rw [readE, if_pos (by simp [hasB]; omega)]
        have hrd := read_calls 1 4 p g cap F2 (i : Int) wr ob fb.out
        rw [hE, readB_get hQ] at hrd
        have hst := spX_step hF80.out hlt hQ hQ64
        replace hst := Lib.hid hst
        replace hE := Lib.hid hE
        replace hQ := Lib.hid hQ
        replace hQ64 := Lib.hid hQ64
        replace xb := Lib.hid xb
        go_wp2_with fail
        refine hrd.mono ?_
        clear hrd
        rintro e wc ⟨r, oc, rfl, sc, vc, rfl, hc⟩
        obtain ⟨Ac, capc, rfl⟩ := Own.shape hc
        have xc := Lib.hid (xb.out.stp sc (by simp) (by simp))
        have sc2 := Lib.hid (hs.out.trans sc.none)
        have hpr := xprog_calls cx ex px vP vs _ (i : Int) 4 _ Q wc oc xc.out (OwnB.rd hc) m4.out.1 m4.out.2
        rw [hst.out] at hpr
        obtain ⟨EE, hEE⟩ : ∃ EE, progE (spX F2.pg i) (i : Int) Q = EE := ⟨_, rfl⟩
        rw [hEE] at hpr
        replace hEE := Lib.hid hEE
        replace hc := Lib.hid hc
        clear sc
        go_wp2_with fail
        refine hpr.mono ?_
        clear hpr
        rintro e wd ⟨r, od, rfl, sd, rfl, xd⟩
        have sd2 := Lib.hid (sc2.out.trans sd)
        replace xd := Lib.hid xd
        clear sd
        go_wp2
        go_roundw
        case rel => exact ⟨i + 1, od, by go_num, by omega, sd2.out, xd.out⟩
        case measure => simp [intOf]; omega
      · have hi80 : i = 80 := by omega
        have g5 : decide ((i : Int) < 80) = false := decide_eq_false (by omega)
        rw [hi80] at xb
        have hcg : loadS (spX F2.pg 80) = loadS F2 := loadS_congr (spX_end hF80.out)
        obtain ⟨LD, hLD⟩ : ∃ LD, loadS F2 = LD := ⟨_, rfl⟩
        have hld := xload_calls cx ex 4 px vP vs (spX F2.pg 80) wr ob xb
        rw [hcg, hLD] at hld
        have h80 : 80 ≤ F2.pg.length := by have := hF80.out; omega
        have hw2 : wholeS F2 0 = some (a, 1) := by
          rw [← hw0.out]
          refine wholeS_congr 0 (fun i _ hi => ?_) (by rw [hF80.out, hlb.out])
          rw [hFpg.out, List.getElem?_set, if_neg (by omega)]
        have htold : LD.2.1 = 1 → LD = (a, 1, 0) := by rw [← hLD]; exact told_one h80 hw2
        replace hw2 := Lib.hid hw2
        obtain ⟨LB, NN, E⟩ := LD
        dsimp only at hld htold
        replace hi80 := Lib.hid hi80
        replace hcg := Lib.hid hcg
        replace xb := Lib.hid xb
        replace h80 := Lib.hid h80
        by_cases hNN : NN = 1
        · have hv := htold hNN
          have hld2 := load_calls 1 4 p g cap F2
          rw [hLD, hv] at hld2
          dsimp only at hld2
          clear htold
          subst hNN
          replace hLD := Lib.hid hLD
          replace hv := Lib.hid hv
          replace hld2 := Lib.hid hld2
          go_wp2_with fail
          refine hld.mono ?_
          clear hld
          rintro e wc ⟨r, oc, rfl, sc, vc, rfl, hc⟩
          have fc := Lib.hid (fb.out.stp sc (by simp))
          have stc := Lib.hid (stb.out.trans sc.none)
          have hl3 := hld2.out wc oc fc.out
          replace hc := Lib.hid hc
          clear sc
          go_wp2_with fail
          refine hl3.mono ?_
          clear hl3
          rintro e wd ⟨r, od, rfl, sd, vd, rfl, hd⟩
          have std := Lib.hid (stc.out.trans sd.none)
          obtain ⟨Ad, capd, rfl⟩ := Own.shape hd
          have hd' : OwnB wd od 4 (.slice Ad a.length capd) a := hd
          have cv1 := convBS (OwnB.rd hd') rfl
          have cv2 := convBS (ha.out.stp std.out hC0.out) rfl
          replace hd := Lib.hid hd
          replace hd' := Lib.hid hd'
          have hkn := known12_calls wd od
          clear sd
          go_wp2_with fail
          refine hkn.mono ?_
          clear hkn
          rintro e we ⟨rr, oe, rfl, se, rfl⟩
          have ste := Lib.hid (std.out.trans se.none)
          clear se cv1 cv2
          go_wp2
          go_ret
          exact Post.mk (ste.out.law hC0.out) rfl
        · have g6 : ((NN : Int) != 1) = true := by simp; omega
          have g6e : ((NN : Int) == 1) = false := by simp; omega
          replace hLD := Lib.hid hLD
          clear htold
          go_wp2_with fail
          refine hld.mono ?_
          clear hld
          rintro e wc ⟨r, oc, rfl, sc, vc, rfl, hc⟩
          have stc := Lib.hid (stb.out.trans sc.none)
          have hkn := known12_calls wc oc
          replace hc := Lib.hid hc
          clear sc
          go_wp2_with fail
          refine hkn.mono ?_
          clear hkn
          rintro e we ⟨rr, oe, rfl, se, rfl⟩
          have ste := Lib.hid (stc.out.trans se.none)
          clear se
          go_wp2
          go_ret
          exact Post.mk (ste.out.law hC0.out) rfl
  · go_enter Try.func4, Try.ntmps4
    go_wp2_with fail
    refine hnew.mono ?_
    clear hnew
    rintro e w1 ⟨r, o1, rfl, s1, p, g, cap, rfl, f1⟩
    have st1 : Hid (Stp [1] w (fun _ => 0) w1 o1) := Lib.hid s1.none
    have hsv := save_any 1 0 p g cap S0 _ a w1 o1 f1 (ha.out.stp s1 (by simp)) (by decide)
    rw [e1.out] at hsv
    dsimp only at hsv
    replace f1 := Lib.hid f1
    clear s1
    go_wp2_with fail
    refine hsv.mono ?_
    clear hsv
    rintro e w2 ⟨r, o2, rfl, s2, rfl, f2⟩
    have st2 : Hid (Stp [1] w (fun _ => 0) w2 o2) := Lib.hid (st1.out.trans s2)
    have hpc := hpk1.out w2 o2 (ha.out.stp st2.out (by simp))
    replace f2 := Lib.hid f2
    clear s2
    go_wp2_with fail
    refine hpc.mono ?_
    clear hpc
    rintro e w3 ⟨r, o3, rfl, s3, q3⟩
    obtain ⟨A3, cap3, rfl⟩ := Own.shape q3
    have f3 := Lib.hid (f2.out.stp s3 (by simp))
    have st3 := Lib.hid (st2.out.trans s3.none)
    rw [hZA.out]
    replace q3 := Lib.hid q3
    clear s3
    have fm := f3
    have stm := st3
    obtain ⟨k, hkZ, hrem⟩ := place16 at_ ZA (by omega)
    obtain ⟨kq, hkq⟩ : ∃ kq, k / 64 = kq := ⟨_, rfl⟩
    obtain ⟨kr, hkr⟩ : ∃ kr, k % 64 = kr := ⟨_, rfl⟩
    have hkqI : Int.tdiv (k : Int) 64 = (kq : Int) := by rw [← hkq]; rfl
    have hkqJ : (k : Int) / 64 = (kq : Int) := by rw [← hkq]; rfl
    have hkrI : Int.tmod (k : Int) 64 = (kr : Int) := by rw [← hkr]; rfl
    have hkrJ : (k : Int) % 64 = (kr : Int) := by rw [← hkr]; rfl
    have hkb : k < 350 := by omega
    have hkqb : kq ≤ 5 := by omega
    have hkrb : kr < 64 := by omega
    have hz0 : ((ZA : Int) == 0) = false := by simp; omega
    have hz1 : ¬ ZA = 0 := by omega
    have hj3 : (0 : Int) ≤ (kr : Int) ∧ (kr : Int) < 64 := by omega
    have hPb : kq < 80 := by omega
    obtain ⟨q, hq⟩ : ∃ q, Sa.pg[kq]? = some q := by
      have hl := hla.out
      exact ⟨Sa.pg[kq]'(by omega), by simp [show kq < Sa.pg.length by omega]⟩
    have hok := fm.out.ok
    have hq64 : q.length = 64 := hok.1 q (List.mem_of_getElem? hq)
    have hall := hok.1
    have hE : readE Sa (kq : Int) = 0 := by
      have hl := hla.out
      rw [readE, if_pos (by simp [hasB]; omega)]
    have hR : readB Sa (kq : Int) = q := readB_get hq
    have hkrq : kr < q.length := by rw [hq64]; exact hkrb
    obtain ⟨x0, hx0⟩ : ∃ x0, q[kr]'hkrq = x0 := ⟨_, rfl⟩
    obtain ⟨q', hq'⟩ : ∃ q', q.set kr (x0 ^^^ by_) = q' := ⟨_, rfl⟩
    replace hx0 := Lib.hid hx0
    have hq'64 : q'.length = 64 := by rw [← hq', List.length_set]; exact hq64
    obtain ⟨n1, n2, n3⟩ := anew hca.out (P := kq) (q' := q') (by have hl := hla.out; omega) hq'64
    obtain ⟨F2, hF2⟩ : ∃ F2, Sa.with_ (Sa.pg.set kq q') = F2 := ⟨_, rfl⟩
    have hFpg : F2.pg = Sa.pg.set kq q' := by rw [← hF2]; rfl
    have hF80 : F2.pg.length = 80 := by rw [hFpg, List.length_set]; exact hla.out
    have hF64 : ∀ x ∈ F2.pg, x.length = 64 := by rw [hFpg]; exact set_ok hall hq'64
    rw [hF2] at n3
    have hrd := read_calls 1 4 p g cap Sa (kq : Int) _ _ fm.out
    rw [hE, hR] at hrd
    replace hkq := Lib.hid hkq
    replace hkr := Lib.hid hkr
    replace hE := Lib.hid hE
    replace hR := Lib.hid hR
    replace hok := Lib.hid hok
    replace hq := Lib.hid hq
    replace hq' := Lib.hid hq'
    replace hq'64 := Lib.hid hq'64
    replace hall := Lib.hid hall
    replace hF2 := Lib.hid hF2
    replace hFpg := Lib.hid hFpg
    replace hF80 := Lib.hid hF80
    replace hF64 := Lib.hid hF64
    replace n1 := Lib.hid n1
    replace n2 := Lib.hid n2
    replace n3 := Lib.hid n3
    go_wp2_with fail
    refine hrd.mono ?_
    clear hrd
    rintro e w6 ⟨r, o6, rfl, s6, v6, rfl, h6⟩
    obtain ⟨A6, cap6, rfl⟩ := Own.shape h6
    have h6 : OwnB w6 o6 4 (.slice A6 q.length cap6) q := h6
    rw [hq64] at h6 ⊢
    have f6 := Lib.hid (fm.out.stp s6 (by simp))
    have st6 := Lib.hid (stm.out.trans s6.none)
    obtain ⟨gb, rfl, k1, k2, k3⟩ := OwnB.store h6 (j := kr) hkrq
    rw [hx0.out] at k1
    obtain ⟨h7, s7⟩ := k3 (x0 ^^^ by_)
    rw [hq'.out] at h7
    have hxor := xor8 x0 by_
    have hx8 : ((x0 ^^^ by_).toNat : Int) < 256 := by have := UInt8.toNat_lt (x0 ^^^ by_); omega
    have f7 := Lib.hid (f6.out.stp s7 (by simp))
    have st7 := Lib.hid ((st6.out.mono (by simp) : Stp [4, 1] _ _ _ _).trans (s7.mono (by simp)))
    have r7 := Lib.hid (OwnB.rd h7)
    have her := erase_calls 1 p g cap Sa (kq : Int) _ _ f7.out
    rw [n1.out] at her
    have Hq64 := Lib.hid hq64
    clear hx0 hkrq hq64
    replace h7 := Lib.hid h7
    replace h6 := Lib.hid h6
    clear k3 s6 s7
    go_wp2_with fail
    refine her.mono ?_
    clear her k1 k2
    rintro e w8 ⟨r, o8, rfl, s8, rfl, f8⟩
    have st8 := Lib.hid (st7.out.trans (s8.mono (by simp)))
    have r8 := Lib.hid (r7.out.stp s8 (by simp))
    have hpr := program_calls 1 4 p g cap _ (kq : Int) (.slice (some ⟨gb, 0, none⟩) 64 cap6) q' w8 o8 f8 (by have := r8.out; exact this)
    rw [n2.out, n3.out] at hpr
    replace f8 := Lib.hid f8
    clear s8
    go_wp2_with fail
    refine hpr.mono ?_
    clear hpr
    rintro e w9 ⟨r, o9, rfl, s9, rfl, f9⟩
    have st9 := Lib.hid (st8.out.trans (s9.mono (by simp)))
    obtain ⟨cx, hx1, hx2, hx3⟩ := fresh o9 w9.heap.size [0, 1, 4]
    obtain ⟨ex, he1, he2, he3⟩ := fresh o9 w9.heap.size [0, 1, 4, cx]
    simp only [List.mem_cons, List.not_mem_nil, or_false, not_or] at hx1 he1
    have hxe : cx ≠ ex := fun e => he1.2.2.2 e.symm
    have hxn := xnew_calls cx ex 80 w9 o9 80 (by omega) hx3 he3 hxe
    rw [show (⟨List.replicate 80 blankPage, -1, 0, false⟩ : FS) = spX F2.pg 0 from (spX_zero F2.pg).symm] at hxn
    have m1 : ¬ (1 : Nat) ∈ [cx, ex] := by simp; exact ⟨fun e => hx1.2.1 e.symm, fun e => he1.2.1 e.symm⟩
    have m4 : 4 ≠ cx ∧ 4 ≠ ex := ⟨fun e => hx1.2.2 e.symm, fun e => he1.2.2.1 e.symm⟩
    have hC0 : ¬ (0 : Nat) ∈ [4, 1, cx, ex] := by simp; exact ⟨fun e => hx2 e.symm, fun e => he2 e.symm⟩
    replace f9 := Lib.hid f9
    replace hx1 := Lib.hid hx1
    replace he1 := Lib.hid he1
    replace hxe := Lib.hid hxe
    replace m1 := Lib.hid m1
    replace m4 := Lib.hid m4
    replace hC0 := Lib.hid hC0
    clear s9 hx3 he3
    go_wp2_with fail
    refine hxn.mono ?_
    clear hxn
    rintro e wa ⟨r, oa, rfl, sa, px, vP, vs, rfl, xa⟩
    have fa := Lib.hid (f9.out.stp sa (by simp))
    have sta : Hid (Stp [4, 1, cx, ex] w (fun _ => 0) wa oa) := Lib.hid ((st9.out.mono (by intro x hx; simp at hx ⊢; omega)).trans sa.none)
    replace xa := Lib.hid xa
    clear sa
    go_wp2_with fail
    go_loopw [18] (SpR wa oa [cx, ex] cx ex px vP vs F2.pg) (fun x _ => 80 - (intOf x).toNat)
    case atStart => exact ⟨0, oa, rfl, by omega, Stp.refl _ _ _, xa.out⟩
    case round =>
      obtain ⟨i, ob, rfl, hi, hs, xb⟩ := hrel
      have fb := Lib.hid (fa.out.stp hs m1.out)
      have stb := Lib.hid (sta.out.trans (hs.mono (by simp)))
      replace hs := Lib.hid hs
      by_cases hlt : i < 80
      · have g5 : decide ((i : Int) < 80) = true := decide_eq_true (by omega)
        obtain ⟨Q, hQ⟩ : ∃ Q, F2.pg[i]? = some Q := by
          have hl := hF80.out
          exact ⟨F2.pg[i]'(by omega), by simp [show i < F2.pg.length by omega]⟩
        have hQ64 : Q.length = 64 := hF64.out Q (List.mem_of_getElem? hQ)
        have hE : readE F2 (i : Int) = 0 := by
          have hl := hF80.out
          rw [readE, if_pos (by simp [hasB]; omega)]
        have hrd := read_calls 1 4 p g cap F2 (i : Int) wr ob fb.out
        rw [hE, readB_get hQ] at hrd
        have hst := spX_step hF80.out hlt hQ hQ64
        replace hst := Lib.hid hst
        replace hE := Lib.hid hE
        replace hQ := Lib.hid hQ
        replace hQ64 := Lib.hid hQ64
        replace xb := Lib.hid xb
        go_wp2_with fail
        refine hrd.mono ?_
        clear hrd
        rintro e wc ⟨r, oc, rfl, sc, vc, rfl, hc⟩
        obtain ⟨Ac, capc, rfl⟩ := Own.shape hc
        have xc := Lib.hid (xb.out.stp sc (by simp) (by simp))
        have sc2 := Lib.hid (hs.out.trans sc.none)
        have hpr := xprog_calls cx ex px vP vs _ (i : Int) 4 _ Q wc oc xc.out (OwnB.rd hc) m4.out.1 m4.out.2
        rw [hst.out] at hpr
        obtain ⟨EE, hEE⟩ : ∃ EE, progE (spX F2.pg i) (i : Int) Q = EE := ⟨_, rfl⟩
        rw [hEE] at hpr
        replace hEE := Lib.hid hEE
        replace hc := Lib.hid hc
        clear sc
        go_wp2_with fail
        refine hpr.mono ?_
        clear hpr
        rintro e wd ⟨r, od, rfl, sd, rfl, xd⟩
        have sd2 := Lib.hid (sc2.out.trans sd)
        replace xd := Lib.hid xd
        clear sd
        go_wp2
        go_roundw
        case rel => exact ⟨i + 1, od, by go_num, by omega, sd2.out, xd.out⟩
        case measure => simp [intOf]; omega
      · have hi80 : i = 80 := by omega
        have g5 : decide ((i : Int) < 80) = false := decide_eq_false (by omega)
        rw [hi80] at xb
        have hcg : loadS (spX F2.pg 80) = loadS F2 := loadS_congr (spX_end hF80.out)
        obtain ⟨LD, hLD⟩ : ∃ LD, loadS F2 = LD := ⟨_, rfl⟩
        have hld := xload_calls cx ex 4 px vP vs (spX F2.pg 80) wr ob xb
        rw [hcg, hLD] at hld
        have h80 : 80 ≤ F2.pg.length := by have := hF80.out; omega
        have htold : LD.2.1 = 0 → LD = ([], 0, 9) := by rw [← hLD]; exact told_zero h80
        obtain ⟨LB, NN, E⟩ := LD
        dsimp only at hld htold
        replace hi80 := Lib.hid hi80
        replace hcg := Lib.hid hcg
        replace xb := Lib.hid xb
        replace h80 := Lib.hid h80
        by_cases hNN : NN = 0
        · have hv := htold hNN
          have hld2 := load_calls 1 4 p g cap F2
          rw [hLD, hv] at hld2
          dsimp only at hld2
          clear htold
          subst hNN
          replace hLD := Lib.hid hLD
          replace hv := Lib.hid hv
          replace hld2 := Lib.hid hld2
          go_wp2_with fail
          refine hld.mono ?_
          clear hld
          rintro e wc ⟨r, oc, rfl, sc, vc, rfl, hc⟩
          have fc := Lib.hid (fb.out.stp sc (by simp))
          have stc := Lib.hid (stb.out.trans sc.none)
          have hl3 := hld2.out wc oc fc.out
          replace hc := Lib.hid hc
          clear sc
          go_wp2_with fail
          refine hl3.mono ?_
          clear hl3
          rintro e wd ⟨r, od, rfl, sd, vd, rfl, hd⟩
          have std := Lib.hid (stc.out.trans sd.none)
          obtain ⟨Ad, capd, rfl⟩ := Own.shape hd
          have hd' : OwnB wd od 4 (.slice Ad 0 capd) [] := hd
          replace hd := Lib.hid hd
          replace hd' := Lib.hid hd'
          have hkn := known12_calls wd od
          clear sd
          go_wp2_with fail
          refine hkn.mono ?_
          clear hkn
          rintro e we ⟨rr, oe, rfl, se, rfl⟩
          have ste := Lib.hid (std.out.trans se.none)
          clear se
          go_wp2
          go_ret
          exact Post.mk (ste.out.law hC0.out) rfl
        · have g6 : ((NN : Int) != 0) = true := by simp; omega
          have g6e : ((NN : Int) == 0) = false := by simp; omega
          replace hLD := Lib.hid hLD
          clear htold
          go_wp2_with fail
          refine hld.mono ?_
          clear hld
          rintro e wc ⟨r, oc, rfl, sc, vc, rfl, hc⟩
          have stc := Lib.hid (stb.out.trans sc.none)
          have hkn := known12_calls wc oc
          replace hc := Lib.hid hc
          clear sc
          go_wp2_with fail
          refine hkn.mono ?_
          clear hkn
          rintro e we ⟨rr, oe, rfl, se, rfl⟩
          have ste := Lib.hid (stc.out.trans se.none)
          clear se
          go_wp2
          go_ret
          exact Post.mk (ste.out.law hC0.out) rfl
end Go.Proofs.Ytpjnmijfmfgdpaa
