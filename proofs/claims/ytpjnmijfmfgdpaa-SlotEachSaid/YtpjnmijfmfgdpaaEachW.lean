/- SlotEach: the walk. -/
import Derived.Test.YtpjnmijfmfgdpaaXSlotD
import Derived.Test.YtpjnmijfmfgdpaaRef11c
import Derived.Test.YtpjnmijfmfgdpaaKnown12
import Derived.Test.YtpjnmijfmfgdpaaSlotT
namespace Go.Proofs.Ytpjnmijfmfgdpaa
set_option linter.unusedVariables false
set_option linter.unusedSimpArgs false
open Go.RowKit

set_option maxHeartbeats 4000000 in
set_option maxRecDepth 100000 in
theorem each_law (v : Value) (a : List UInt8) (v2 : Value) (b : List UInt8) (n tear : Int) (w : World) (ha : RdB w (fun _ => 0) 0 v a) (hb : RdB w (fun _ => 0) 0 v2 b) (_hn : (Lit.int .i64 n).wf = true) (_ht : (Lit.int .i64 tear).wf = true) : Calls Try.prog 8 #[v, v2, .int .i64 n, .int .i64 tear] w (Post [] w (fun _ => 0) fun r _ _ => r = .bool true) := by
  obtain ⟨A, capA, rfl, _, _⟩ := ha.shape
  obtain ⟨B, capB, rfl, _, _⟩ := hb.shape
  replace ha := Lib.hid ha
  replace hb := Lib.hid hb
  by_cases h1 : 400 < a.length
  · have g1 : decide ((400 : Int) < (a.length : Int)) = true := decide_eq_true (by omega)
    go_enter Try.func8, Try.ntmps8
    go_wp2
    go_ret
    exact Post.mk (Stp.refl _ _ _) rfl
  have g1 : decide ((400 : Int) < (a.length : Int)) = false := decide_eq_false (by omega)
  by_cases h2 : 400 < b.length
  · have g2 : decide ((400 : Int) < (b.length : Int)) = true := decide_eq_true (by omega)
    go_enter Try.func8, Try.ntmps8
    go_wp2
    go_ret
    exact Post.mk (Stp.refl _ _ _) rfl
  have g2 : decide ((400 : Int) < (b.length : Int)) = false := decide_eq_false (by omega)
  by_cases h3 : n < 0
  · have g3 : decide (n < 0) = true := decide_eq_true h3
    go_enter Try.func8, Try.ntmps8
    go_wp2
    go_ret
    exact Post.mk (Stp.refl _ _ _) rfl
  have g3 : decide (n < 0) = false := decide_eq_false h3
  by_cases h4 : 20 < n
  · have g4 : decide (20 < n) = true := decide_eq_true h4
    go_enter Try.func8, Try.ntmps8
    go_wp2
    go_ret
    exact Post.mk (Stp.refl _ _ _) rfl
  have g4 : decide (20 < n) = false := decide_eq_false h4
  obtain ⟨Sa, S1, E1, y, N, T, e1, e2, hcalm, hroom, hld, hT, hN, hE⟩ := each_plain a b n tear (by omega) (by omega)
  have t3 : Tells (bootS S1) y N T := ⟨hcalm, hroom, hld⟩
  have e3 := t3.load hT
  obtain ⟨S3, e4, t4, _⟩ := t3.save (b' := [122]) (by simp) (by omega)
  have e5 := t4.load (by split <;> omega)
  obtain ⟨S0, hS0⟩ : ∃ S0, newS 80 = S0 := ⟨_, rfl⟩
  obtain ⟨SF, hSF⟩ : ∃ SF, fuseS Sa n tear = SF := ⟨_, rfl⟩
  obtain ⟨S2, hS2⟩ : ∃ S2, bootS S1 = S2 := ⟨_, rfl⟩
  rw [hS0] at e1
  rw [hSF] at e2
  rw [hS2] at e3 e4
  have hnew := new_calls' 1 w (fun _ => 0)
  rw [hS0] at hnew
  replace hS0 := Lib.hid hS0
  replace hSF := Lib.hid hSF
  replace hS2 := Lib.hid hS2
  replace e1 := Lib.hid e1
  replace e2 := Lib.hid e2
  replace e3 := Lib.hid e3
  replace e4 := Lib.hid e4
  replace e5 := Lib.hid e5
  replace hld := Lib.hid hld
  replace hcalm := Lib.hid hcalm
  replace hroom := Lib.hid hroom
  replace t3 := Lib.hid t3
  replace t4 := Lib.hid t4
  replace hE := Lib.hid hE
  replace hN := Lib.hid hN
  replace hT := Lib.hid hT
  have hn' : n ≤ 9223372036854775807 := by omega
  go_enter Try.func8, Try.ntmps8
  go_wp2_with fail
  refine hnew.mono ?_
  clear hnew
  rintro e w1 ⟨r, o1, rfl, s1, p, g, cap, rfl, f1⟩
  obtain ⟨cx, hx1, hx2, hx3⟩ := fresh o1 w1.heap.size [0, 1]
  obtain ⟨ex, he1, he2, he3⟩ := fresh o1 w1.heap.size [0, 1, cx]
  simp only [List.mem_cons, List.not_mem_nil, or_false, not_or] at hx1 he1
  have hxe : cx ≠ ex := fun e => he1.2.2 e.symm
  have m0 : ¬ (0 : Nat) ∈ [cx, ex] := by simp; exact ⟨fun e => hx2 e.symm, fun e => he2 e.symm⟩
  have m1 : ¬ (1 : Nat) ∈ [cx, ex] := by simp; exact ⟨fun e => hx1.2 e.symm, fun e => he1.2.1 e.symm⟩
  have m2 : ¬ (0 : Nat) ∈ [ex] := by simp; exact fun e => he2 e.symm
  have m3 : ¬ (1 : Nat) ∈ [ex] := by simp; exact fun e => he1.2.1 e.symm
  have hC0 : ¬ (0 : Nat) ∈ [1, cx, ex] := by simp; exact ⟨fun e => hx2 e.symm, fun e => he2 e.symm⟩
  have hxn := xnew_calls cx ex 80 w1 o1 80 (by omega) hx3 he3 hxe
  rw [show (⟨List.replicate 80 blankPage, -1, 0, false⟩ : FS) = S0 from hS0.out] at hxn
  replace hx1 := Lib.hid hx1
  replace he1 := Lib.hid he1
  replace hxe := Lib.hid hxe
  replace m0 := Lib.hid m0
  replace m1 := Lib.hid m1
  replace m2 := Lib.hid m2
  replace m3 := Lib.hid m3
  replace hC0 := Lib.hid hC0
  replace f1 := Lib.hid f1
  have st1 : Hid (Stp [1, cx, ex] w (fun _ => 0) w1 o1) := Lib.hid s1.none
  clear hx3 he3 s1
  go_wp2_with fail
  refine hxn.mono ?_
  clear hxn
  rintro e w2 ⟨r, o2, rfl, s2, px, vP, vs, rfl, x2⟩
  have f2 := Lib.hid (f1.out.stp s2 (by simp))
  have st2 := Lib.hid (st1.out.trans s2.none)
  have ha2 := ha.out.stp st2.out hC0.out
  have hsv := xsave_calls cx ex 0 px vP vs S0 _ a w2 o2 x2 ha2 (fun e => hx2 e.symm) (fun e => he2 e.symm) hxe.out
  rw [e1.out] at hsv
  dsimp only at hsv
  replace ha2 := Lib.hid ha2
  replace x2 := Lib.hid x2
  clear s2
  go_wp2_with fail
  refine hsv.mono ?_
  clear hsv
  rintro e w3 ⟨r, o3, rfl, s3, rfl, x3⟩
  have f3 := Lib.hid (f2.out.stp s3 m1.out)
  have st3 := Lib.hid (st2.out.trans (s3.mono (by simp)))
  have hfu := xfuse_calls cx ex px vP vs Sa n tear w3 o3 x3 hn'
  rw [hSF.out] at hfu
  replace x3 := Lib.hid x3
  clear s3
  go_wp2_with fail
  refine hfu.mono ?_
  clear hfu
  rintro e w4 ⟨r, o4, rfl, s4, rfl, x4⟩
  have f4 := Lib.hid (f3.out.stp s4 m3.out)
  have st4 := Lib.hid (st3.out.trans (s4.mono (by simp)))
  have hb4 := hb.out.stp st4.out hC0.out
  have hsv := xsave_calls cx ex 0 px vP vs SF _ b w4 o4 x4 hb4 (fun e => hx2 e.symm) (fun e => he2 e.symm) hxe.out
  rw [e2.out] at hsv
  dsimp only at hsv
  replace hb4 := Lib.hid hb4
  replace x4 := Lib.hid x4
  clear s4
  go_wp2_with fail
  refine hsv.mono ?_
  clear hsv
  rintro e w5 ⟨r, o5, rfl, s5, rfl, x5⟩
  have f5 := Lib.hid (f4.out.stp s5 m1.out)
  have st5 := Lib.hid (st4.out.trans (s5.mono (by simp)))
  have hbo := xboot_calls cx ex px vP vs S1 w5 o5 x5
  rw [hS2.out] at hbo
  replace x5 := Lib.hid x5
  clear s5
  go_wp2_with fail
  refine hbo.mono ?_
  clear hbo
  rintro e w6 ⟨r, o6, rfl, s6, rfl, x6⟩
  have f6 := Lib.hid (f5.out.stp s6 m3.out)
  have st6 := Lib.hid (st5.out.trans (s6.mono (by simp)))
  have hl := xload_calls cx ex 4 px vP vs S2 w6 o6 x6
  rw [e3.out] at hl
  dsimp only at hl
  replace x6 := Lib.hid x6
  clear s6
  go_wp2_with fail
  refine hl.mono ?_
  clear hl
  rintro e w7 ⟨r, o7, rfl, s7, v7, rfl, h7⟩
  have f7 := Lib.hid (f6.out.stp s7 (by simp))
  have st7 := Lib.hid (st6.out.trans s7.none)
  obtain ⟨A7, cap7, rfl⟩ := Own.shape h7
  have h7' : OwnB w7 o7 4 (.slice A7 y.length cap7) y := h7
  have ra := ha.out.stp st7.out hC0.out
  have rb := hb.out.stp st7.out hC0.out
  have cv1 := convBS (OwnB.rd h7') rfl
  have cv2 := convBS ra rfl
  have cv3 := convBS rb rfl
  replace h7 := Lib.hid h7
  replace h7' := Lib.hid h7'
  replace ra := Lib.hid ra
  replace rb := Lib.hid rb
  clear s7
  by_cases hya : y = a ∨ y = b
  · have hcs : ((y == a) = true ∧ (E1 == 0) = true ∧ (y == b) = true) ∨ ((y == a) = true ∧ (E1 == 0) = false) ∨ ((y == a) = false ∧ (E1 == 0) = true ∧ (y == b) = true) ∨ ((y == a) = false ∧ (E1 == 0) = false ∧ (y == b) = true) := by
      by_cases ya : y = a
      · by_cases hz : E1 = 0
        · exact .inl ⟨by simp [ya], by simp [hz], by simpa using hE.out hz⟩
        · exact .inr (.inl ⟨by simp [ya], by simpa using hz⟩)
      · have yb : y = b := by
          rcases hya with h | h
          · exact absurd h ya
          · exact h
        by_cases hz : E1 = 0
        · exact .inr (.inr (.inl ⟨by simpa using ya, by simp [hz], by simpa using yb⟩))
        · exact .inr (.inr (.inr ⟨by simpa using ya, by simpa using hz, by simpa using yb⟩))
    replace hya := Lib.hid hya
    rcases hcs with ⟨k1, k2, k3⟩ | ⟨k1, k2⟩ | ⟨k1, k2, k3⟩ | ⟨k1, k2, k3⟩
    all_goals
      have hsv := save_any 1 0 p g cap S0 _ a w7 o7 f7.out ra.out (by decide)
      rw [e1.out] at hsv
      dsimp only at hsv
      go_wp2_with fail
      refine hsv.mono ?_
      clear hsv
      rintro e w8 ⟨r, o8, rfl, s8, rfl, f8⟩
      have st8 := Lib.hid (st7.out.trans (s8.mono (by simp)))
      have hfu := fuse_calls 1 p g cap Sa n tear w8 o8 f8 hn'
      rw [hSF.out] at hfu
      replace f8 := Lib.hid f8
      have y8 := Lib.hid (OwnB.stp h7'.out s8 (by simp))
      clear s8 cv1 cv2 cv3
      go_wp2_with fail
      refine hfu.mono ?_
      clear hfu
      rintro e w9 ⟨r, o9, rfl, s9, rfl, f9⟩
      have st9 := Lib.hid (st8.out.trans (s9.mono (by simp)))
      have y9 := Lib.hid (OwnB.stp y8.out s9 (by simp))
      have rb9 := hb.out.stp st9.out hC0.out
      have hsv := save_any 1 0 p g cap SF _ b w9 o9 f9 rb9 (by decide)
      rw [e2.out] at hsv
      dsimp only at hsv
      replace f9 := Lib.hid f9
      replace rb9 := Lib.hid rb9
      clear s9
      go_wp2_with fail
      refine hsv.mono ?_
      clear hsv
      rintro e wa ⟨r, oa, rfl, sa, rfl, fa⟩
      have sta := Lib.hid (st9.out.trans (sa.mono (by simp)))
      have ya := Lib.hid (OwnB.stp y9.out sa (by simp))
      have hbo := boot_calls 1 p g cap S1 wa oa fa
      rw [hS2.out] at hbo
      replace fa := Lib.hid fa
      clear sa
      go_wp2_with fail
      refine hbo.mono ?_
      clear hbo
      rintro e wb ⟨r, ob, rfl, sb, rfl, fb⟩
      have stb := Lib.hid (sta.out.trans (sb.mono (by simp)))
      have yb := Lib.hid (OwnB.stp ya.out sb (by simp))
      have hl := load_calls 1 4 p g cap S2 wb ob fb
      rw [e3.out] at hl
      dsimp only at hl
      replace fb := Lib.hid fb
      clear sb
      go_wp2_with fail
      refine hl.mono ?_
      clear hl
      rintro e wc ⟨r, oc, rfl, sc, vc, rfl, hc⟩
      have fc := Lib.hid (fb.out.stp sc (by simp))
      have stc := Lib.hid (stb.out.trans sc.none)
      obtain ⟨Ac, capc, rfl⟩ := Own.shape hc
      have hc' : OwnB wc oc 4 (.slice Ac y.length capc) y := hc
      have cv1 := convBS (OwnB.rd hc') rfl
      have cv2 := convBS (ha.out.stp stc.out hC0.out) rfl
      have cv3 := convBS (hb.out.stp stc.out hC0.out) rfl
      have kz := constB wc #[.int .u8 122] 1 1
      have az := (Stp.refl [] wc oc).alloc (.cells #[.int .u8 122] 5 (1, 2)) 4
      have rz := Lib.hid (RdB.newz wc oc 4 #[.int .u8 122] [122] rfl 1 rfl (by omega) 5 (1, 2) _ rfl)
      have fd := Lib.hid (fc.out.stp az (by simp))
      have std := Lib.hid (stc.out.trans az.none)
      replace hc := Lib.hid hc
      replace hc' := Lib.hid hc'
      clear sc az
      go_wp2_with fail
      have hsv := save_any 1 4 p g cap S2 _ [122] _ _ fd.out rz.out (by decide)
      rw [e4.out] at hsv
      dsimp only at hsv
      refine hsv.mono ?_
      clear hsv cv1 cv2 cv3 kz
      rintro e we ⟨r, oe, rfl, se, rfl, fe⟩
      have ste := Lib.hid (std.out.trans (se.mono (by simp)))
      have hl := load_calls 1 4 p g cap S3 we oe fe
      rw [e5.out] at hl
      dsimp only at hl
      replace fe := Lib.hid fe
      clear se
      go_wp2_with fail
      refine hl.mono ?_
      clear hl
      rintro e wf ⟨r, of, rfl, sf, vf, rfl, hf⟩
      have stf := Lib.hid (ste.out.trans sf.none)
      obtain ⟨Af, capf, rfl⟩ := Own.shape hf
      have hf' : OwnB wf of 4 (.slice Af 1 capf) [122] := hf
      have cvf := convBS (n := 1) (OwnB.rd hf') rfl
      have hkn := known12_calls wf of
      replace hf := Lib.hid hf
      replace hf' := Lib.hid hf'
      clear sf
      go_wp2_with fail
      refine hkn.mono ?_
      clear hkn cvf
      rintro e wg ⟨rr, og, rfl, sg, rfl⟩
      have stg := Lib.hid (stf.out.trans sg.none)
      clear sg
      go_wp2
      go_ret
      exact Post.mk (stg.out.law hC0.out) rfl
  · have k1 : (y == a) = false := by simp; exact fun h => hya (.inl h)
    have k2 : (y == b) = false := by simp; exact fun h => hya (.inr h)
    replace hya := Lib.hid hya
    have hkn := known12_calls w7 o7
    go_wp2_with fail
    refine hkn.mono ?_
    clear hkn
    rintro e w9 ⟨rr, o9, rfl, s9, rfl⟩
    have st9 := Lib.hid (st7.out.trans s9.none)
    clear cv1 cv2 cv3 s9
    go_wp2
    go_ret
    exact Post.mk (st9.out.law hC0.out) rfl
end Go.Proofs.Ytpjnmijfmfgdpaa
