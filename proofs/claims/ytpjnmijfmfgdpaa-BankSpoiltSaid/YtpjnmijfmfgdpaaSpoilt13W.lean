/- BankSpoilt: the walk. Printed by wip/spoilt13gen.py. -/
import Derived.Test.YtpjnmijfmfgdpaaKnown13
import Derived.Test.YtpjnmijfmfgdpaaBankH
import Derived.Test.YtpjnmijfmfgdpaaBankJ
import Derived.Test.YtpjnmijfmfgdpaaShaE
namespace Go.Proofs.Ytpjnmijfmfgdpaa
set_option linter.unusedVariables false
set_option linter.unusedSimpArgs false
open Go.RowKit

set_option maxHeartbeats 4000000 in
set_option maxRecDepth 100000 in
theorem spoilt13_law (v1 : Value) (m : List UInt8) (at_ : Int) (by_ : UInt8) (w : World) (hm : RdB w (fun _ => 0) 0 v1 m) (_ha : (Lit.int .i64 at_).wf = true) : Calls Try.prog 13 #[v1, .int .i64 at_, .int .u8 (by_.toNat : Int)] w (Post [] w (fun _ => 0) fun r _ _ => r = .bool true) := by
  obtain ⟨A, capA, rfl, _, _⟩ := hm.shape
  replace hm := Lib.hid hm
  by_cases h1 : m.length < 1
  · have g : decide ((m.length : Int) < 1) = true := decide_eq_true (by omega)
    go_enter Try.func13, Try.ntmps13
    go_wp2
    go_ret
    exact Post.mk (Stp.refl _ _ _) rfl
  have gh1 : decide ((m.length : Int) < 1) = false := decide_eq_false (by omega)
  by_cases h2 : 512 < m.length
  · have g : decide ((512 : Int) < (m.length : Int)) = true := decide_eq_true (by omega)
    go_enter Try.func13, Try.ntmps13
    go_wp2
    go_ret
    exact Post.mk (Stp.refl _ _ _) rfl
  have gh2 : decide ((512 : Int) < (m.length : Int)) = false := decide_eq_false (by omega)
  by_cases h3 : by_ = 0
  · subst h3
    go_enter Try.func13, Try.ntmps13
    go_wp2
    go_ret
    exact Post.mk (Stp.refl _ _ _) rfl
  have g3 : ((by_.toNat : Int) == 0) = false := by
    rw [beq_eq_false_iff_ne]
    intro e
    exact h3 (UInt8.toNat_inj.1 (by simp; omega))
  have g3n : ¬ by_.toNat = 0 := fun e => h3 (UInt8.toNat_inj.1 (by simpa using e))
  obtain ⟨S1, e1, b1, hp⟩ := install_first [97] m [] 0 (by omega) (by simp) (by simp) (by omega)
  obtain ⟨S0, hS0⟩ : ∃ S0, newS 96 = S0 := ⟨_, rfl⟩
  have hnew := new96_calls 1 w (fun _ => 0)
  rw [hS0] at e1 hnew
  have hpg := bpages_calls w
  obtain ⟨k, hkZ, hrem⟩ := place16 at_ m.length (by omega)
  obtain ⟨x0, hx0⟩ : ∃ x0, m[k]'hkZ = x0 := ⟨_, rfl⟩
  have hx0s : m[k]? = some x0 := by rw [← hx0]; exact List.getElem?_eq_getElem hkZ
  obtain ⟨y, hy⟩ : ∃ y, x0 ^^^ by_ = y := ⟨_, rfl⟩
  obtain ⟨m', hm'⟩ : ∃ m', m.set k y = m' := ⟨_, rfl⟩
  have hm'l : m'.length = m.length := by rw [← hm', List.length_set]
  have hspoil := fun hne => spoil_bank b1 (by omega) hp hkZ (y := y) hne
  rw [hm'] at hspoil
  have hml : m.length ≤ 512 := by omega
  obtain ⟨kq, hkq⟩ : ∃ kq, k / 64 = kq := ⟨_, rfl⟩
  obtain ⟨kr, hkr⟩ : ∃ kr, k % 64 = kr := ⟨_, rfl⟩
  rw [hkq, hkr] at hspoil
  have hkqI : Int.tdiv (k : Int) 64 = (kq : Int) := by rw [← hkq]; rfl
  have hkqJ : (k : Int) / 64 = (kq : Int) := by rw [← hkq]; rfl
  have hkrI : Int.tmod (k : Int) 64 = (kr : Int) := by rw [← hkr]; rfl
  have hkrJ : (k : Int) % 64 = (kr : Int) := by rw [← hkr]; rfl
  have hkb : k < 512 := by omega
  have hkqb : kq ≤ 8 := by omega
  have hkrb : kr < 64 := by omega
  have hz0 : ((m.length : Int) == 0) = false := beq_eq_false_iff_ne.2 (by omega)
  have hz1 : ¬ m.length = 0 := by omega
  have hj3 : (0 : Int) ≤ (kr : Int) ∧ (kr : Int) < 64 := by omega
  have hk3 : (0 : Int) ≤ (k : Int) ∧ (k : Int) < (m.length : Int) := by omega
  obtain ⟨P, hP⟩ : ∃ P, 80 + kq = P := ⟨_, rfl⟩
  have hPI : (80 : Int) + (kq : Int) = (P : Int) := by omega
  have hPb : P ≤ 88 := by omega
  rw [hP] at hspoil
  have hkm : kq < manyN m := by unfold manyN; omega
  obtain ⟨q, hq⟩ : ∃ q, S1.pg[P]? = some q := ⟨_, by rw [← hP]; exact hp kq hkm⟩
  have hxor := xor8 x0 by_
  rw [hy] at hxor
  have hx8 : (y.toNat : Int) < 256 := by have := UInt8.toNat_lt y; omega
  replace hy := Lib.hid hy
  replace hS0 := Lib.hid hS0
  replace e1 := Lib.hid e1
  replace b1 := Lib.hid b1
  replace hp := Lib.hid hp
  replace hkq := Lib.hid hkq
  replace hkr := Lib.hid hkr
  replace hP := Lib.hid hP
  replace hq := Lib.hid hq
  replace hspoil := Lib.hid hspoil
  replace hm' := Lib.hid hm'
  replace hx0 := Lib.hid hx0
  replace hx0s := Lib.hid hx0s
  replace hkm := Lib.hid hkm
  go_enter Try.func13, Try.ntmps13
  go_wp2_with fail
  refine hpg.mono ?_
  clear hpg
  rintro e w1 ⟨rfl, he⟩
  replace he := he.symm
  subst he
  go_wp2_with fail
  refine hnew.mono ?_
  clear hnew
  rintro e w1 ⟨r, o1, rfl, s1, p, g, cap, rfl, f1⟩
  have st1 : Stp [5, 4, 1] w (fun _ => 0) w1 o1 := s1.none
  replace st1 := Lib.hid st1
  replace f1 := Lib.hid f1
  clear s1
  go_wp2_with fail
  refine (install_calls 1 0 4 p g cap S0 [97] m [] _ (.slice none 0 0) 0 w1 o1 f1.out (hm.out.stp st1.out (by simp)) (RdB.nil _ _ _) (by decide) (by decide)).mono ?_
  rw [e1.out]
  rintro e w2 ⟨r, o2, rfl, s2, rfl, f2⟩
  dsimp only at f2
  have st2 := st1.out.trans (s2.mono (by simp))
  replace st2 := Lib.hid st2
  clear s2
  have hok := f2.ok
  have hq64 : q.length = 64 := hok.1 q (List.mem_of_getElem? hq.out)
  have hE : readE S1 (P : Int) = 0 := by
    have hl := b1.out.len
    rw [readE, if_pos (by simp [hasB]; omega)]
  have hR : readB S1 (P : Int) = q := readB_get hq.out
  have hrd := read_calls 1 4 p g cap S1 (P : Int) w2 o2 f2
  rw [hE, hR] at hrd
  replace f2 := Lib.hid f2
  replace hok := Lib.hid hok
  replace hE := Lib.hid hE
  replace hR := Lib.hid hR
  go_wp2_with fail
  refine hrd.mono ?_
  clear hrd
  rintro e w3 ⟨r, o3, rfl, s3, v3, rfl, h3'⟩
  obtain ⟨A3, cap3, rfl⟩ := Own.shape h3'
  have h3' : OwnB w3 o3 4 (.slice A3 q.length cap3) q := h3'
  rw [hq64] at h3' ⊢
  have f3 := f2.out.stp s3 (by simp)
  have st3 := st2.out.trans s3.none
  replace f3 := Lib.hid f3
  replace st3 := Lib.hid st3
  replace h3' := Lib.hid h3'
  have Hq64 := Lib.hid hq64
  clear s3 hq64
  go_wp2_with (refine holdAt 57 ?_)
  apply Hold.mk
  have s4 := (Stp.refl [5] w3 o3).alloc (.cells #[] 5) 5
  refine appB (l := []) _ _ rfl rfl (OwnB.new w3 o3 5 #[] [] rfl 0 rfl (by omega) _ rfl) ((hm.out.stp st3.out (by simp)).stp s4 (by simp)) rfl rfl (by simp; omega) fun A4 cap4 w4 o4 s5 h4 _ _ => ?_
  rw [List.nil_append, List.length_nil, Nat.zero_add] at h4
  rw [List.length_nil, Nat.zero_add]
  have sx := s4.trans s5
  have st4 := st3.out.trans (sx.mono (by simp))
  have f4 := f3.out.stp sx (by simp)
  have h4p := OwnB.stp h3'.out sx (by simp)
  clear s4 s5 sx
  obtain ⟨gx, rfl, k1, k2, k3⟩ := OwnB.store h4 (j := k) hkZ
  rw [hx0.out] at k1
  obtain ⟨h5, s5⟩ := k3 y
  rw [hm'.out] at h5
  have h5p := OwnB.stp h4p s5 (by simp)
  have f5 := f4.stp s5 (by simp)
  have st5 := st4.trans (s5.mono (by simp))
  have r5 := OwnB.rd h5
  rw [← hm'l] at r5
  have m5 := hm.out.stp st5 (by simp)
  obtain ⟨w5, hw5⟩ : ∃ w5, w4.setCell ⟨gx, k, none⟩ (.int .u8 (y.toNat : Int)) = w5 := ⟨_, rfl⟩
  rw [hw5] at h5 h5p f5 st5 r5 m5
  rw [hm'l] at r5
  replace h5p := Lib.hid h5p
  replace f5 := Lib.hid f5
  replace st5 := Lib.hid st5
  replace h4 := Lib.hid h4
  replace h4p := Lib.hid h4p
  replace h5 := Lib.hid h5
  replace f4 := Lib.hid f4
  replace st4 := Lib.hid st4
  replace r5 := Lib.hid r5
  replace m5 := Lib.hid m5
  clear k3 s5
  have hs1 := xsum_calls 5 _ m' w5 o4 r5.out (by omega)
  obtain ⟨H1, hH1⟩ : ∃ H, sha m' = H := ⟨_, rfl⟩
  obtain ⟨H2, hH2⟩ : ∃ H, sha m = H := ⟨_, rfl⟩
  have hH1l : H1.length = 32 := by rw [← hH1]; exact sha_len _
  have hH2l : H2.length = 32 := by rw [← hH2]; exact sha_len _
  rw [hH1] at hs1
  obtain ⟨E, hEq⟩ : ∃ E, (H1 == H2) = E := ⟨_, rfl⟩
  have heq : ∀ w', (Op.equalIn 10000 57 (.agg (vbs H1).toArray) (.agg (vbs H2).toArray)).run Try.prog w' = .ok E w' := fun w' => by
    rw [← hEq]
    exact run_equalIn_bytes (P := Try.prog) w' 9998 57 5 32 Try.underlying57 Try.underlying5 sizeU8 H1 H2 hH1l hH2l
  replace hEq := Lib.hid hEq
  replace hH1 := Lib.hid hH1
  replace hH2 := Lib.hid hH2
  replace hH1l := Lib.hid hH1l
  replace hH2l := Lib.hid hH2l
  clear h1
  replace hw5 := Lib.hid hw5
  go_wp2_with fail
  rw [hw5.out]
  refine hs1.mono ?_
  clear hs1 k1 k2
  rintro e w6 ⟨r, o6, rfl, s6, rfl⟩
  have st6 := st5.out.trans s6.none
  have h6p := OwnB.stp h5p.out s6 (by simp)
  have f6 := f5.out.stp s6 (by simp)
  have m6 := m5.out.stp s6 (by simp)
  replace st6 := Lib.hid st6
  replace h6p := Lib.hid h6p
  replace f6 := Lib.hid f6
  replace m6 := Lib.hid m6
  clear s6
  have hs2 := xsum_calls 0 _ m w6 o6 m6.out (by omega)
  rw [hH2.out] at hs2
  go_wp2_with fail
  refine hs2.mono ?_
  clear hs2
  rintro e w7 ⟨r, o7, rfl, s7, rfl⟩
  have st7 := st6.out.trans s7.none
  have h7p := OwnB.stp h6p.out s7 (by simp)
  have f7 := f6.out.stp s7 (by simp)
  replace st7 := Lib.hid st7
  replace h7p := Lib.hid h7p
  replace f7 := Lib.hid f7
  clear s7
  cases E with
  | true =>
    have hkn := known13_calls w7 o7
    go_wp2_with fail
    refine hkn.mono ?_
    clear hkn
    rintro e w8 ⟨rr, o8, rfl, s8, rfl⟩
    have st8 := Lib.hid (st7.out.trans s8.none)
    clear s8
    go_wp2
    go_ret
    exact Post.mk (st8.out.law (by simp)) rfl
  | false =>
    have hne : ¬ sha m' = sha m := by
      rw [hH1.out, hH2.out]
      exact beq_eq_false_iff_ne.1 hEq.out
    obtain ⟨q9, S2, z1, z2, z3, z4, n1, n2, n3, z5, z6, z7⟩ := hspoil.out hne
    obtain rfl : q9 = q := by
      have e := z1
      rw [hq.out] at e
      exact (Option.some.inj e).symm
    have hkrq : kr < q9.length := by rw [z2]; exact hkrb
    have hqx : q9[kr]'hkrq = x0 := by
      have e := z3
      rw [hx0s.out, List.getElem?_eq_getElem hkrq] at e
      exact Option.some.inj e
    obtain ⟨q', hq'⟩ : ∃ q', q9.set kr y = q' := ⟨_, rfl⟩
    rw [hq'] at n2 n3
    have hq'l : q'.length = 64 := by rw [← hq', List.length_set]; exact z2
    have e8 := install_spoilt (name := [98]) (m := m) (mind := []) (counter := 1) z5 z6 z7 (by omega) (by simp) (by simp) (by omega)
    have e9 := keep_spoilt z5 []
    obtain ⟨gb, rfl, k1, k2, k3⟩ := OwnB.store h7p.out (j := kr) hkrq
    rw [hqx] at k1
    obtain ⟨h8, s8⟩ := k3 y
    rw [hq'] at h8
    have f8 := f7.out.stp s8 (by simp)
    have st8 := st7.out.trans (s8.mono (by simp))
    have r8 := OwnB.rd h8
    have her := erase_calls 1 p g cap S1 (P : Int) _ _ f8
    rw [n1] at her
    obtain ⟨NB, hNB⟩ : ∃ NB, zeroBS = NB := ⟨_, rfl⟩
    obtain ⟨IM, hIM⟩ : ∃ IM : List UInt8, [] = IM := ⟨_, rfl⟩
    have e3 : bootB S2 = (NB, IM, 8) := by rw [← hNB, ← hIM]; exact z5
    have hNs : NB.sum.length = 32 := by rw [← hNB]; rfl
    have hIl : ((IM.length : Int) == 0) = true := by rw [← hIM]; rfl
    clear hqx z3 z1
    replace n1 := Lib.hid n1
    replace n2 := Lib.hid n2
    replace n3 := Lib.hid n3
    replace z2 := Lib.hid z2
    replace z4 := Lib.hid z4
    replace z5 := Lib.hid z5
    replace z6 := Lib.hid z6
    replace z7 := Lib.hid z7
    replace hq' := Lib.hid hq'
    replace hq'l := Lib.hid hq'l
    replace e8 := Lib.hid e8
    replace e9 := Lib.hid e9
    replace f8 := Lib.hid f8
    replace st8 := Lib.hid st8
    replace r8 := Lib.hid r8
    replace h8 := Lib.hid h8
    replace hNB := Lib.hid hNB
    replace hIM := Lib.hid hIM
    replace e3 := Lib.hid e3
    replace hNs := Lib.hid hNs
    replace hne := Lib.hid hne
    replace hkrq := Lib.hid hkrq
    clear k3 s8
    go_wp2_with fail
    refine her.mono ?_
    clear her k1 k2
    rintro e w9 ⟨r, o9, rfl, s9, rfl, f9⟩
    have st9 := st8.out.trans (s9.mono (by simp))
    have r9 := r8.out.stp s9 (by simp)
    have hpr := program_calls 1 4 p g cap _ (P : Int) (.slice (some ⟨gb, 0, none⟩) 64 cap3) q' w9 o9 f9 r9
    rw [n2.out, n3.out] at hpr
    replace f9 := Lib.hid f9
    replace st9 := Lib.hid st9
    replace r9 := Lib.hid r9
    clear s9
    go_wp2_with fail
    refine hpr.mono ?_
    clear hpr
    rintro e wa ⟨r, oa, rfl, sa, rfl, fa⟩
    have sta := st9.out.trans (sa.mono (by simp))
    have hbo := bboot_calls 1 4 4 p g cap S2 wa oa fa
    rw [e3.out] at hbo
    dsimp only at hbo
    replace fa := Lib.hid fa
    replace sta := Lib.hid sta
    clear sa
    go_wp2_with fail
    refine hbo.mono ?_
    clear hbo
    rintro e wb ⟨r, ob, rfl, sb, vm, vi, rfl, qb, rb⟩
    obtain ⟨Ab, capAb, rfl⟩ := Own.shape qb
    obtain ⟨Ib, capIb, rfl, _, _⟩ := rb.shape
    obtain ⟨wc, wd, od, hwc, hwd, hz, sd, Bd, i1, i2, i3⟩ := Sb.lay (w := wb) (o := ob) (e := 4) NB (.slice Ab NB.mind.length capAb) _ _ _ rfl hNs.out
    have sx := sb.trans sd
    have std := sta.out.trans sx.none
    have fd := fa.out.stp sx (by simp)
    obtain ⟨CB, hCB⟩ : ∃ CB, (cellsBS NB (.slice Ab NB.mind.length capAb)).toArray = CB := ⟨_, rfl⟩
    rw [hCB] at hwd i1 i2 i3
    replace hz := Lib.hid hz
    replace Bd := Lib.hid Bd
    replace std := Lib.hid std
    replace fd := Lib.hid fd
    replace qb := Lib.hid qb
    replace rb := Lib.hid rb
    replace i1 := Lib.hid i1
    replace i2 := Lib.hid i2
    replace i3 := Lib.hid i3
    replace hwc := Lib.hid hwc
    replace hwd := Lib.hid hwd
    replace hCB := Lib.hid hCB
    clear sx sb sd
    go_wp2_with (refine holdSt 59 ?_)
    apply Hold.mk
    rw [show wb.alloc (.cells (Value.int .i64 0 :: .int .i64 0 :: .int .u8 0 :: .int .u8 0 :: .int .u8 0 :: .int .u8 0 :: .int .u8 0 :: .int .u8 0 :: .int .u8 0 :: .int .u8 0 :: .int .u8 0 :: .int .u8 0 :: .int .u8 0 :: .int .u8 0 :: .int .u8 0 :: .int .u8 0 :: .int .u8 0 :: .int .u8 0 :: .int .u8 0 :: .int .u8 0 :: .int .u8 0 :: .int .u8 0 :: .int .u8 0 :: .int .u8 0 :: .int .u8 0 :: .int .u8 0 :: .int .u8 0 :: .int .u8 0 :: .int .u8 0 :: .int .u8 0 :: .int .u8 0 :: .int .u8 0 :: .int .u8 0 :: .int .u8 0 :: .int .i64 0 :: .string ⟨#[]⟩ :: .slice none 0 0 :: []).toArray 59) = wc from hwc.out, hCB.out]
    refine wpList_store_row rfl 59 _ _ rfl wb.heap.size CB rfl rfl 59 _ hz.out i1.out i2.out i3.out ?_
    rw [hwd.out]
    obtain ⟨TT, hTT⟩ : ∃ T, wb.heap.size = T := ⟨_, rfl⟩
    rw [hTT] at Bd ⊢
    replace hTT := Lib.hid hTT
    clear i1 i2 i3
    go_wp2_with fail
    refine (install_calls 1 0 4 p g cap S2 [98] m [] _ (.slice none 0 0) 1 wd od fd.out (hm.out.stp std.out (by simp)) (RdB.nil _ _ _) (by decide) (by decide)).mono ?_
    rw [e8.out]
    rintro e we ⟨r, oe, rfl, se, rfl, fe⟩
    dsimp only at fe
    have ste := std.out.trans (se.mono (by simp))
    replace fe := Lib.hid fe
    replace ste := Lib.hid ste
    clear se
    go_wp2_with fail
    refine (keep_calls 1 4 p g cap S2 [] (.slice none 0 0) we oe fe.out (RdB.nil _ _ _) (by decide)).mono ?_
    rw [e9.out]
    rintro e wf ⟨r, of, rfl, sf, rfl, ff⟩
    dsimp only at ff
    have stf := ste.out.trans (sf.mono (by simp))
    replace ff := Lib.hid ff
    replace stf := Lib.hid stf
    clear sf
    have hkn := known13_calls wf of
    go_wp2_with fail
    refine hkn.mono ?_
    clear hkn
    rintro e wg ⟨rr, og, rfl, sg, rfl⟩
    have stg := Lib.hid (stf.out.trans sg.none)
    clear sg
    go_wp2
    go_ret
    exact Post.mk (stg.out.law (by simp)) rfl
end Go.Proofs.Ytpjnmijfmfgdpaa
