/- BankOther: the walk. Printed by wip/othergen.py. -/
import Derived.Test.YtpjnmijfmfgdpaaKnown13
import Derived.Test.YtpjnmijfmfgdpaaBankJ
import Derived.BigQuiet
namespace Go.Proofs.Ytpjnmijfmfgdpaa
set_option linter.unusedVariables false
set_option linter.unusedSimpArgs false
open Go.RowKit

def strV (q : List UInt8) : Value := .string ⟨q.toArray⟩
/-- The first j pages of the first bank. -/
def wasL (s : FS) (j : Nat) : List (List UInt8) := (List.range j).map fun i => readB s ((80 + i : Nat) : Int)
theorem wasL_succ (s : FS) (j : Nat) : wasL s (j + 1) = wasL s j ++ [readB s ((80 + j : Nat) : Int)] := by simp [wasL, List.range_succ]
theorem wasL_len (s : FS) (j : Nat) : (wasL s j).length = j := by simp [wasL]
theorem slS : SlT Try.prog 64 9 1 16 (.string ⟨#[]⟩) := ⟨Try.underlying64, info_parts (by kernel_rfl), by kernel_rfl, by omega⟩
/-- What the first loop of BankOther keeps. -/
def OtR (w0 : World) (o0 : Col) (s : FS) (x y : Value) (wr : World) : Prop :=
  ∃ (j : Nat) (o' : Col), y = .int .i64 j ∧ j ≤ 8 ∧ Stp [3] w0 o0 wr o' ∧ Own wr o' 3 9 1 x j ((wasL s j).map strV)
/-- What the second loop keeps. -/
def OuR (w0 : World) (o0 : Col) (x : Value) (wr : World) : Prop :=
  ∃ (j : Nat) (o' : Col), x = .int .i64 j ∧ j ≤ 8 ∧ Stp [] w0 o0 wr o'
set_option maxHeartbeats 4000000 in
set_option maxRecDepth 100000 in
theorem other_law (v1 : Value) (a : List UInt8) (v2 : Value) (b : List UInt8) (n tear : Int) (w : World) (ha : RdB w (fun _ => 0) 0 v1 a) (hb : RdB w (fun _ => 0) 0 v2 b) (_hn : (Lit.int .i64 n).wf = true) (_ht : (Lit.int .i64 tear).wf = true) : Calls Try.prog 11 #[v1, v2, .int .i64 n, .int .i64 tear] w (Post [] w (fun _ => 0) fun r _ _ => r = .bool true) := by
  obtain ⟨A, capA, rfl, _, _⟩ := ha.shape
  obtain ⟨B, capB, rfl, _, _⟩ := hb.shape
  replace ha := Lib.hid ha
  replace hb := Lib.hid hb
  by_cases h1 : 512 < a.length
  · have g : decide ((512 : Int) < (a.length : Int)) = true := decide_eq_true (by omega)
    go_enter Try.func11, Try.ntmps11
    go_wp2
    go_ret
    exact Post.mk (Stp.refl _ _ _) rfl
  have gh1 : decide ((512 : Int) < (a.length : Int)) = false := decide_eq_false (by omega)
  by_cases h2 : 512 < b.length
  · have g : decide ((512 : Int) < (b.length : Int)) = true := decide_eq_true (by omega)
    go_enter Try.func11, Try.ntmps11
    go_wp2
    go_ret
    exact Post.mk (Stp.refl _ _ _) rfl
  have gh2 : decide ((512 : Int) < (b.length : Int)) = false := decide_eq_false (by omega)
  by_cases h3 : n < 0
  · have g : decide (n < 0) = true := decide_eq_true (by omega)
    go_enter Try.func11, Try.ntmps11
    go_wp2
    go_ret
    exact Post.mk (Stp.refl _ _ _) rfl
  have gh3 : decide (n < 0) = false := decide_eq_false (by omega)
  by_cases h4 : 60 < n
  · have g : decide (60 < n) = true := decide_eq_true (by omega)
    go_enter Try.func11, Try.ntmps11
    go_wp2
    go_ret
    exact Post.mk (Stp.refl _ _ _) rfl
  have gh4 : decide (60 < n) = false := decide_eq_false (by omega)
  obtain ⟨S1, e1, b1, _⟩ := install_first [102] a [] 0 (by omega) (by simp) (by simp) (by omega)
  have e3 := b1.boot
  obtain ⟨S0, hS0⟩ : ∃ S0, newS 96 = S0 := ⟨_, rfl⟩
  have hnew := new96_calls 1 w (fun _ => 0)
  rw [hS0] at e1 hnew
  have hpg := bpages_calls w
  obtain ⟨SF, hSF⟩ : ∃ SF, fuseS S1 n tear = SF := ⟨_, rfl⟩
  have hFp : SF.pg = S1.pg := by rw [← hSF]; rfl
  have hbF : bootB SF = (nextB 0 [102] a 0 [], a, 0) := (bootB_congr hFp).trans e3
  obtain ⟨S3, hS3⟩ : ∃ S3, (installS SF [103] b 1 []).1 = S3 := ⟨_, rfl⟩
  obtain ⟨E, hE⟩ : ∃ E, (installS SF [103] b 1 []).2 = E := ⟨_, rfl⟩
  have hoth := install_other SF (fun _ => by rw [hbF]; rfl) (.inl (by rw [hbF])) [103] b [] 1
  rw [hS3, hFp] at hoth
  have hl1 := b1.len
  have hsame : ∀ j, j < 8 → readB S3 ((80 + j : Nat) : Int) = readB S1 ((80 + j : Nat) : Int) := fun j hj => readB_congr (hoth.2 (80 + j) (by omega) (by omega)) hoth.1
  have hE1 : ∀ j, j < 8 → readE S1 ((80 + j : Nat) : Int) = 0 := fun j hj => by rw [readE, if_pos (by simp [hasB]; omega)]
  have hE3 : ∀ j, j < 8 → readE S3 ((80 + j : Nat) : Int) = 0 := fun j hj => by rw [readE, if_pos (by simp [hasB, hoth.1]; omega)]
  obtain ⟨NB, hNB⟩ : ∃ NB, nextB 0 [102] a 0 [] = NB := ⟨_, rfl⟩
  have hNb : NB.bank = 0 := by rw [← hNB]; rfl
  have hNs : NB.sum.length = 32 := by rw [← hNB]; exact sha_len a
  rw [hNB] at e3
  have hn' : n ≤ 9223372036854775807 := by omega
  replace hS0 := Lib.hid hS0
  replace e1 := Lib.hid e1
  replace e3 := Lib.hid e3
  replace b1 := Lib.hid b1
  replace hSF := Lib.hid hSF
  replace hFp := Lib.hid hFp
  replace hbF := Lib.hid hbF
  replace hS3 := Lib.hid hS3
  replace hE := Lib.hid hE
  replace hoth := Lib.hid hoth
  replace hl1 := Lib.hid hl1
  replace hsame := Lib.hid hsame
  replace hE1 := Lib.hid hE1
  replace hE3 := Lib.hid hE3
  replace hNB := Lib.hid hNB
  replace hNb := Lib.hid hNb
  replace hNs := Lib.hid hNs
  go_enter Try.func11, Try.ntmps11
  go_wp2_with fail
  refine hpg.mono ?_
  clear hpg
  rintro e w1 ⟨rfl, he⟩
  replace he := he.symm
  subst he
  go_wp2_with fail
  refine hnew.mono ?_
  clear hnew
  rintro e w1 ⟨r, o1, rfl, s1, p, g, cap, rfl, f1⟩
  have st1 : Stp [3, 1] w (fun _ => 0) w1 o1 := s1.none
  replace st1 := Lib.hid st1
  replace f1 := Lib.hid f1
  clear s1
  go_wp2_with fail
  refine (install_calls 1 0 4 p g cap S0 [102] a [] _ (.slice none 0 0) 0 w1 o1 f1.out (ha.out.stp st1.out (by simp)) (RdB.nil _ _ _) (by decide) (by decide)).mono ?_
  rw [e1.out]
  rintro e w2 ⟨r, o2, rfl, s2, rfl, f2⟩
  dsimp only at f2
  have st2 := st1.out.trans (s2.mono (by simp))
  have hbo := bboot_calls 1 4 4 p g cap S1 w2 o2 f2
  rw [e3.out] at hbo
  dsimp only at hbo
  replace f2 := Lib.hid f2
  replace st2 := Lib.hid st2
  clear s2
  go_wp2_with fail
  refine hbo.mono ?_
  clear hbo
  rintro e w3 ⟨r, o3, rfl, s3, vm, vi, rfl, q3, r3⟩
  obtain ⟨A3, capA3, rfl⟩ := Own.shape q3
  obtain ⟨I3, capI3, rfl, _, _⟩ := r3.shape
  obtain ⟨w4, w5, o5, hwa, hwb, hz, s5, B5, i1, i2, i3⟩ := Sb.lay (w := w3) (o := o3) (e := 4) NB (.slice A3 NB.mind.length capA3) _ _ _ rfl hNs.out
  have sx := s3.trans s5
  have st5 := st2.out.trans sx.none
  have f5 := f2.out.stp sx (by simp)
  have d0 := B5.c0
  rw [hNb.out] at d0
  obtain ⟨CB, hCB⟩ : ∃ CB, (cellsBS NB (.slice A3 NB.mind.length capA3)).toArray = CB := ⟨_, rfl⟩
  rw [hCB] at hwb i1 i2 i3
  replace hz := Lib.hid hz
  replace B5 := Lib.hid B5
  replace st5 := Lib.hid st5
  replace f5 := Lib.hid f5
  replace q3 := Lib.hid q3
  replace r3 := Lib.hid r3
  replace i1 := Lib.hid i1
  replace i2 := Lib.hid i2
  replace i3 := Lib.hid i3
  replace hwa := Lib.hid hwa
  replace hwb := Lib.hid hwb
  replace hCB := Lib.hid hCB
  clear sx s3 s5
  go_wp2_with (refine holdSt 59 ?_)
  apply Hold.mk
  rw [show w3.alloc (.cells (Value.int .i64 0 :: .int .i64 0 :: .int .u8 0 :: .int .u8 0 :: .int .u8 0 :: .int .u8 0 :: .int .u8 0 :: .int .u8 0 :: .int .u8 0 :: .int .u8 0 :: .int .u8 0 :: .int .u8 0 :: .int .u8 0 :: .int .u8 0 :: .int .u8 0 :: .int .u8 0 :: .int .u8 0 :: .int .u8 0 :: .int .u8 0 :: .int .u8 0 :: .int .u8 0 :: .int .u8 0 :: .int .u8 0 :: .int .u8 0 :: .int .u8 0 :: .int .u8 0 :: .int .u8 0 :: .int .u8 0 :: .int .u8 0 :: .int .u8 0 :: .int .u8 0 :: .int .u8 0 :: .int .u8 0 :: .int .u8 0 :: .int .i64 0 :: .string ⟨#[]⟩ :: .slice none 0 0 :: []).toArray 59) = w4 from hwa.out, hCB.out]
  refine wpList_store_row rfl 59 _ _ rfl w3.heap.size CB rfl rfl 59 _ hz.out i1.out i2.out i3.out ?_
  rw [hwb.out]
  obtain ⟨TT, hTT⟩ : ∃ T, w3.heap.size = T := ⟨_, rfl⟩
  rw [hTT] at d0 ⊢
  replace hTT := Lib.hid hTT
  clear i1 i2 i3
  go_wp2_with fail
  clear d0
  go_loopw [13, 14] (OtR w5 o5 S1) (fun _ y _ => 8 - (intOf y).toNat)
  case atStart => exact ⟨0, o5, rfl, by omega, Stp.refl _ _ _, Own.nil _ _ _ _ _⟩
  case round =>
    obtain ⟨j, o6, rfl, hj, s6, hw⟩ := hrel
    obtain ⟨AW, capW, rfl⟩ := Own.shape hw
    have st6 := st5.out.trans (s6.mono (by simp))
    have f6 := f5.out.stp s6 (by simp)
    by_cases hlt : j < 8
    · have g5 : decide ((j : Int) < 8) = true := decide_eq_true (by omega)
      obtain ⟨K, hK⟩ : ∃ K, 80 + j = K := ⟨_, rfl⟩
      have hKI : (80 : Int) + (j : Int) = (K : Int) := by omega
      have hKb : K ≤ 88 := by omega
      have hE1j := hE1.out j hlt
      have hsu := wasL_succ S1 j
      rw [hK] at hE1j hsu
      obtain ⟨Q, hQ⟩ : ∃ Q, readB S1 (K : Int) = Q := ⟨_, rfl⟩
      have hrd := read_calls 1 4 p g cap S1 (K : Int) wr o6 f6
      rw [hE1j, hQ] at hrd
      rw [hQ] at hsu
      replace hw := Lib.hid hw
      replace st6 := Lib.hid st6
      replace f6 := Lib.hid f6
      replace s6 := Lib.hid s6
      replace hE1j := Lib.hid hE1j
      replace hsu := Lib.hid hsu
      replace hQ := Lib.hid hQ
      replace hK := Lib.hid hK
      go_wp2_with fail
      refine hrd.mono ?_
      clear hrd
      rintro e w7 ⟨r, o7, rfl, s7, v7, rfl, h7⟩
      obtain ⟨A7, cap7, rfl⟩ := Own.shape h7
      have cv := convBS (OwnB.rd h7) rfl
      have hw7 := Own.stp hw.out s7 (by simp)
      have sA := (s6.out.trans (s7.mono (by simp)) : Stp [3] w5 o5 w7 o7)
      replace h7 := Lib.hid h7
      replace hw7 := Lib.hid hw7
      replace sA := Lib.hid sA
      clear s7
      go_wp2_with (refine holdAt 70 ?_)
      apply Hold.mk
      have s8 := (Stp.refl [3] w7 o7).alloc (.cells #[strV Q] 9) 4
      have r8 := Rd.new w7 o7 4 #[strV Q] [strV Q] rfl 1 rfl (by omega) (fun u hu => by simp at hu; subst hu; rfl) 9 _ rfl
      have hw8 := Own.stp hw7.out ((Stp.refl [] w7 o7).alloc (.cells #[strV Q] 9) 4) (by simp)
      have sB := sA.out.trans s8
      replace sB := Lib.hid sB
      clear s8 cv
      refine app slS _ _ rfl rfl hw8 r8 rfl rfl (by omega) (by simp only [maxLen]; omega) fun A9 cap9 w9 o9 s9 h9 _ _ _ => ?_
      have sC := Lib.hid (sB.out.trans s9)
      have h9' : Own w9 o9 3 9 1 (.slice A9 (j + 1) cap9) (j + 1) ((wasL S1 (j + 1)).map strV) := by
        rw [hsu.out, List.map_append]
        exact h9
      replace h9' := Lib.hid h9'
      clear h9 hw8 r8 s9
      go_wp2
      go_roundw
      case rel => exact ⟨j + 1, o9, by go_num, by omega, sC.out, h9'.out⟩
      case measure => simp [intOf]; omega
    · have hj8 : j = 8 := by omega
      subst hj8
      have hfu := fuse_calls 1 p g cap S1 n tear wr o6 f6 hn'
      rw [hSF.out] at hfu
      replace hw := Lib.hid hw
      replace st6 := Lib.hid st6
      replace f6 := Lib.hid f6
      replace s6 := Lib.hid s6
      go_wp2_with fail
      refine hfu.mono ?_
      clear hfu
      rintro e w7 ⟨r, o7, rfl, s7, rfl, f7⟩
      have hw7 := Own.stp hw.out s7 (by simp)
      have st7 := st6.out.trans (s7.mono (by simp))
      have hin := install_calls 1 0 4 p g cap SF [103] b [] _ (.slice none 0 0) 1 w7 o7 f7 (hb.out.stp st7 (by simp)) (RdB.nil _ _ _) (by decide) (by decide)
      rw [hS3.out, hE.out] at hin
      replace hw7 := Lib.hid hw7
      replace st7 := Lib.hid st7
      replace f7 := Lib.hid f7
      clear s7
      go_wp2_with fail
      refine hin.mono ?_
      clear hin
      rintro e w8 ⟨r, o8, rfl, s8, rfl, f8⟩
      have hw8 := Own.stp hw7.out s8 (by simp)
      have st8 := st7.out.trans (s8.mono (by simp))
      replace hw8 := Lib.hid hw8
      replace st8 := Lib.hid st8
      replace f8 := Lib.hid f8
      clear s8
      go_wp2_with fail
      go_loopw [17] (OuR w8 o8) (fun x _ => 8 - (intOf x).toNat)
      case atStart => exact ⟨0, o8, rfl, by omega, Stp.refl _ _ _⟩
      case round =>
        obtain ⟨j, o9, rfl, hj, s9⟩ := hrel
        have st9 := Lib.hid (st8.out.trans (s9.mono (by simp)) : Stp [3, 1] w (fun _ => 0) wr o9)
        by_cases hlt : j < 8
        · have g5 : decide ((j : Int) < 8) = true := decide_eq_true (by omega)
          obtain ⟨K, hK⟩ : ∃ K, 80 + j = K := ⟨_, rfl⟩
          have hKI : (80 : Int) + (j : Int) = (K : Int) := by omega
          have hKb : K ≤ 88 := by omega
          have hjI : (0 : Int) ≤ (j : Int) ∧ (j : Int) < ((8 : Nat) : Int) := by omega
          have hjJ : (0 : Int) ≤ (j : Int) ∧ (j : Int) < 8 := by omega
          have hE3j := hE3.out j hlt
          have hsj := hsame.out j hlt
          rw [hK] at hE3j hsj
          obtain ⟨Q, hQ⟩ : ∃ Q, readB S1 (K : Int) = Q := ⟨_, rfl⟩
          rw [hQ] at hsj
          have f9 := f8.out.stp s9 (by simp)
          have hrd := read_calls 1 4 p g cap S3 (K : Int) wr o9 f9
          rw [hE3j, hsj] at hrd
          have hw9 := Own.stp hw8.out s9 (by simp)
          replace f9 := Lib.hid f9
          replace hE3j := Lib.hid hE3j
          replace hsj := Lib.hid hsj
          replace hw9 := Lib.hid hw9
          replace s9 := Lib.hid s9
          replace hQ := Lib.hid hQ
          replace hK := Lib.hid hK
          go_wp2_with fail
          refine hrd.mono ?_
          clear hrd
          rintro e wa ⟨r, oa, rfl, sa, va, rfl, qa⟩
          obtain ⟨Aa, capa, rfl⟩ := Own.shape qa
          have hwa := Own.stp hw9.out sa (by simp)
          have hrw := hwa.rd
          rw [show ((wasL S1 8).map strV) = (wasL S1 8).map strV from rfl] at hrw
          obtain ⟨ad, had, _, hcell⟩ := Rd.get' (f := strV) (l := wasL S1 8) (A := AW) (cap := capW) (n := 8) (by rw [wasL_len]; exact hrw) (j := j) (by rw [wasL_len]; exact hlt)
          subst had
          have hQj : (wasL S1 8)[j]'(by rw [wasL_len]; exact hlt) = Q := by
            rw [← hQ.out, ← hK.out]
            simp [wasL]
          rw [hQj] at hcell
          have cv : ∀ n, (convert 22 9 (.slice Aa Q.length capa)).run Try.prog (wa.drewN n) = .ok (.string ⟨Q.toArray⟩) (wa.drewN n) := fun n => convBS ((OwnB.rd qa).stp ((Stp.refl [] wa oa).drewN n) (by simp)) rfl
          have hcell' : wa.cell? (ad.add j) = some (.string ⟨Q.toArray⟩) := hcell
          have sb := s9.out.trans sa
          clear hcell hQj hrw
          replace qa := Lib.hid qa
          replace hwa := Lib.hid hwa
          replace sb := Lib.hid sb
          clear sa
          go_wp2_with fail
          go_quiet (fail)
          clear cv hcell'
          go_wp2
          go_roundw
          case rel => exact ⟨j + 1, oa, by go_num, by omega, sb.out.drewN _⟩
          case measure => simp [intOf]; omega
        · have g5 : decide ((j : Int) < 8) = false := decide_eq_false (by omega)
          have hkn := known13_calls wr o9
          replace s9 := Lib.hid s9
          go_wp2_with fail
          refine hkn.mono ?_
          clear hkn
          rintro e wb ⟨rr, ob, rfl, sb, rfl⟩
          have stb := Lib.hid (st9.out.trans sb.none)
          clear sb
          go_wp2
          go_ret
          exact Post.mk (stb.out.law (by simp)) rfl
end Go.Proofs.Ytpjnmijfmfgdpaa
