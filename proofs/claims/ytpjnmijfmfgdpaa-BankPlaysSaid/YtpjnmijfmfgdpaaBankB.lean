/- Banks (chapter 13): lay: the walk. -/
import Derived.Test.YtpjnmijfmfgdpaaBankA
import Derived.Deep.RegionHeldLaw
namespace Go.Proofs.Ytpjnmijfmfgdpaa
set_option linter.unusedVariables false
set_option linter.unusedSimpArgs false
open Go.RowKit

/-- What the loops of the bank's 'lay' keep. -/
def BlE (w0 : World) (o0 : Col) (c p g cap : Nat) (s : FS) (k n : Nat) (x : Value) (wr : World) : Prop :=
  ∃ (i a : Nat) (o' : Col), x = .int .i64 a ∧ a = i * 64 ∧ i ≤ n ∧ Stp [c] w0 o0 wr o' ∧ Fl wr o' c p g cap (erasesS s k i).1 ∧ (erasesS s k i).2 = 0
def BlP (w0 : World) (o0 : Col) (c p g cap : Nat) (s : FS) (k n : Nat) (b : List UInt8) (x : Value) (wr : World) : Prop :=
  ∃ (i a : Nat) (o' : Col), x = .int .i64 a ∧ a = i * 64 ∧ i ≤ n ∧ Stp [c] w0 o0 wr o' ∧ Fl wr o' c p g cap (progsB s k b i).1 ∧ (progsB s k b i).2 = 0
set_option maxHeartbeats 3000000 in
set_option maxRecDepth 100000 in
theorem blay_calls (c c2 p g cap : Nat) (s : FS) (bk : Int) (K : Nat) (hK : (K : Int) = 80 + bk * 8) (h0 : 0 ≤ bk) (h1 : bk ≤ 1) (v : Value) (b : List UInt8) (w : World) (o : Col) (h : Fl w o c p g cap s) (hb : RdB w o c2 v b) (h2 : c2 ≠ c) (hl : b.length ≤ 1000000) :
    Calls Try.prog 67 #[.pointer (some ⟨p, 0, none⟩), .int .i64 bk, v] w (Post [c] w o fun r w' o' => r = .int .i64 (layB s K b).2 ∧ Fl w' o' c p g cap (layB s K b).1) := by
  obtain ⟨A, capA, rfl, hlc, hA⟩ := hb.shape
  obtain ⟨n, hn⟩ : ∃ n, manyN b = n := ⟨_, rfl⟩
  have hnb : n ≤ 20000 ∧ n * 64 ≤ b.length + 63 ∧ b.length ≤ n * 64 := by rw [← hn, manyN]; omega
  have hlay : layB s K b = if (erasesS s K n).2 = 0 then progsB (erasesS s K n).1 K b n else erasesS s K n := by rw [layB, hn]
  obtain ⟨LS, hLS⟩ : ∃ LS, layB s K b = LS := ⟨_, rfl⟩
  rw [hLS] at hlay ⊢
  have hfc := fun w' => first_calls bk K hK h0 h1 w'
  have hKb : K ≤ 88 := by omega
  replace hLS := Lib.hid hLS
  replace hn := Lib.hid hn
  replace hb := Lib.hid hb
  replace h := Lib.hid h
  replace hlay := Lib.hid hlay
  replace hK := Lib.hid hK
  replace hfc := Lib.hid hfc
  go_enter Try.func67, Try.ntmps67
  go_wp2_with fail
  go_loopw [7] (BlE w o c p g cap s K n) (fun x _ => n * 64 - (intOf x).toNat)
  case atStart => exact ⟨0, 0, o, rfl, rfl, Nat.zero_le _, Stp.refl _ _ _, h.out, rfl⟩
  case round =>
    obtain ⟨i, a, o1, rfl, ha, hi, st, hF, hE⟩ := hrel
    by_cases hlt : i < n
    · have hab : a < b.length := by omega
      have g1 : decide ((a : Int) < (b.length : Int)) = true := decide_eq_true (by omega)
      obtain ⟨j, hj⟩ : ∃ j, K + i = j := ⟨_, rfl⟩
      have hq1 : Int.tdiv (a : Int) 64 = (i : Int) := by
        rw [ha, show ((i * 64 : Nat) : Int) = (i : Int) * 64 by omega]
        exact Int.mul_tdiv_cancel _ (by decide)
      have hq2 : (a : Int) / 64 = (i : Int) := by omega
      have hjI : (K : Int) + (i : Int) = (j : Int) := by omega
      have hab2 : a ≤ 1000000 := by omega
      have hnx : erasesS s K (i + 1) = (eraseS (erasesS s K i).1 (j : Int), eraseE (erasesS s K i).1 (j : Int)) := by rw [erasesS, if_pos hE, hj]
      have hcall := erase_calls c p g cap _ (j : Int) wr o1 hF
      have hE1 : (erasesS s K (i + 1)).2 = eraseE (erasesS s K i).1 (j : Int) := by rw [hnx]
      have hF1 : (erasesS s K (i + 1)).1 = eraseS (erasesS s K i).1 (j : Int) := by rw [hnx]
      rw [← hE1, ← hF1] at hcall
      have hstuck := fun x => erasesS_stuck s K (i := i + 1) x n (by omega)
      obtain ⟨T, hT⟩ : ∃ T, erasesS s K (i + 1) = T := ⟨_, rfl⟩
      rw [hT] at hcall hstuck hnx hE1 hF1
      have hf := hfc.out wr
      replace ha := Lib.hid ha
      replace hj := Lib.hid hj
      replace hnx := Lib.hid hnx
      replace hE1 := Lib.hid hE1
      replace hF1 := Lib.hid hF1
      replace hF := Lib.hid hF
      replace hE := Lib.hid hE
      replace st := Lib.hid st
      by_cases hz : T.2 = 0
      · have g2 : (T.2 != 0) = false := by simp [hz]
        have hz' := Lib.hid hz
        clear hstuck hz
        go_wp2_with fail
        refine hf.mono ?_
        clear hf
        rintro e w1 ⟨rfl, rfl⟩
        go_wp2_with fail
        refine hcall.mono ?_
        clear hcall
        rintro e w2 ⟨r, o2, rfl, s2, rfl, F2⟩
        have st2 := Lib.hid (st.out.trans s2)
        replace F2 := Lib.hid F2
        clear s2
        go_wp2
        go_roundw
        case rel => exact ⟨i + 1, a + 64, o2, by go_num, by have := ha.out; omega, by omega, st2.out, by rw [hT]; exact F2.out, by rw [hT]; exact hz'.out⟩
        case measure => have := ha.out; simp [intOf]; omega
      · have g2 : (T.2 != 0) = true := by simp [hz]
        have hend : LS = T := by rw [hlay.out, hstuck hz, if_neg hz]
        replace hend := Lib.hid hend
        replace hz := Lib.hid hz
        clear hstuck
        go_wp2_with fail
        refine hf.mono ?_
        clear hf
        rintro e w1 ⟨rfl, rfl⟩
        go_wp2_with fail
        refine hcall.mono ?_
        clear hcall
        rintro e w2 ⟨r, o2, rfl, s2, rfl, F2⟩
        have st2 := Lib.hid (st.out.trans s2)
        replace F2 := Lib.hid F2
        clear s2
        go_wp2
        go_ret
        exact Post.mk st2.out ⟨by rw [hend.out]; rfl, by rw [hend.out]; exact F2.out⟩
    · have hin : i = n := by omega
      have hab : ¬ a < b.length := by omega
      have g1 : decide ((a : Int) < (b.length : Int)) = false := decide_eq_false (by omega)
      rw [hin] at hE hF
      have hlay2 : LS = progsB (erasesS s K n).1 K b n := by rw [hlay.out, if_pos hE]
      obtain ⟨s1, hs1⟩ : ∃ s1, (erasesS s K n).1 = s1 := ⟨_, rfl⟩
      rw [hs1] at hlay2 hF
      have hb1 := hb.out.stp st (by simpa using h2)
      replace hlay2 := Lib.hid hlay2
      replace hb1 := Lib.hid hb1
      replace hF := Lib.hid hF
      replace hE := Lib.hid hE
      replace hs1 := Lib.hid hs1
      replace hin := Lib.hid hin
      replace st := Lib.hid st
      replace ha := Lib.hid ha
      go_wp2_with fail
      obtain ⟨w1, hw1⟩ : ∃ w1, wr = w1 := ⟨_, rfl⟩
      subst hw1
      go_loopw [9] (BlP wr o1 c p g cap s1 K n b) (fun x _ => n * 64 - (intOf x).toNat)
      case atStart => exact ⟨0, 0, o1, rfl, rfl, Nat.zero_le _, Stp.refl _ _ _, hF.out, rfl⟩
      case round =>
        obtain ⟨m, a, o2, rfl, ha, hm, st2, hF2, hE2⟩ := hrel
        by_cases hlt2 : m < n
        · have hab : a < b.length := by omega
          have g2 : decide ((a : Int) < (b.length : Int)) = true := decide_eq_true (by omega)
          have hq1 : Int.tdiv (a : Int) 64 = (m : Int) := by
            rw [ha, show ((m * 64 : Nat) : Int) = (m : Int) * 64 by omega]
            exact Int.mul_tdiv_cancel _ (by decide)
          have hq2 : (a : Int) / 64 = (m : Int) := by omega
          obtain ⟨km, hkm⟩ : ∃ km, K + m = km := ⟨_, rfl⟩
          obtain ⟨a2, ha2⟩ : ∃ a2, a + 64 = a2 := ⟨_, rfl⟩
          obtain ⟨hi2, hhi⟩ : ∃ hi2, min a2 b.length = hi2 := ⟨_, rfl⟩
          have hkI : (K : Int) + (m : Int) = (km : Int) := by omega
          have ha2I : (a : Int) + 64 = (a2 : Int) := by omega
          have hab2 : a ≤ 1000000 := by omega
          have hcs : (b.length < a2 ∧ hi2 = b.length) ∨ (¬ b.length < a2 ∧ hi2 = a2) := by omega
          have hah : a ≤ hi2 ∧ hi2 ≤ b.length := by omega
          have hpart : partB b m = (b.drop a).take (hi2 - a) := by rw [partB, ← ha, show (m + 1) * 64 = a2 by omega, hhi]
          replace ha := Lib.hid ha
          replace hkm := Lib.hid hkm
          replace ha2 := Lib.hid ha2
          replace hhi := Lib.hid hhi
          replace hpart := Lib.hid hpart
          have hca : a ≤ capA ∧ hi2 ≤ capA := by omega
          have hne : ¬ capA = a := by omega
          have hmb : (0 : Int) ≤ (m : Int) ∧ (m : Int) < 20000 := by omega
          have hkb : (0 : Int) ≤ (km : Int) ∧ (km : Int) < 30000 := by omega
          have ha2b : (0 : Int) ≤ (a2 : Int) ∧ (a2 : Int) < 2000000 := by omega
          have hw1 : IntKind.i64.wrap (m : Int) = (m : Int) := IntWalk.i64_in _ (by omega)
          have hw2 : IntKind.i64.wrap (km : Int) = (km : Int) := IntWalk.i64_in _ (by omega)
          have hw3 : IntKind.i64.wrap (a2 : Int) = (a2 : Int) := IntWalk.i64_in _ (by omega)
          cases A with
          | none => have := hA rfl; omega
          | some a0 =>
          clear hA
          have u1 : a ≤ hi2 := hah.1
          have u2 : hi2 ≤ capA := hca.2
          rcases hcs with ⟨q1, q2⟩ | ⟨q1, q2⟩
          all_goals subst q2
          · have g3 : decide ((b.length : Int) < (a2 : Int)) = true := decide_eq_true (by omega)
            have g4 : (b.length : Int) < (a2 : Int) := by omega
            have hb2 := hb1.out.stp st2 (by simpa using h2)
            have rP : RdB wr o2 c2 (.slice (some (a0.add a)) (b.length - a) (capA - a)) (partB b m) := by
              have h8 := Rd.sub hb2 a b.length (by omega) (by omega)
              rw [if_neg hne] at h8
              have hl8 : (partB b m).length = b.length - a := by rw [hpart.out, List.length_take, List.length_drop]; omega
              unfold RdB
              rw [hl8]
              rw [hpart.out]
              simpa [vbs, List.map_take, List.map_drop] using h8
            have hcall := program_calls c c2 p g cap (progsB s1 K b m).1 (km : Int) _ (partB b m) wr.drew o2 (hF2.stp (Stp.refl [] wr o2).drew (by simp)) (rP.stp (Stp.refl [] wr o2).drew (by simp))
            have hnx : progsB s1 K b (m + 1) = (progS (progsB s1 K b m).1 (km : Int) (partB b m), progE (progsB s1 K b m).1 (km : Int) (partB b m)) := by rw [progsB, if_pos hE2, hkm.out]
            have hE1 : (progsB s1 K b (m + 1)).2 = progE (progsB s1 K b m).1 (km : Int) (partB b m) := by rw [hnx]
            have hF1 : (progsB s1 K b (m + 1)).1 = progS (progsB s1 K b m).1 (km : Int) (partB b m) := by rw [hnx]
            rw [← hE1, ← hF1] at hcall
            have hstuck := fun x => progsB_stuck s1 K b (i := m + 1) x n (by omega)
            obtain ⟨T, hT⟩ : ∃ T, progsB s1 K b (m + 1) = T := ⟨_, rfl⟩
            rw [hT] at hcall hstuck hnx hE1 hF1
            have hf := fun w' => hfc.out w'
            replace hnx := Lib.hid hnx
            replace hE1 := Lib.hid hE1
            replace hF1 := Lib.hid hF1
            replace hF2 := Lib.hid hF2
            replace hE2 := Lib.hid hE2
            replace st2 := Lib.hid st2.drew
            replace hb2 := Lib.hid hb2
            replace hcall := Lib.hid hcall
            replace rP := Lib.hid rP
            replace hf := Lib.hid hf
            replace hstuck := Lib.hid hstuck
            go_wp2_with fail
            go_region_held_law (fun _ => True) (trivial) (first
              | (go_at_call 80
                 refine (hf.out _).mono ?_
                 rintro e w1 ⟨rfl, rfl⟩)
              | (go_at_call 23
                 refine hcall.out.mono ?_
                 rintro e w2 ⟨r, o3, rfl, s3, rfl, F3⟩))
            all_goals
              have st3 := Lib.hid (st2.out.trans s3)
              replace F3 := Lib.hid F3
              clear s3
              by_cases hz : T.2 = 0
              · have g5 : (T.2 != 0) = false := by simp [hz]
                have hz' := Lib.hid hz
                clear hz
                go_wp2
                go_roundw
                case rel => exact ⟨m + 1, a + 64, o3, by rw [ha2.out], by have := ha.out; omega, by omega, st3.out, by rw [hT]; exact F3.out, by rw [hT]; exact hz'.out⟩
                case measure => have := ha.out; simp [intOf]; omega
              · have g5 : (T.2 != 0) = true := by simp [hz]
                have hend : LS = T := by rw [hlay2.out, hstuck.out hz]
                replace hend := Lib.hid hend
                replace hz := Lib.hid hz
                have st4 := Lib.hid (st.out.trans st3.out)
                go_wp2
                go_ret
                exact Post.mk st4.out ⟨by rw [hend.out]; rfl, by rw [hend.out]; exact F3.out⟩
          · have g3 : decide ((b.length : Int) < (hi2 : Int)) = false := decide_eq_false (by omega)
            have g4 : (hi2 : Int) ≤ (b.length : Int) := by omega
            have hb2 := hb1.out.stp st2 (by simpa using h2)
            have rP : RdB wr o2 c2 (.slice (some (a0.add a)) (hi2 - a) (capA - a)) (partB b m) := by
              have h8 := Rd.sub hb2 a hi2 (by omega) (by omega)
              rw [if_neg hne] at h8
              have hl8 : (partB b m).length = hi2 - a := by rw [hpart.out, List.length_take, List.length_drop]; omega
              unfold RdB
              rw [hl8]
              rw [hpart.out]
              simpa [vbs, List.map_take, List.map_drop] using h8
            have hcall := program_calls c c2 p g cap (progsB s1 K b m).1 (km : Int) _ (partB b m) wr.drew o2 (hF2.stp (Stp.refl [] wr o2).drew (by simp)) (rP.stp (Stp.refl [] wr o2).drew (by simp))
            have hnx : progsB s1 K b (m + 1) = (progS (progsB s1 K b m).1 (km : Int) (partB b m), progE (progsB s1 K b m).1 (km : Int) (partB b m)) := by rw [progsB, if_pos hE2, hkm.out]
            have hE1 : (progsB s1 K b (m + 1)).2 = progE (progsB s1 K b m).1 (km : Int) (partB b m) := by rw [hnx]
            have hF1 : (progsB s1 K b (m + 1)).1 = progS (progsB s1 K b m).1 (km : Int) (partB b m) := by rw [hnx]
            rw [← hE1, ← hF1] at hcall
            have hstuck := fun x => progsB_stuck s1 K b (i := m + 1) x n (by omega)
            obtain ⟨T, hT⟩ : ∃ T, progsB s1 K b (m + 1) = T := ⟨_, rfl⟩
            rw [hT] at hcall hstuck hnx hE1 hF1
            have hf := fun w' => hfc.out w'
            replace hnx := Lib.hid hnx
            replace hE1 := Lib.hid hE1
            replace hF1 := Lib.hid hF1
            replace hF2 := Lib.hid hF2
            replace hE2 := Lib.hid hE2
            replace st2 := Lib.hid st2.drew
            replace hb2 := Lib.hid hb2
            replace hcall := Lib.hid hcall
            replace rP := Lib.hid rP
            replace hf := Lib.hid hf
            replace hstuck := Lib.hid hstuck
            go_wp2_with fail
            go_region_held_law (fun _ => True) (trivial) (first
              | (go_at_call 80
                 refine (hf.out _).mono ?_
                 rintro e w1 ⟨rfl, rfl⟩)
              | (go_at_call 23
                 refine hcall.out.mono ?_
                 rintro e w2 ⟨r, o3, rfl, s3, rfl, F3⟩))
            all_goals
              have st3 := Lib.hid (st2.out.trans s3)
              replace F3 := Lib.hid F3
              clear s3
              by_cases hz : T.2 = 0
              · have g5 : (T.2 != 0) = false := by simp [hz]
                have hz' := Lib.hid hz
                clear hz
                go_wp2
                go_roundw
                case rel => exact ⟨m + 1, a + 64, o3, by rw [ha2.out], by have := ha.out; omega, by omega, st3.out, by rw [hT]; exact F3.out, by rw [hT]; exact hz'.out⟩
                case measure => have := ha.out; simp [intOf]; omega
              · have g5 : (T.2 != 0) = true := by simp [hz]
                have hend : LS = T := by rw [hlay2.out, hstuck.out hz]
                replace hend := Lib.hid hend
                replace hz := Lib.hid hz
                have st4 := Lib.hid (st.out.trans st3.out)
                go_wp2
                go_ret
                exact Post.mk st4.out ⟨by rw [hend.out]; rfl, by rw [hend.out]; exact F3.out⟩
        · have hjn : m = n := by omega
          have hab : ¬ a < b.length := by omega
          have g2 : decide ((a : Int) < (b.length : Int)) = false := decide_eq_false (by omega)
          rw [hjn, ← hlay2.out] at hF2 hE2
          have st3 := Lib.hid (st.out.trans st2)
          replace ha := Lib.hid ha
          replace hjn := Lib.hid hjn
          replace hF2 := Lib.hid hF2
          replace hE2 := Lib.hid hE2
          replace st2 := Lib.hid st2
          go_wp2
          go_ret
          exact Post.mk st3.out ⟨by rw [hE2.out]; rfl, hF2.out⟩
end Go.Proofs.Ytpjnmijfmfgdpaa
