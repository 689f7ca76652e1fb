/- Slots (chapter 12): Load, lay, Save: the walks. -/
import Derived.Test.YtpjnmijfmfgdpaaSlotC
import Derived.Test.YtpjnmijfmfgdpaaPage2
namespace Go.Proofs.Ytpjnmijfmfgdpaa
set_option linter.unusedVariables false
set_option linter.unusedSimpArgs false
open Go.RowKit

set_option maxHeartbeats 1000000 in
theorem load_calls (c e0 p g cap : Nat) (s : FS) (w : World) (o : Col) (h : Fl w o c p g cap s) :
    Calls Try.prog 17 #[.pointer (some ⟨p, 0, none⟩)] w (Post [] w o fun r w' o' => ∃ v, r = .tuple #[v, .int .i64 ((loadS s).2.1 : Int), .int .i64 (loadS s).2.2] ∧ OwnB w' o' e0 v (loadS s).1) := by
  have hf := isFlash_calls c p g cap s w o h
  have hld := loaded_calls c e0 p g cap s w o h
  have hbd := loadGo_bound s 2
  obtain ⟨L, hL⟩ : ∃ L, loadS s = L := ⟨_, rfl⟩
  rw [hL]
  by_cases h80 : 80 ≤ s.pg.length
  · rw [decide_eq_true h80] at hf
    obtain ⟨x, hB⟩ : ∃ x, loadedS s = x := ⟨_, rfl⟩
    obtain ⟨B, N, T⟩ := x
    have hb2 : loadGo s 2 = (B, N, T) := hB
    rw [hB] at hld
    rw [hb2] at hbd
    dsimp only at hld hbd
    by_cases hT : T < 0
    · have hv : L = ([], 0, 9) := by rw [← hL, loadS, if_neg (by omega), hB]; dsimp only; rw [if_pos hT]
      have g1 : decide (T < 0) = true := decide_eq_true hT
      rw [hv]
      replace hL := Lib.hid hL
      go_enter Try.func17, Try.ntmps17
      go_wp2_with fail
      refine hf.mono ?_
      clear hf
      rintro e w1 ⟨rfl, rfl⟩
      go_wp2_with fail
      refine hld.mono ?_
      clear hld
      rintro e w2 ⟨r, o2, rfl, s2, v2, rfl, h2⟩
      replace s2 := Lib.hid s2
      replace h2 := Lib.hid h2
      go_wp2
      refine bodyPost_ret (results_tmp3 rfl _ _ _) rfl ?_
      exact Post.mk s2.out ⟨_, rfl, OwnB.nil _ _ _⟩
    · have hv : L = (B, N, 0) := by rw [← hL, loadS, if_neg (by omega), hB]; dsimp only; rw [if_neg hT]
      have g1 : decide (T < 0) = false := decide_eq_false hT
      rw [hv]
      replace hL := Lib.hid hL
      go_enter Try.func17, Try.ntmps17
      go_wp2_with fail
      refine hf.mono ?_
      clear hf
      rintro e w1 ⟨rfl, rfl⟩
      go_wp2_with fail
      refine hld.mono ?_
      clear hld
      rintro e w2 ⟨r, o2, rfl, s2, v2, rfl, h2⟩
      obtain ⟨A2, cap2, rfl⟩ := Own.shape h2
      replace s2 := Lib.hid s2
      have h2' : OwnB w2 o2 e0 (.slice A2 B.length cap2) B := h2
      replace h2' := Lib.hid h2'
      clear h2
      go_wp2
      refine bodyPost_ret (results_tmp3 rfl _ _ _) rfl ?_
      exact Post.mk s2.out ⟨_, rfl, h2'.out⟩
  · rw [decide_eq_false h80] at hf
    have hv : L = ([], 0, 1) := by rw [← hL, loadS, if_pos (by omega)]
    rw [hv]
    replace hL := Lib.hid hL
    clear hld
    go_enter Try.func17, Try.ntmps17
    go_wp2_with fail
    refine hf.mono ?_
    clear hf
    rintro e w1 ⟨rfl, rfl⟩
    go_wp2
    refine bodyPost_ret (results_tmp3 rfl _ _ _) rfl ?_
    exact Post.mk (Stp.refl _ _ _) ⟨_, rfl, OwnB.nil _ _ _⟩

/-- What the loops of 'lay' keep. -/
def LyE (w0 : World) (o0 : Col) (c p g cap : Nat) (s : FS) (k n : Nat) (x : Value) (wr : World) : Prop :=
  ∃ (i : Nat) (o' : Col), x = .int .i64 i ∧ i ≤ n ∧ Stp [c] w0 o0 wr o' ∧ Fl wr o' c p g cap (erasesS s k i).1 ∧ (erasesS s k i).2 = 0
def LyP (w0 : World) (o0 : Col) (c p g cap : Nat) (s : FS) (k n : Nat) (b : List UInt8) (x : Value) (wr : World) : Prop :=
  ∃ (i j : Nat) (o' : Col), x = .int .i64 i ∧ i = j + 1 ∧ j ≤ n ∧ Stp [c] w0 o0 wr o' ∧ Fl wr o' c p g cap (progsS s k n b j).1 ∧ (progsS s k n b j).2 = 0
set_option maxHeartbeats 4000000 in
set_option maxRecDepth 100000 in
theorem lay_calls (c c2 p g cap : Nat) (s : FS) (k : Nat) (v : Value) (b : List UInt8) (w : World) (o : Col) (h : Fl w o c p g cap s) (hk : k ≤ 100000) (hb : RdB w o c2 v b) (h2 : c2 ≠ c) (hl : b.length ≤ 1000000) :
    Calls Try.prog 50 #[.pointer (some ⟨p, 0, none⟩), .int .i64 k, v] w (Post [c] w o fun r w' o' => r = .int .i64 (layS s k b).2 ∧ Fl w' o' c p g cap (layS s k b).1) := by
  obtain ⟨A, capA, rfl, hlc, hA⟩ := hb.shape
  obtain ⟨n, hn⟩ : ∃ n, manyN b = n := ⟨_, rfl⟩
  have hnI : ((b.length : Int) + 64 - 1) / 64 = (n : Int) := by rw [← hn, manyN]; omega
  have hnb : n ≤ 20000 ∧ n * 64 ≤ b.length + 63 ∧ b.length ≤ n * 64 := by rw [← hn, manyN]; omega
  have hlay : layS s k b = if (erasesS s k n).2 = 0 then progsS (erasesS s k n).1 k n b n else erasesS s k n := by rw [layS, hn]
  obtain ⟨LS, hLS⟩ : ∃ LS, layS s k b = LS := ⟨_, rfl⟩
  rw [hLS] at hlay ⊢
  replace hLS := Lib.hid hLS
  replace hn := Lib.hid hn
  replace hb := Lib.hid hb
  replace h := Lib.hid h
  replace hlay := Lib.hid hlay
  go_enter Try.func50, Try.ntmps50
  go_wp2_with fail
  rw [hnI]
  go_loopw [19] (LyE w o c p g cap s k n) (fun x _ => n - (intOf x).toNat)
  case atStart => exact ⟨0, o, rfl, Nat.zero_le _, Stp.refl _ _ _, h.out, rfl⟩
  case round =>
    obtain ⟨i, o1, rfl, hi, st, hF, hE⟩ := hrel
    by_cases hlt : i < n
    · have g1 : decide ((i : Int) < (n : Int)) = true := decide_eq_true (by omega)
      obtain ⟨j, hj⟩ : ∃ j, k + i = j := ⟨_, rfl⟩
      have hjI : (k : Int) + (i : Int) = (j : Int) := by omega
      have hnx : erasesS s k (i + 1) = (eraseS (erasesS s k i).1 (j : Int), eraseE (erasesS s k i).1 (j : Int)) := by rw [erasesS, if_pos hE, hj]
      have hcall := erase_calls c p g cap _ (j : Int) wr o1 hF
      have hE1 : (erasesS s k (i + 1)).2 = eraseE (erasesS s k i).1 (j : Int) := by rw [hnx]
      have hF1 : (erasesS s k (i + 1)).1 = eraseS (erasesS s k i).1 (j : Int) := by rw [hnx]
      rw [← hE1, ← hF1] at hcall
      have hstuck := fun x => erasesS_stuck s k (i := i + 1) x n (by omega)
      obtain ⟨T, hT⟩ : ∃ T, erasesS s k (i + 1) = T := ⟨_, rfl⟩
      rw [hT] at hcall hstuck hnx hE1 hF1
      replace hj := Lib.hid hj
      replace hnx := Lib.hid hnx
      replace hE1 := Lib.hid hE1
      replace hF1 := Lib.hid hF1
      replace hF := Lib.hid hF
      replace hE := Lib.hid hE
      replace st := Lib.hid st
      by_cases hz : T.2 = 0
      · have g2 : (T.2 != 0) = false := by simp [hz]
        have hz' := Lib.hid hz
        clear hstuck hz
        go_wp2_with fail
        refine hcall.mono ?_
        clear hcall
        rintro e w2 ⟨r, o2, rfl, s2, rfl, F2⟩
        have st2 := Lib.hid (st.out.trans s2)
        replace F2 := Lib.hid F2
        clear s2
        go_wp2
        go_roundw
        case rel => exact ⟨i + 1, o2, by go_num, by omega, st2.out, by rw [hT]; exact F2.out, by rw [hT]; exact hz'.out⟩
        case measure => simp [intOf]; omega
      · have g2 : (T.2 != 0) = true := by simp [hz]
        have hend : LS = T := by rw [hlay.out, hstuck hz, if_neg hz]
        replace hend := Lib.hid hend
        replace hz := Lib.hid hz
        clear hstuck
        go_wp2_with fail
        refine hcall.mono ?_
        clear hcall
        rintro e w2 ⟨r, o2, rfl, s2, rfl, F2⟩
        have st2 := Lib.hid (st.out.trans s2)
        replace F2 := Lib.hid F2
        clear s2
        go_wp2
        go_ret
        exact Post.mk st2.out ⟨by rw [hend.out]; rfl, by rw [hend.out]; exact F2.out⟩
    · have hin : i = n := by omega
      have g1 : decide ((i : Int) < (n : Int)) = false := decide_eq_false (by omega)
      rw [hin] at hE hF
      have hlay2 : LS = progsS (erasesS s k n).1 k n b n := by rw [hlay.out, if_pos hE]
      obtain ⟨s1, hs1⟩ : ∃ s1, (erasesS s k n).1 = s1 := ⟨_, rfl⟩
      rw [hs1] at hlay2 hF
      have hb1 := hb.out.stp st (by simpa using h2)
      replace hlay2 := Lib.hid hlay2
      replace hb1 := Lib.hid hb1
      replace hF := Lib.hid hF
      replace hE := Lib.hid hE
      replace hs1 := Lib.hid hs1
      replace hin := Lib.hid hin
      replace st := Lib.hid st
      go_wp2_with fail
      obtain ⟨w1, hw1⟩ : ∃ w1, wr = w1 := ⟨_, rfl⟩
      subst hw1
      go_loopw [10] (LyP wr o1 c p g cap s1 k n b) (fun x _ => n + 1 - (intOf x).toNat)
      case atStart => exact ⟨1, 0, o1, rfl, rfl, Nat.zero_le _, Stp.refl _ _ _, hF.out, rfl⟩
      case round =>
        obtain ⟨i1, j, o2, rfl, hij, hj, st2, hF2, hE2⟩ := hrel
        by_cases hlt2 : i1 ≤ n
        · have g2 : decide ((i1 : Int) ≤ (n : Int)) = true := decide_eq_true (by omega)
          obtain ⟨m, hm⟩ : ∃ m, i1 % n = m := ⟨_, rfl⟩
          have hmn : m < n := by rw [← hm]; exact Nat.mod_lt _ (by omega)
          have hmI : (i1 : Int) % (n : Int) = (m : Int) := by rw [← hm]; rfl
          have hmI2 : Int.tmod (i1 : Int) (n : Int) = (m : Int) := by rw [← hm]; rfl
          have hn0 : ((n : Int) == 0) = false := by simp; omega
          obtain ⟨km, hkm⟩ : ∃ km, k + m = km := ⟨_, rfl⟩
          obtain ⟨a, ha⟩ : ∃ a, m * 64 = a := ⟨_, rfl⟩
          obtain ⟨a2, ha2⟩ : ∃ a2, (m + 1) * 64 = a2 := ⟨_, rfl⟩
          obtain ⟨hi2, hhi⟩ : ∃ hi2, min a2 b.length = hi2 := ⟨_, rfl⟩
          have hkI : (k : Int) + (m : Int) = (km : Int) := by omega
          have haI : (m : Int) * 64 = (a : Int) := by omega
          have ha2I : ((m : Int) + 1) * 64 = (a2 : Int) := by omega
          have hmb : (0 : Int) ≤ (m : Int) ∧ (m : Int) < 20000 := by omega
          have hcs : (b.length < a2 ∧ hi2 = b.length) ∨ (¬ b.length < a2 ∧ hi2 = a2) := by omega
          have hah : a ≤ hi2 ∧ hi2 ≤ b.length := by omega
          have hpart : partB b m = (b.drop a).take (hi2 - a) := by rw [partB, ha, ha2, hhi]
          replace hij := Lib.hid hij
          replace hm := Lib.hid hm
          replace hkm := Lib.hid hkm
          replace ha := Lib.hid ha
          replace ha2 := Lib.hid ha2
          replace hhi := Lib.hid hhi
          replace hpart := Lib.hid hpart
          -- printed
          rcases hcs with ⟨q1, q2⟩ | ⟨q1, q2⟩
          · have g3 : decide ((b.length : Int) < (a2 : Int)) = true := decide_eq_true (by omega)
            have g4 : (b.length : Int) < (a2 : Int) := by omega
            have hahi : a ≤ b.length ∧ b.length ≤ b.length := by omega
            have hb2 := hb1.out.stp st2 (by simpa using h2)
            have hpt : (b.drop a).take (b.length - a) = partB b m := by rw [hpart.out, q2]
            have hpl : (partB b m).length ≤ 64 := by
              rw [hpart.out, List.length_take]
              have := ha.out
              have := ha2.out
              omega
            have hcall := fun (v : Value) (hv : RdB wr o2 c2 v (partB b m)) => program_calls c c2 p g cap (progsS s1 k n b j).1 (km : Int) v (partB b m) wr o2 hF2 hv
            have hnx : progsS s1 k n b (j + 1) = (progS (progsS s1 k n b j).1 (km : Int) (partB b m), progE (progsS s1 k n b j).1 (km : Int) (partB b m)) := by rw [progsS, if_pos hE2, ← hij.out, hm.out, hkm.out]
            have hE1 : (progsS s1 k n b (j + 1)).2 = progE (progsS s1 k n b j).1 (km : Int) (partB b m) := by rw [hnx]
            have hF1 : (progsS s1 k n b (j + 1)).1 = progS (progsS s1 k n b j).1 (km : Int) (partB b m) := by rw [hnx]
            rw [← hE1, ← hF1] at hcall
            have hjn : j + 1 ≤ n := by have := hij.out; omega
            have hstuck := fun x => progsS_stuck s1 k n b (i := j + 1) x n hjn
            obtain ⟨T, hT⟩ : ∃ T, progsS s1 k n b (j + 1) = T := ⟨_, rfl⟩
            rw [hT] at hcall hstuck hnx hE1 hF1
            replace hnx := Lib.hid hnx
            replace hE1 := Lib.hid hE1
            replace hF1 := Lib.hid hF1
            replace q2 := Lib.hid q2
            replace hF2 := Lib.hid hF2
            replace hE2 := Lib.hid hE2
            replace st2 := Lib.hid st2
            replace hb2 := Lib.hid hb2
            replace hpt := Lib.hid hpt
            replace hpl := Lib.hid hpl
            replace hcall := Lib.hid hcall
            by_cases hz : T.2 = 0
            · have g5 : (T.2 != 0) = false := by simp [hz]
              have hz' := Lib.hid hz
              clear hstuck hz
              go_wp2_with (refine holdAt 52 ?_)
              apply Hold.mk
              refine slcBLH (c := c2) _ _ _ rfl rfl hb2.out a b.length rfl rfl rfl hahi.1 hahi.2 fun A7 r7 => ?_
              rw [hpt.out] at r7
              have hc := hcall.out _ r7
              replace r7 := Lib.hid r7
              go_wp2_with fail
              refine hc.mono ?_
              clear hc
              rintro e w2 ⟨r, o3, rfl, s3, rfl, F3⟩
              have st3 := Lib.hid (st2.out.trans s3)
              replace F3 := Lib.hid F3
              clear s3
              go_wp2
              go_roundw
              case rel => exact ⟨i1 + 1, j + 1, o3, by go_num, by have := hij.out; omega, hjn, st3.out, by rw [hT]; exact F3.out, by rw [hT]; exact hz'.out⟩
              case measure => simp [intOf]; omega
            · have g5 : (T.2 != 0) = true := by simp [hz]
              have hend : LS = T := by rw [hlay2.out, hstuck hz]
              replace hend := Lib.hid hend
              replace hz := Lib.hid hz
              clear hstuck
              go_wp2_with (refine holdAt 52 ?_)
              apply Hold.mk
              refine slcBLH (c := c2) _ _ _ rfl rfl hb2.out a b.length rfl rfl rfl hahi.1 hahi.2 fun A7 r7 => ?_
              rw [hpt.out] at r7
              have hc := hcall.out _ r7
              replace r7 := Lib.hid r7
              go_wp2_with fail
              refine hc.mono ?_
              clear hc
              rintro e w2 ⟨r, o3, rfl, s3, rfl, F3⟩
              have st3 := Lib.hid (st.out.trans (st2.out.trans s3))
              replace F3 := Lib.hid F3
              clear s3
              go_wp2
              go_ret
              exact Post.mk st3.out ⟨by rw [hend.out]; rfl, by rw [hend.out]; exact F3.out⟩
          · have g3 : decide ((b.length : Int) < (a2 : Int)) = false := decide_eq_false (by omega)
            have g4 : (a2 : Int) ≤ (b.length : Int) := by omega
            have hahi : a ≤ a2 ∧ a2 ≤ b.length := by omega
            have hb2 := hb1.out.stp st2 (by simpa using h2)
            have hpt : (b.drop a).take (a2 - a) = partB b m := by rw [hpart.out, q2]
            have hpl : (partB b m).length ≤ 64 := by
              rw [hpart.out, List.length_take]
              have := ha.out
              have := ha2.out
              omega
            have hcall := fun (v : Value) (hv : RdB wr o2 c2 v (partB b m)) => program_calls c c2 p g cap (progsS s1 k n b j).1 (km : Int) v (partB b m) wr o2 hF2 hv
            have hnx : progsS s1 k n b (j + 1) = (progS (progsS s1 k n b j).1 (km : Int) (partB b m), progE (progsS s1 k n b j).1 (km : Int) (partB b m)) := by rw [progsS, if_pos hE2, ← hij.out, hm.out, hkm.out]
            have hE1 : (progsS s1 k n b (j + 1)).2 = progE (progsS s1 k n b j).1 (km : Int) (partB b m) := by rw [hnx]
            have hF1 : (progsS s1 k n b (j + 1)).1 = progS (progsS s1 k n b j).1 (km : Int) (partB b m) := by rw [hnx]
            rw [← hE1, ← hF1] at hcall
            have hjn : j + 1 ≤ n := by have := hij.out; omega
            have hstuck := fun x => progsS_stuck s1 k n b (i := j + 1) x n hjn
            obtain ⟨T, hT⟩ : ∃ T, progsS s1 k n b (j + 1) = T := ⟨_, rfl⟩
            rw [hT] at hcall hstuck hnx hE1 hF1
            replace hnx := Lib.hid hnx
            replace hE1 := Lib.hid hE1
            replace hF1 := Lib.hid hF1
            replace q2 := Lib.hid q2
            replace hF2 := Lib.hid hF2
            replace hE2 := Lib.hid hE2
            replace st2 := Lib.hid st2
            replace hb2 := Lib.hid hb2
            replace hpt := Lib.hid hpt
            replace hpl := Lib.hid hpl
            replace hcall := Lib.hid hcall
            by_cases hz : T.2 = 0
            · have g5 : (T.2 != 0) = false := by simp [hz]
              have hz' := Lib.hid hz
              clear hstuck hz
              go_wp2_with (refine holdAt 52 ?_)
              apply Hold.mk
              refine slcBLH (c := c2) _ _ _ rfl rfl hb2.out a a2 rfl rfl rfl hahi.1 hahi.2 fun A7 r7 => ?_
              rw [hpt.out] at r7
              have hc := hcall.out _ r7
              replace r7 := Lib.hid r7
              go_wp2_with fail
              refine hc.mono ?_
              clear hc
              rintro e w2 ⟨r, o3, rfl, s3, rfl, F3⟩
              have st3 := Lib.hid (st2.out.trans s3)
              replace F3 := Lib.hid F3
              clear s3
              go_wp2
              go_roundw
              case rel => exact ⟨i1 + 1, j + 1, o3, by go_num, by have := hij.out; omega, hjn, st3.out, by rw [hT]; exact F3.out, by rw [hT]; exact hz'.out⟩
              case measure => simp [intOf]; omega
            · have g5 : (T.2 != 0) = true := by simp [hz]
              have hend : LS = T := by rw [hlay2.out, hstuck hz]
              replace hend := Lib.hid hend
              replace hz := Lib.hid hz
              clear hstuck
              go_wp2_with (refine holdAt 52 ?_)
              apply Hold.mk
              refine slcBLH (c := c2) _ _ _ rfl rfl hb2.out a a2 rfl rfl rfl hahi.1 hahi.2 fun A7 r7 => ?_
              rw [hpt.out] at r7
              have hc := hcall.out _ r7
              replace r7 := Lib.hid r7
              go_wp2_with fail
              refine hc.mono ?_
              clear hc
              rintro e w2 ⟨r, o3, rfl, s3, rfl, F3⟩
              have st3 := Lib.hid (st.out.trans (st2.out.trans s3))
              replace F3 := Lib.hid F3
              clear s3
              go_wp2
              go_ret
              exact Post.mk st3.out ⟨by rw [hend.out]; rfl, by rw [hend.out]; exact F3.out⟩
        · have hjn : j = n := by omega
          have g2 : decide ((i1 : Int) ≤ (n : Int)) = false := decide_eq_false (by omega)
          rw [hjn, ← hlay2.out] at hF2 hE2
          have st3 := Lib.hid (st.out.trans st2)
          replace hjn := Lib.hid hjn
          replace hij := Lib.hid hij
          replace hF2 := Lib.hid hF2
          replace hE2 := Lib.hid hE2
          replace st2 := Lib.hid st2
          go_wp2
          go_ret
          exact Post.mk st3.out ⟨by rw [hE2.out]; rfl, hF2.out⟩
end Go.Proofs.Ytpjnmijfmfgdpaa
