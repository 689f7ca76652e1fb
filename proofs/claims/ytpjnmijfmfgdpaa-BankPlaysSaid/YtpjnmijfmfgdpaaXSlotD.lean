/- The document's slots (ref12): Save: the walk. -/
import Derived.Test.YtpjnmijfmfgdpaaXSlotC
import Derived.Test.YtpjnmijfmfgdpaaRef11b
import Derived.StillTailTactics
namespace Go.Proofs.Ytpjnmijfmfgdpaa
set_option linter.unusedVariables false
set_option linter.unusedSimpArgs false
open Go.RowKit

theorem told_neg (s : FS) (h : (loadedS s).2.2 < 0) : (loadedS s).2.1 = 0 := by
  rcases loaded2 s _ _ rfl rfl with ⟨_, _, hv⟩ | ⟨_, _, hv⟩ | ⟨_, hv⟩
  · rw [hv]
  · rw [hv] at h
    exact absurd (show (0 : Int) < 0 from h) (by decide)
  · rw [hv] at h
    exact absurd (show (1 : Int) < 0 from h) (by decide)
/-- What the loops of the document's 'Save' keep. -/
def XyE (w0 : World) (o0 : Col) (c e p : Nat) (vP : Value) (vs : List Value) (s : FS) (k n : Nat) (x : Value) (wr : World) : Prop :=
  ∃ (i : Nat) (o' : Col), x = .int .i64 i ∧ i ≤ n ∧ Stp [c, e] w0 o0 wr o' ∧ XFl wr o' c e p vP vs (erasesS s k i).1 ∧ (erasesS s k i).2 = 0
def XyP (w0 : World) (o0 : Col) (c e p : Nat) (vP : Value) (vs : List Value) (s : FS) (k n : Nat) (b : List UInt8) (x : Value) (wr : World) : Prop :=
  ∃ (i j : Nat) (o' : Col), x = .int .i64 i ∧ i = j + 1 ∧ j ≤ n ∧ Stp [c, e] w0 o0 wr o' ∧ XFl wr o' c e p vP vs (progsS s k n b j).1 ∧ (progsS s k n b j).2 = 0
set_option maxHeartbeats 4000000 in
set_option maxRecDepth 100000 in
theorem xsave_calls (c e c2 p : Nat) (vP : Value) (vs : List Value) (s : FS) (v : Value) (b : List UInt8) (w : World) (o : Col) (h : XFl w o c e p vP vs s) (hb : RdB w o c2 v b) (h2 : c2 ≠ c) (h2e : c2 ≠ e) (hce : c ≠ e) :
    Calls Try.prog 29 #[.pointer (some ⟨p, 0, none⟩), v] w (Post [c, e] w o fun r w' o' => r = .int .i64 (saveS s b).2 ∧ XFl w' o' c e p vP vs (saveS s b).1) := by
  obtain ⟨A, capA, rfl, hlc, hA⟩ := hb.shape
  obtain ⟨d, hd1, _, hdf⟩ := fresh o w.heap.size [c, e, c2]
  simp only [List.mem_cons, List.not_mem_nil, or_false, not_or] at hd1
  have hld := xfind_calls c e d p vP vs s w o h
  obtain ⟨L, hL⟩ : ∃ L, saveS s b = L := ⟨_, rfl⟩
  rw [hL]
  have h3 := h.c3
  by_cases h80 : 80 ≤ s.pg.length
  · obtain ⟨x, hB⟩ : ∃ x, loadedS s = x := ⟨_, rfl⟩
    obtain ⟨B, N, T⟩ := x
    have hbd := loadGo_bound s 2
    have hb2 : loadGo s 2 = (B, N, T) := hB
    rw [hb2] at hbd
    have hft : findT s = T := by rw [findT, if_neg (by omega), hB]
    obtain ⟨LD, hLD⟩ : ∃ LD, loadS s = LD := ⟨_, rfl⟩
    have hlv : LD = if T < 0 then ([], 0, 9) else (B, N, 0) := by rw [← hLD, loadS, if_neg (by omega), hB]
    have hN0 : T < 0 → N = 0 := by
      intro hT
      have := told_neg s (by rw [hB]; exact hT)
      rwa [hB] at this
    have hLN : LD.2.1 = N := by
      rw [hlv]
      by_cases hT : T < 0
      · rw [if_pos hT, hN0 hT]
      · rw [if_neg hT]
    have hLE : (LD.2.2 = 9 ∨ LD.2.2 = 0) := by rw [hlv]; split <;> simp
    obtain ⟨EE, hEE⟩ : ∃ EE, LD.2.2 = EE := ⟨_, rfl⟩
    rw [hEE] at hLE
    rw [hft, hLD, hLN, hEE] at hld
    dsimp only at hbd
    have g0 : (EE == 1) = false := by rcases hLE with rfl | rfl <;> rfl
    have hv : L = if s.dead = true then (s, 11) else if 2500 < b.length then (s, 10) else if 1073741824 ≤ N then (s, 12) else layS s (slotAt T) (packS ((N : Int) + 1) b) := by rw [← hL, saveS, if_neg (by omega), hB]
    replace hL := Lib.hid hL
    replace hB := Lib.hid hB
    replace hb2 := Lib.hid hb2
    replace hft := Lib.hid hft
    replace hLD := Lib.hid hLD
    replace hlv := Lib.hid hlv
    replace hN0 := Lib.hid hN0
    replace hLN := Lib.hid hLN
    replace hEE := Lib.hid hEE
    replace hLE := Lib.hid hLE
    have fin : ∀ w' o' (x : Int), Stp [] w o w' o' → L = (s, x) → Post [c, e] w o (fun r w' o' => r = .int .i64 L.2 ∧ XFl w' o' c e p vP vs L.1) (.returned (.int .i64 x)) w' := by
      intro w' o' x st e
      rw [e]
      exact Post.mk st.none ⟨rfl, h.stp st (by simp) (by simp)⟩
    replace fin := Lib.hid fin
    replace h := Lib.hid h
    replace hb := Lib.hid hb
    cases hdd : s.dead with
    | true =>
      have hv2 : L = (s, 11) := by rw [hv, if_pos hdd]
      replace hv := Lib.hid hv
      clear h3
      go_enter Try.func29, Try.ntmps29
      go_wp2_with fail
      refine hld.mono ?_
      clear hld
      rintro ex w2 ⟨r, o2, rfl, s2, v2, rfl, h2'⟩
      have f2 := h.out.stp s2 (by simp) (by simp)
      have h3 := f2.c3
      rw [hdd] at h3
      replace f2 := Lib.hid f2
      replace s2 := Lib.hid s2
      replace h2' := Lib.hid h2'
      go_wp2
      go_ret
      exact fin.out _ _ _ s2.out hv2
    | false =>
      have hv3 : L = if 2500 < b.length then (s, 10) else if 1073741824 ≤ N then (s, 12) else layS s (slotAt T) (packS ((N : Int) + 1) b) := by rw [hv, if_neg (by rw [hdd]; simp)]
      replace hv := Lib.hid hv
      clear h3
      have hcs : (2500 < b.length) ∨ (¬ 2500 < b.length ∧ (1073741824 ≤ N ∨ ¬ 1073741824 ≤ N)) := by omega
      rcases hcs with q1 | ⟨q1, q2 | q2⟩
      · have hv2 : L = (s, 10) := by rw [hv3, if_pos q1]
        have g1 : decide ((2500 : Int) < (b.length : Int)) = true := decide_eq_true (by omega)
        replace hv3 := Lib.hid hv3
        go_enter Try.func29, Try.ntmps29
        go_wp2_with fail
        refine hld.mono ?_
        clear hld
        rintro ex w2 ⟨r, o2, rfl, s2, v2, rfl, h2'⟩
        have f2 := h.out.stp s2 (by simp) (by simp)
        have h3 := f2.c3
        rw [hdd] at h3
        replace f2 := Lib.hid f2
        replace s2 := Lib.hid s2
        replace h2' := Lib.hid h2'
        go_wp2
        go_ret
        exact fin.out _ _ _ s2.out hv2
      · have hv2 : L = (s, 12) := by rw [hv3, if_neg q1, if_pos q2]
        have g1 : decide ((2500 : Int) < (b.length : Int)) = false := decide_eq_false (by omega)
        have g2 : decide ((1073741824 : Int) ≤ (N : Int)) = true := decide_eq_true (by omega)
        replace hv3 := Lib.hid hv3
        go_enter Try.func29, Try.ntmps29
        go_wp2_with fail
        refine hld.mono ?_
        clear hld
        rintro ex w2 ⟨r, o2, rfl, s2, v2, rfl, h2'⟩
        have f2 := h.out.stp s2 (by simp) (by simp)
        have h3 := f2.c3
        rw [hdd] at h3
        replace f2 := Lib.hid f2
        replace s2 := Lib.hid s2
        replace h2' := Lib.hid h2'
        go_wp2
        go_ret
        exact fin.out _ _ _ s2.out hv2
      · have hv2 : L = layS s (slotAt T) (packS ((N : Int) + 1) b) := by rw [hv3, if_neg q1, if_neg q2]
        have g1 : decide ((2500 : Int) < (b.length : Int)) = false := decide_eq_false (by omega)
        have g2 : decide ((1073741824 : Int) ≤ (N : Int)) = false := decide_eq_false (by omega)
        replace hv3 := Lib.hid hv3
        obtain ⟨K, hK⟩ : ∃ K, slotAt T = K := ⟨_, rfl⟩
        have hKb : (K = 40 ∧ (T != 0) = false) ∨ (K = 0 ∧ (T != 0) = true) := by
          by_cases hT0 : T = 0
          · exact .inl ⟨by rw [← hK, slotAt, if_pos hT0], by simp [hT0]⟩
          · exact .inr ⟨by rw [← hK, slotAt, if_neg hT0], by simp [hT0]⟩
        have hNb : (0 : Int) ≤ (N : Int) ∧ (N : Int) < 1073741824 := by omega
        have hpl := packS_len ((N : Int) + 1) b
        rw [hK] at hv2
        replace hK := Lib.hid hK
        obtain ⟨PK, hPK⟩ : ∃ PK, packS ((N : Int) + 1) b = PK := ⟨_, rfl⟩
        rw [hPK] at hpl hv2
        obtain ⟨n, hn⟩ : ∃ n, manyN PK = n := ⟨_, rfl⟩
        have hnI : Int.tdiv ((PK.length : Int) + 64 - 1) 64 = (n : Int) := by
          rw [← hn, manyN]
          have : (PK.length : Int) + 64 - 1 = ((PK.length + 63 : Nat) : Int) := by omega
          rw [this]
          rfl
        have hnI2 : ((PK.length : Int) + 64 - 1) / 64 = (n : Int) := by rw [← hn, manyN]; omega
        have hnb : n ≤ 20000 ∧ n * 64 ≤ PK.length + 63 ∧ PK.length ≤ n * 64 ∧ 1 ≤ n := by rw [← hn, manyN]; omega
        have hlay : L = if (erasesS s K n).2 = 0 then progsS (erasesS s K n).1 K n PK n else erasesS s K n := by rw [hv2, layS, hn]
        have hPl : PK.length ≤ 2550 := by omega
        replace hv2 := Lib.hid hv2
        replace hn := Lib.hid hn
        replace hlay := Lib.hid hlay
        have hpk := fun w' o' h' => xpack_calls c2 d ((N : Int) + 1) (.slice A b.length capA) b w' o' h' (by omega)
        rw [hPK] at hpk
        replace hpk := Lib.hid hpk
        replace hPK := Lib.hid hPK
        clear hpl
        rcases hKb with ⟨rfl, gK⟩ | ⟨rfl, gK⟩
        · go_enter Try.func29, Try.ntmps29
          go_wp2_with fail
          refine hld.mono ?_
          clear hld
          rintro ex w2 ⟨r, o2, rfl, s2, v2, rfl, h2'⟩
          have f2 := h.out.stp s2 (by simp) (by simp)
          have h3 := f2.c3
          rw [hdd] at h3
          have b2 := hb.out.stp s2 (by simp)
          have hpc := hpk.out _ _ b2
          replace b2 := Lib.hid b2
          replace f2 := Lib.hid f2
          replace s2 := Lib.hid s2
          replace h2' := Lib.hid h2'
          go_wp2_with fail
          refine hpc.mono ?_
          clear hpc h3
          rintro ex w4 ⟨r, o4, rfl, s4, h4⟩
          obtain ⟨A4, cap4, rfl⟩ := Own.shape h4
          have f4 := Lib.hid (f2.out.stp s4 (by simp) (by simp))
          have st4 := Lib.hid (s2.out.trans s4)
          have hb4 := Lib.hid (OwnB.rd h4)
          obtain ⟨PL, hPL⟩ : ∃ PL, PK.length = PL := ⟨_, rfl⟩
          rw [hPL] at hnI hnI2 ⊢
          have hPLb : PL ≤ 2550 := by omega
          replace hPL := Lib.hid hPL
          replace h4 := Lib.hid h4
          clear s4
          go_wp2_with fail
          go_loopw [12] (XyE w4 o4 c e p vP vs s 40 n) (fun x _ => n - (intOf x).toNat)
          case atStart => exact ⟨0, o4, rfl, Nat.zero_le _, Stp.refl _ _ _, f4.out, rfl⟩
          case round =>
            obtain ⟨i, o1, rfl, hi, st, hF, hE⟩ := hrel
            by_cases hlt : i < n
            · have g4 : decide ((i : Int) < (n : Int)) = true := decide_eq_true (by omega)
              obtain ⟨j, hj⟩ : ∃ j, 40 + i = j := ⟨_, rfl⟩
              have hjI : (40 : Int) + (i : Int) = (j : Int) := by omega
              have hnx : erasesS s 40 (i + 1) = (eraseS (erasesS s 40 i).1 (j : Int), eraseE (erasesS s 40 i).1 (j : Int)) := by rw [erasesS, if_pos hE, hj]
              have hcall := xerase_calls c e p vP vs _ (j : Int) wr o1 hF hce
              have hE1 : (erasesS s 40 (i + 1)).2 = eraseE (erasesS s 40 i).1 (j : Int) := by rw [hnx]
              have hF1 : (erasesS s 40 (i + 1)).1 = eraseS (erasesS s 40 i).1 (j : Int) := by rw [hnx]
              rw [← hE1, ← hF1] at hcall
              have hstuck := fun x => erasesS_stuck s 40 (i := i + 1) x n (by omega)
              obtain ⟨U, hU⟩ : ∃ U, erasesS s 40 (i + 1) = U := ⟨_, rfl⟩
              rw [hU] at hcall hstuck hnx hE1 hF1
              replace hj := Lib.hid hj
              replace hnx := Lib.hid hnx
              replace hE1 := Lib.hid hE1
              replace hF1 := Lib.hid hF1
              replace hF := Lib.hid hF
              replace hE := Lib.hid hE
              replace st := Lib.hid st
              by_cases hz : U.2 = 0
              · have g5 : (U.2 != 0) = false := by simp [hz]
                have hz' := Lib.hid hz
                clear hstuck hz
                go_wp2_with fail
                refine hcall.mono ?_
                clear hcall
                rintro ex w5 ⟨r, o5, rfl, s5, rfl, F5⟩
                have st5 := Lib.hid (st.out.trans s5)
                replace F5 := Lib.hid F5
                clear s5
                go_wp2
                go_roundw
                case rel => exact ⟨i + 1, o5, by go_num, by omega, st5.out, by rw [hU]; exact F5.out, by rw [hU]; exact hz'.out⟩
                case measure => simp [intOf]; omega
              · have g5 : (U.2 != 0) = true := by simp [hz]
                have hend : L = U := by rw [hlay.out, hstuck hz, if_neg hz]
                replace hend := Lib.hid hend
                replace hz := Lib.hid hz
                clear hstuck
                go_wp2_with fail
                refine hcall.mono ?_
                clear hcall
                rintro ex w5 ⟨r, o5, rfl, s5, rfl, F5⟩
                have st5 := Lib.hid (st4.out.none.trans (st.out.trans s5))
                replace F5 := Lib.hid F5
                clear s5
                go_wp2
                go_ret
                exact Post.mk st5.out ⟨by rw [hend.out]; rfl, by rw [hend.out]; exact F5.out⟩
            · have hin : i = n := by omega
              have g4 : decide ((i : Int) < (n : Int)) = false := decide_eq_false (by omega)
              rw [hin] at hE hF
              have hlay2 : L = progsS (erasesS s 40 n).1 40 n PK n := by rw [hlay.out, if_pos hE]
              obtain ⟨s1, hs1⟩ : ∃ s1, (erasesS s 40 n).1 = s1 := ⟨_, rfl⟩
              rw [hs1] at hlay2 hF
              have hb1 := hb4.out.stp st (by simp; omega)
              have hlc4 : PL ≤ cap4 := by
                obtain ⟨_, _, e9, h9, _⟩ := hb4.out.shape
                injection e9 with _ _ e9
                rw [e9, ← hPL.out]
                exact h9
              replace hlay2 := Lib.hid hlay2
              replace hb1 := Lib.hid hb1
              replace hF := Lib.hid hF
              replace hE := Lib.hid hE
              replace hs1 := Lib.hid hs1
              replace hin := Lib.hid hin
              replace st := Lib.hid (st4.out.none.trans st)
              go_wp2_with fail
              obtain ⟨w1, hw1⟩ : ∃ w1, wr = w1 := ⟨_, rfl⟩
              subst hw1
              go_loopw [14] (XyP wr o1 c e p vP vs s1 40 n PK) (fun x _ => n + 1 - (intOf x).toNat)
              case atStart => exact ⟨1, 0, o1, rfl, rfl, Nat.zero_le _, Stp.refl _ _ _, hF.out, rfl⟩
              case round =>
                obtain ⟨i1, j, o2, rfl, hij, hj, st2, hF2, hE2⟩ := hrel
                by_cases hlt2 : i1 ≤ n
                · have g5 : decide ((i1 : Int) ≤ (n : Int)) = true := decide_eq_true (by omega)
                  obtain ⟨m, hm⟩ : ∃ m, i1 % n = m := ⟨_, rfl⟩
                  have hmn : m < n := by rw [← hm]; exact Nat.mod_lt _ (by omega)
                  have hmI2 : Int.tmod (i1 : Int) (n : Int) = (m : Int) := by rw [← hm]; rfl
                  have hmI : (i1 : Int) % (n : Int) = (m : Int) := by rw [← hm]; rfl
                  have hn0 : ((n : Int) == 0) = false := by simp; omega
                  have hnz : ¬ n = 0 := by omega
                  have hn1 : (1 : Int) ≤ (n : Int) ∧ (n : Int) ≤ 20000 := by omega
                  obtain ⟨km, hkm⟩ : ∃ km, 40 + m = km := ⟨_, rfl⟩
                  have hkI : (40 : Int) + (m : Int) = (km : Int) := by omega
                  have hmb : (0 : Int) ≤ (m : Int) ∧ (m : Int) < 20000 := by omega
                  have hb2 := hb1.out.stp st2 (by simp; omega)
                  have hm64 : m * 64 ≤ PK.length := by have := hPL.out; omega
                  have rP := part_rd hb2 hm64
                  have hpc := fun w' => xpart_calls A4 cap4 m PL w' hlc4 (by omega) (by omega) (by rw [← hPL.out]; exact hm64)
                  rw [hPL.out] at rP
                  obtain ⟨V, hV⟩ : ∃ V, partV A4 cap4 (m * 64) (min ((m + 1) * 64) PL) = V := ⟨_, rfl⟩
                  rw [hV] at rP hpc
                  have hcall := xprog_calls c e p vP vs (progsS s1 40 n PK j).1 (km : Int) d V (partB PK m) wr.drew o2 (hF2.stp (Stp.refl [] wr o2).drew (by simp) (by simp)) (rP.stp (Stp.refl [] wr o2).drew (by simp)) (by omega) (by omega)
                  have hnx : progsS s1 40 n PK (j + 1) = (progS (progsS s1 40 n PK j).1 (km : Int) (partB PK m), progE (progsS s1 40 n PK j).1 (km : Int) (partB PK m)) := by rw [progsS, if_pos hE2, ← hij, hm, hkm]
                  have hE1 : (progsS s1 40 n PK (j + 1)).2 = progE (progsS s1 40 n PK j).1 (km : Int) (partB PK m) := by rw [hnx]
                  have hF1 : (progsS s1 40 n PK (j + 1)).1 = progS (progsS s1 40 n PK j).1 (km : Int) (partB PK m) := by rw [hnx]
                  rw [← hE1, ← hF1] at hcall
                  have hjn : j + 1 ≤ n := by omega
                  have hstuck := fun x => progsS_stuck s1 40 n PK (i := j + 1) x n hjn
                  obtain ⟨U, hU⟩ : ∃ U, progsS s1 40 n PK (j + 1) = U := ⟨_, rfl⟩
                  rw [hU] at hcall hstuck hnx hE1 hF1
                  replace hij := Lib.hid hij
                  replace hm := Lib.hid hm
                  replace hkm := Lib.hid hkm
                  replace hnx := Lib.hid hnx
                  replace hE1 := Lib.hid hE1
                  replace hF1 := Lib.hid hF1
                  replace hF2 := Lib.hid hF2
                  replace hE2 := Lib.hid hE2
                  replace st2 := Lib.hid st2.drew
                  replace hb2 := Lib.hid hb2
                  replace hcall := Lib.hid hcall
                  replace hV := Lib.hid hV
                  replace rP := Lib.hid rP
                  replace hpc := Lib.hid hpc
                  by_cases hz : U.2 = 0
                  · have g6 : (U.2 != 0) = false := by simp [hz]
                    have hz' := Lib.hid hz
                    clear hstuck hz
                    go_wp2_with fail
                    refine wp_region_still_tail 11 (by kernel_rfl) (by kernel_rfl) ?_
                    simp only [List.take_succ_cons, List.take_zero, List.drop_succ_cons, List.drop_zero]
                    repeat still_step
                    still_call (hpc.out _)
                    repeat still_step
                    refine wpStill_nil ?_
                    change wpList _ _ _ _ _ wr.drew
                    generalize wr.drew = wd at *
                    have hc := hcall.out
                    go_wp2_with fail
                    refine hc.mono ?_
                    clear hc
                    rintro ex w6 ⟨r, o6, rfl, s6, rfl, F6⟩
                    have st6 := Lib.hid (st2.out.trans s6)
                    replace F6 := Lib.hid F6
                    clear s6
                    go_wp2
                    go_roundw
                    case rel => exact ⟨i1 + 1, j + 1, o6, by go_num, by have := hij.out; omega, hjn, st6.out, by rw [hU]; exact F6.out, by rw [hU]; exact hz'.out⟩
                    case measure => simp [intOf]; omega
                  · have g6 : (U.2 != 0) = true := by simp [hz]
                    have hend : L = U := by rw [hlay2.out, hstuck hz]
                    replace hend := Lib.hid hend
                    replace hz := Lib.hid hz
                    clear hstuck
                    go_wp2_with fail
                    refine wp_region_still_tail 11 (by kernel_rfl) (by kernel_rfl) ?_
                    simp only [List.take_succ_cons, List.take_zero, List.drop_succ_cons, List.drop_zero]
                    repeat still_step
                    still_call (hpc.out _)
                    repeat still_step
                    refine wpStill_nil ?_
                    change wpList _ _ _ _ _ wr.drew
                    generalize wr.drew = wd at *
                    have hc := hcall.out
                    go_wp2_with fail
                    refine hc.mono ?_
                    clear hc
                    rintro ex w6 ⟨r, o6, rfl, s6, rfl, F6⟩
                    have st6 := Lib.hid (st.out.trans (st2.out.trans s6))
                    replace F6 := Lib.hid F6
                    clear s6
                    go_wp2
                    go_ret
                    exact Post.mk st6.out ⟨by rw [hend.out]; rfl, by rw [hend.out]; exact F6.out⟩
                · have hjn : j = n := by omega
                  have g5 : decide ((i1 : Int) ≤ (n : Int)) = false := decide_eq_false (by omega)
                  rw [hjn, ← hlay2.out] at hF2 hE2
                  have st3 := Lib.hid (st.out.trans st2)
                  replace hjn := Lib.hid hjn
                  replace hij := Lib.hid hij
                  replace hF2 := Lib.hid hF2
                  replace hE2 := Lib.hid hE2
                  replace st2 := Lib.hid st2
                  go_wp2
                  go_ret
                  exact Post.mk st3.out ⟨by rw [hE2.out]; rfl, hF2.out⟩
        · go_enter Try.func29, Try.ntmps29
          go_wp2_with fail
          refine hld.mono ?_
          clear hld
          rintro ex w2 ⟨r, o2, rfl, s2, v2, rfl, h2'⟩
          have f2 := h.out.stp s2 (by simp) (by simp)
          have h3 := f2.c3
          rw [hdd] at h3
          have b2 := hb.out.stp s2 (by simp)
          have hpc := hpk.out _ _ b2
          replace b2 := Lib.hid b2
          replace f2 := Lib.hid f2
          replace s2 := Lib.hid s2
          replace h2' := Lib.hid h2'
          go_wp2_with fail
          refine hpc.mono ?_
          clear hpc h3
          rintro ex w4 ⟨r, o4, rfl, s4, h4⟩
          obtain ⟨A4, cap4, rfl⟩ := Own.shape h4
          have f4 := Lib.hid (f2.out.stp s4 (by simp) (by simp))
          have st4 := Lib.hid (s2.out.trans s4)
          have hb4 := Lib.hid (OwnB.rd h4)
          obtain ⟨PL, hPL⟩ : ∃ PL, PK.length = PL := ⟨_, rfl⟩
          rw [hPL] at hnI hnI2 ⊢
          have hPLb : PL ≤ 2550 := by omega
          replace hPL := Lib.hid hPL
          replace h4 := Lib.hid h4
          clear s4
          go_wp2_with fail
          go_loopw [12] (XyE w4 o4 c e p vP vs s 0 n) (fun x _ => n - (intOf x).toNat)
          case atStart => exact ⟨0, o4, rfl, Nat.zero_le _, Stp.refl _ _ _, f4.out, rfl⟩
          case round =>
            obtain ⟨i, o1, rfl, hi, st, hF, hE⟩ := hrel
            by_cases hlt : i < n
            · have g4 : decide ((i : Int) < (n : Int)) = true := decide_eq_true (by omega)
              have hj : 0 + i = i := Nat.zero_add i
              have hnx : erasesS s 0 (i + 1) = (eraseS (erasesS s 0 i).1 (i : Int), eraseE (erasesS s 0 i).1 (i : Int)) := by rw [erasesS, if_pos hE, hj]
              have hcall := xerase_calls c e p vP vs _ (i : Int) wr o1 hF hce
              have hE1 : (erasesS s 0 (i + 1)).2 = eraseE (erasesS s 0 i).1 (i : Int) := by rw [hnx]
              have hF1 : (erasesS s 0 (i + 1)).1 = eraseS (erasesS s 0 i).1 (i : Int) := by rw [hnx]
              rw [← hE1, ← hF1] at hcall
              have hstuck := fun x => erasesS_stuck s 0 (i := i + 1) x n (by omega)
              obtain ⟨U, hU⟩ : ∃ U, erasesS s 0 (i + 1) = U := ⟨_, rfl⟩
              rw [hU] at hcall hstuck hnx hE1 hF1
              replace hj := Lib.hid hj
              replace hnx := Lib.hid hnx
              replace hE1 := Lib.hid hE1
              replace hF1 := Lib.hid hF1
              replace hF := Lib.hid hF
              replace hE := Lib.hid hE
              replace st := Lib.hid st
              by_cases hz : U.2 = 0
              · have g5 : (U.2 != 0) = false := by simp [hz]
                have hz' := Lib.hid hz
                clear hstuck hz
                go_wp2_with fail
                refine hcall.mono ?_
                clear hcall
                rintro ex w5 ⟨r, o5, rfl, s5, rfl, F5⟩
                have st5 := Lib.hid (st.out.trans s5)
                replace F5 := Lib.hid F5
                clear s5
                go_wp2
                go_roundw
                case rel => exact ⟨i + 1, o5, by go_num, by omega, st5.out, by rw [hU]; exact F5.out, by rw [hU]; exact hz'.out⟩
                case measure => simp [intOf]; omega
              · have g5 : (U.2 != 0) = true := by simp [hz]
                have hend : L = U := by rw [hlay.out, hstuck hz, if_neg hz]
                replace hend := Lib.hid hend
                replace hz := Lib.hid hz
                clear hstuck
                go_wp2_with fail
                refine hcall.mono ?_
                clear hcall
                rintro ex w5 ⟨r, o5, rfl, s5, rfl, F5⟩
                have st5 := Lib.hid (st4.out.none.trans (st.out.trans s5))
                replace F5 := Lib.hid F5
                clear s5
                go_wp2
                go_ret
                exact Post.mk st5.out ⟨by rw [hend.out]; rfl, by rw [hend.out]; exact F5.out⟩
            · have hin : i = n := by omega
              have g4 : decide ((i : Int) < (n : Int)) = false := decide_eq_false (by omega)
              rw [hin] at hE hF
              have hlay2 : L = progsS (erasesS s 0 n).1 0 n PK n := by rw [hlay.out, if_pos hE]
              obtain ⟨s1, hs1⟩ : ∃ s1, (erasesS s 0 n).1 = s1 := ⟨_, rfl⟩
              rw [hs1] at hlay2 hF
              have hb1 := hb4.out.stp st (by simp; omega)
              have hlc4 : PL ≤ cap4 := by
                obtain ⟨_, _, e9, h9, _⟩ := hb4.out.shape
                injection e9 with _ _ e9
                rw [e9, ← hPL.out]
                exact h9
              replace hlay2 := Lib.hid hlay2
              replace hb1 := Lib.hid hb1
              replace hF := Lib.hid hF
              replace hE := Lib.hid hE
              replace hs1 := Lib.hid hs1
              replace hin := Lib.hid hin
              replace st := Lib.hid (st4.out.none.trans st)
              go_wp2_with fail
              obtain ⟨w1, hw1⟩ : ∃ w1, wr = w1 := ⟨_, rfl⟩
              subst hw1
              go_loopw [14] (XyP wr o1 c e p vP vs s1 0 n PK) (fun x _ => n + 1 - (intOf x).toNat)
              case atStart => exact ⟨1, 0, o1, rfl, rfl, Nat.zero_le _, Stp.refl _ _ _, hF.out, rfl⟩
              case round =>
                obtain ⟨i1, j, o2, rfl, hij, hj, st2, hF2, hE2⟩ := hrel
                by_cases hlt2 : i1 ≤ n
                · have g5 : decide ((i1 : Int) ≤ (n : Int)) = true := decide_eq_true (by omega)
                  obtain ⟨m, hm⟩ : ∃ m, i1 % n = m := ⟨_, rfl⟩
                  have hmn : m < n := by rw [← hm]; exact Nat.mod_lt _ (by omega)
                  have hmI2 : Int.tmod (i1 : Int) (n : Int) = (m : Int) := by rw [← hm]; rfl
                  have hmI : (i1 : Int) % (n : Int) = (m : Int) := by rw [← hm]; rfl
                  have hn0 : ((n : Int) == 0) = false := by simp; omega
                  have hnz : ¬ n = 0 := by omega
                  have hn1 : (1 : Int) ≤ (n : Int) ∧ (n : Int) ≤ 20000 := by omega
                  have hkm : 0 + m = m := Nat.zero_add m
                  have hmb : (0 : Int) ≤ (m : Int) ∧ (m : Int) < 20000 := by omega
                  have hb2 := hb1.out.stp st2 (by simp; omega)
                  have hm64 : m * 64 ≤ PK.length := by have := hPL.out; omega
                  have rP := part_rd hb2 hm64
                  have hpc := fun w' => xpart_calls A4 cap4 m PL w' hlc4 (by omega) (by omega) (by rw [← hPL.out]; exact hm64)
                  rw [hPL.out] at rP
                  obtain ⟨V, hV⟩ : ∃ V, partV A4 cap4 (m * 64) (min ((m + 1) * 64) PL) = V := ⟨_, rfl⟩
                  rw [hV] at rP hpc
                  have hcall := xprog_calls c e p vP vs (progsS s1 0 n PK j).1 (m : Int) d V (partB PK m) wr.drew o2 (hF2.stp (Stp.refl [] wr o2).drew (by simp) (by simp)) (rP.stp (Stp.refl [] wr o2).drew (by simp)) (by omega) (by omega)
                  have hnx : progsS s1 0 n PK (j + 1) = (progS (progsS s1 0 n PK j).1 (m : Int) (partB PK m), progE (progsS s1 0 n PK j).1 (m : Int) (partB PK m)) := by rw [progsS, if_pos hE2, ← hij, hm, hkm]
                  have hE1 : (progsS s1 0 n PK (j + 1)).2 = progE (progsS s1 0 n PK j).1 (m : Int) (partB PK m) := by rw [hnx]
                  have hF1 : (progsS s1 0 n PK (j + 1)).1 = progS (progsS s1 0 n PK j).1 (m : Int) (partB PK m) := by rw [hnx]
                  rw [← hE1, ← hF1] at hcall
                  have hjn : j + 1 ≤ n := by omega
                  have hstuck := fun x => progsS_stuck s1 0 n PK (i := j + 1) x n hjn
                  obtain ⟨U, hU⟩ : ∃ U, progsS s1 0 n PK (j + 1) = U := ⟨_, rfl⟩
                  rw [hU] at hcall hstuck hnx hE1 hF1
                  replace hij := Lib.hid hij
                  replace hm := Lib.hid hm
                  replace hkm := Lib.hid hkm
                  replace hnx := Lib.hid hnx
                  replace hE1 := Lib.hid hE1
                  replace hF1 := Lib.hid hF1
                  replace hF2 := Lib.hid hF2
                  replace hE2 := Lib.hid hE2
                  replace st2 := Lib.hid st2.drew
                  replace hb2 := Lib.hid hb2
                  replace hcall := Lib.hid hcall
                  replace hV := Lib.hid hV
                  replace rP := Lib.hid rP
                  replace hpc := Lib.hid hpc
                  by_cases hz : U.2 = 0
                  · have g6 : (U.2 != 0) = false := by simp [hz]
                    have hz' := Lib.hid hz
                    clear hstuck hz
                    go_wp2_with fail
                    refine wp_region_still_tail 11 (by kernel_rfl) (by kernel_rfl) ?_
                    simp only [List.take_succ_cons, List.take_zero, List.drop_succ_cons, List.drop_zero]
                    repeat still_step
                    still_call (hpc.out _)
                    repeat still_step
                    refine wpStill_nil ?_
                    change wpList _ _ _ _ _ wr.drew
                    generalize wr.drew = wd at *
                    have hc := hcall.out
                    go_wp2_with fail
                    refine hc.mono ?_
                    clear hc
                    rintro ex w6 ⟨r, o6, rfl, s6, rfl, F6⟩
                    have st6 := Lib.hid (st2.out.trans s6)
                    replace F6 := Lib.hid F6
                    clear s6
                    go_wp2
                    go_roundw
                    case rel => exact ⟨i1 + 1, j + 1, o6, by go_num, by have := hij.out; omega, hjn, st6.out, by rw [hU]; exact F6.out, by rw [hU]; exact hz'.out⟩
                    case measure => simp [intOf]; omega
                  · have g6 : (U.2 != 0) = true := by simp [hz]
                    have hend : L = U := by rw [hlay2.out, hstuck hz]
                    replace hend := Lib.hid hend
                    replace hz := Lib.hid hz
                    clear hstuck
                    go_wp2_with fail
                    refine wp_region_still_tail 11 (by kernel_rfl) (by kernel_rfl) ?_
                    simp only [List.take_succ_cons, List.take_zero, List.drop_succ_cons, List.drop_zero]
                    repeat still_step
                    still_call (hpc.out _)
                    repeat still_step
                    refine wpStill_nil ?_
                    change wpList _ _ _ _ _ wr.drew
                    generalize wr.drew = wd at *
                    have hc := hcall.out
                    go_wp2_with fail
                    refine hc.mono ?_
                    clear hc
                    rintro ex w6 ⟨r, o6, rfl, s6, rfl, F6⟩
                    have st6 := Lib.hid (st.out.trans (st2.out.trans s6))
                    replace F6 := Lib.hid F6
                    clear s6
                    go_wp2
                    go_ret
                    exact Post.mk st6.out ⟨by rw [hend.out]; rfl, by rw [hend.out]; exact F6.out⟩
                · have hjn : j = n := by omega
                  have g5 : decide ((i1 : Int) ≤ (n : Int)) = false := decide_eq_false (by omega)
                  rw [hjn, ← hlay2.out] at hF2 hE2
                  have st3 := Lib.hid (st.out.trans st2)
                  replace hjn := Lib.hid hjn
                  replace hij := Lib.hid hij
                  replace hF2 := Lib.hid hF2
                  replace hE2 := Lib.hid hE2
                  replace st2 := Lib.hid st2
                  go_wp2
                  go_ret
                  exact Post.mk st3.out ⟨by rw [hE2.out]; rfl, hF2.out⟩
  · have hv : L = (s, 1) := by rw [← hL, saveS, if_pos (by omega)]
    have hlv : loadS s = ([], 0, 1) := by rw [loadS, if_pos (by omega)]
    have hft : findT s = 0 := by rw [findT, if_pos (by omega)]
    rw [hlv, hft] at hld
    rw [hv]
    clear h3
    replace hL := Lib.hid hL
    replace hlv := Lib.hid hlv
    replace hft := Lib.hid hft
    replace h := Lib.hid h
    go_enter Try.func29, Try.ntmps29
    go_wp2_with fail
    refine hld.mono ?_
    clear hld
    rintro ex w2 ⟨r, o2, rfl, s2, v2, rfl, h2'⟩
    replace s2 := Lib.hid s2
    replace h2' := Lib.hid h2'
    go_wp2
    go_ret
    exact Post.mk s2.out.none ⟨rfl, h.out.stp s2.out (by simp) (by simp)⟩
end Go.Proofs.Ytpjnmijfmfgdpaa
