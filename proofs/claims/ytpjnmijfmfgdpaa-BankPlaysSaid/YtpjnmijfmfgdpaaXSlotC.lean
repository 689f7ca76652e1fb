/- The document's slots (ref12): find, Load, part: the walks. -/
import Derived.Test.YtpjnmijfmfgdpaaXSlotB
namespace Go.Proofs.Ytpjnmijfmfgdpaa
set_option linter.unusedVariables false
set_option linter.unusedSimpArgs false
open Go.RowKit

theorem results_tmp4 {fn : Func} {t u v x : Tmp} (h : fn.results = #[.tmp t, .tmp u, .tmp v, .tmp x]) (tmps : Array Value) (P : Program) (w : World) :
    (results fn tmps).run P w = .ok (.tuple #[tmps.getD t undef, tmps.getD u undef, tmps.getD v undef, tmps.getD x undef]) w := by
  simp [results, h]
/-- Which slot 'find' names. -/
def findT (s : FS) : Int := if s.pg.length < 80 then 0 else (loadedS s).2.2
theorem wholeN_pos {p : List UInt8} (h : wholeN (wholeP p) ≠ 0) : wholeP p = some (wholeB (wholeP p), wholeN (wholeP p)) := by
  cases hq : wholeP p with
  | none => rw [hq] at h; exact absurd rfl h
  | some x => rfl
theorem wholeN_zero {p : List UInt8} (h : wholeN (wholeP p) = 0) : wholeP p = none := by
  cases hq : wholeP p with
  | none => rfl
  | some x => have := wholeP_bound hq; rw [hq] at h; simp only [wholeN] at h; omega
theorem loaded2 (s : FS) (n m : Nat) (hn : wholeN (wholeS s 0) = n) (hm : wholeN (wholeS s 1) = m) :
    (n = 0 ∧ m = 0 ∧ loadedS s = ([], 0, -1)) ∨ (n ≠ 0 ∧ m ≤ n ∧ loadedS s = (wholeB (wholeS s 0), n, 0)) ∨ (n < m ∧ loadedS s = (wholeB (wholeS s 1), m, 1)) := by
  have e : loadedS s = stepL 1 (wholeS s 1) (stepL 0 (wholeS s 0) ([], 0, -1)) := rfl
  by_cases h0 : n = 0
  · have w0 : wholeS s 0 = none := wholeN_zero (hn.trans h0)
    by_cases h1 : m = 0
    · have w1 : wholeS s 1 = none := wholeN_zero (hm.trans h1)
      refine .inl ⟨h0, h1, ?_⟩
      rw [e, w0, w1]
      rfl
    · have w1 : wholeS s 1 = some (wholeB (wholeS s 1), m) := by rw [← hm]; exact wholeN_pos (by show wholeN (wholeS s 1) ≠ 0; omega)
      refine .inr (.inr ⟨by omega, ?_⟩)
      rw [e, w0]
      show stepL 1 (wholeS s 1) ([], 0, -1) = _
      rw [w1]
      simp only [stepL, wholeB]
      rw [if_pos (by omega)]
      rfl
  · have w0 : wholeS s 0 = some (wholeB (wholeS s 0), n) := by rw [← hn]; exact wholeN_pos (by show wholeN (wholeS s 0) ≠ 0; omega)
    have e2 : stepL 0 (wholeS s 0) ([], 0, -1) = (wholeB (wholeS s 0), n, 0) := by
      rw [w0]
      simp only [stepL, wholeB]
      rw [if_pos (by omega)]
      rfl
    rw [e2] at e
    by_cases h1 : m = 0
    · have w1 : wholeS s 1 = none := wholeN_zero (hm.trans h1)
      refine .inr (.inl ⟨h0, by omega, ?_⟩)
      rw [e, w1]
      rfl
    · have w1 : wholeS s 1 = some (wholeB (wholeS s 1), m) := by rw [← hm]; exact wholeN_pos (by show wholeN (wholeS s 1) ≠ 0; omega)
      by_cases h2 : n < m
      · refine .inr (.inr ⟨h2, ?_⟩)
        rw [e, w1]
        simp only [stepL, wholeB]
        rw [if_pos h2]
        rfl
      · refine .inr (.inl ⟨h0, by omega, ?_⟩)
        rw [e, w1]
        simp only [stepL]
        rw [if_neg h2]

set_option maxHeartbeats 400000 in
theorem xfind_calls (c e e0 p : Nat) (vP : Value) (vs : List Value) (s : FS) (w : World) (o : Col) (h : XFl w o c e p vP vs s) :
    Calls Try.prog 63 #[.pointer (some ⟨p, 0, none⟩)] w (Post [] w o fun r w' o' => ∃ v, r = .tuple #[.int .i64 (findT s), v, .int .i64 ((loadS s).2.1 : Int), .int .i64 (loadS s).2.2] ∧ OwnB w' o' e0 v (loadS s).1) := by
  obtain ⟨A0, cap0, rfl⟩ := h.shape
  have h0 := h.c0
  obtain ⟨L, hL⟩ : ∃ L, loadS s = L := ⟨_, rfl⟩
  obtain ⟨T, hT⟩ : ∃ T, findT s = T := ⟨_, rfl⟩
  rw [hL, hT]
  obtain ⟨PL, hPL⟩ : ∃ PL, s.pg.length = PL := ⟨_, rfl⟩
  have Hw := Lib.hid (fun (k : Nat) (t : Int) (ht : t = (k : Int) * 40) (hk : k ≤ 1) (h80 : 80 ≤ s.pg.length) w' o' (h' : XFl w' o' c e p (.slice A0 s.pg.length cap0) vs s) => xwhole12_calls c e e0 p _ vs s k t ht hk h80 w' o' h')
  rw [hPL] at h0
  by_cases h80 : 80 ≤ PL
  · have g0 : decide ((PL : Int) < 80) = false := decide_eq_false (by omega)
    obtain ⟨n, hn⟩ : ∃ n, wholeN (wholeS s 0) = n := ⟨_, rfl⟩
    obtain ⟨m, hm⟩ : ∃ m, wholeN (wholeS s 1) = m := ⟨_, rfl⟩
    obtain ⟨B0, hB0⟩ : ∃ B, wholeB (wholeS s 0) = B := ⟨_, rfl⟩
    obtain ⟨B1, hB1⟩ : ∃ B, wholeB (wholeS s 1) = B := ⟨_, rfl⟩
    have hld := loaded2 s n m hn hm
    have hc0 := Hw.out 0 0 (by omega) (by omega) (by omega) w o h
    have hc1 := fun w' o' h' => Hw.out 1 40 (by omega) (by omega) (by omega) w' o' h'
    rw [hn, hB0] at hc0
    rw [hm, hB1] at hc1
    rw [hB0, hB1] at hld
    have hL' : L = if (loadedS s).2.2 < 0 then ([], 0, 9) else ((loadedS s).1, (loadedS s).2.1, 0) := by rw [← hL, loadS, if_neg (by omega)]
    have hT' : T = (loadedS s).2.2 := by rw [← hT, findT, if_neg (by omega)]
    replace hL := Lib.hid hL
    replace hT := Lib.hid hT
    replace hPL := Lib.hid hPL
    replace hn := Lib.hid hn
    replace hm := Lib.hid hm
    replace hB0 := Lib.hid hB0
    replace hB1 := Lib.hid hB1
    replace h := Lib.hid h
    replace hc1 := Lib.hid hc1
    rcases hld with ⟨rfl, rfl, hv⟩ | ⟨q1, q2, hv⟩ | ⟨q1, hv⟩
    · have e1 : L = ([], 0, 9) := by rw [hL', hv]; rfl
      have e2 : T = -1 := by rw [hT', hv]
      clear hL' hT'
      rw [e1, e2]
      replace hv := Lib.hid hv
      go_enter Try.func63, Try.ntmps63
      go_wp2_with fail
      refine hc0.mono ?_
      clear hc0
      rintro ex w1 ⟨r, o1, rfl, s1, v1, rfl, f1⟩
      have hcc := hc1.out _ _ (h.out.stp s1 (by simp) (by simp))
      replace f1 := Lib.hid f1
      replace s1 := Lib.hid s1
      go_wp2_with fail
      refine hcc.mono ?_
      clear hcc
      rintro ex w2 ⟨r, o2, rfl, s2, v2, rfl, f2⟩
      replace f2 := Lib.hid f2
      replace s2 := Lib.hid (s1.out.trans s2)
      go_wp2
      refine bodyPost_ret (results_tmp4 rfl _ _ _) rfl ?_
      exact Post.mk s2.out ⟨_, rfl, OwnB.nil _ _ _⟩
    · have e1 : L = (B0, n, 0) := by rw [hL', hv]; rfl
      have e2 : T = 0 := by rw [hT', hv]
      clear hL' hT'
      rw [e1, e2]
      have g1 : ((n : Int) == 0) = false := by simp; omega
      have g2 : decide ((m : Int) ≤ (n : Int)) = true := decide_eq_true (by omega)
      replace hv := Lib.hid hv
      go_enter Try.func63, Try.ntmps63
      go_wp2_with fail
      refine hc0.mono ?_
      clear hc0
      rintro ex w1 ⟨r, o1, rfl, s1, v1, rfl, f1⟩
      have hcc := hc1.out _ _ (h.out.stp s1 (by simp) (by simp))
      obtain ⟨A1, cap1, rfl⟩ := Own.shape f1
      replace f1 := Lib.hid f1
      replace s1 := Lib.hid s1
      go_wp2_with fail
      refine hcc.mono ?_
      clear hcc
      rintro ex w2 ⟨r, o2, rfl, s2, v2, rfl, f2⟩
      have f3 : OwnB w2 o2 e0 (.slice A1 B0.length cap1) B0 := by have := f1.out; exact OwnB.stp this s2 (by simp)
      replace f3 := Lib.hid f3
      replace f2 := Lib.hid f2
      replace s2 := Lib.hid (s1.out.trans s2)
      go_wp2
      refine bodyPost_ret (results_tmp4 rfl _ _ _) rfl ?_
      exact Post.mk s2.out ⟨_, rfl, f3.out⟩
    · have e1 : L = (B1, m, 0) := by rw [hL', hv]; rfl
      have e2 : T = 1 := by rw [hT', hv]
      clear hL' hT'
      rw [e1, e2]
      have g2 : decide ((m : Int) ≤ (n : Int)) = false := decide_eq_false (by omega)
      have g3 : ((m : Int) == 0) = false := by simp; omega
      replace hv := Lib.hid hv
      by_cases hn0 : n = 0
      · subst hn0
        have hm0 : ¬ m = 0 := by omega
        have g2b : decide (m = 0) = false := decide_eq_false hm0
        have g2a : decide ((m : Int) ≤ 0) = false := decide_eq_false (by omega)
        clear g2
        go_enter Try.func63, Try.ntmps63
        go_wp2_with fail
        refine hc0.mono ?_
        clear hc0
        rintro ex w1 ⟨r, o1, rfl, s1, v1, rfl, f1⟩
        have hcc := hc1.out _ _ (h.out.stp s1 (by simp) (by simp))
        replace f1 := Lib.hid f1
        replace s1 := Lib.hid s1
        go_wp2_with fail
        refine hcc.mono ?_
        clear hcc
        rintro ex w2 ⟨r, o2, rfl, s2, v2, rfl, f2⟩
        obtain ⟨A2, cap2, rfl⟩ := Own.shape f2
        have f3 : OwnB w2 o2 e0 (.slice A2 B1.length cap2) B1 := f2
        replace f3 := Lib.hid f3
        replace f2 := Lib.hid f2
        replace s2 := Lib.hid (s1.out.trans s2)
        go_wp2
        refine bodyPost_ret (results_tmp4 rfl _ _ _) rfl ?_
        exact Post.mk s2.out ⟨_, rfl, f3.out⟩
      · have g1 : ((n : Int) == 0) = false := by simp; omega
        have g2n : decide (m ≤ n) = false := decide_eq_false (by omega)
        have hmn : ¬ m ≤ n := by omega
        go_enter Try.func63, Try.ntmps63
        go_wp2_with fail
        refine hc0.mono ?_
        clear hc0
        rintro ex w1 ⟨r, o1, rfl, s1, v1, rfl, f1⟩
        have hcc := hc1.out _ _ (h.out.stp s1 (by simp) (by simp))
        replace f1 := Lib.hid f1
        replace s1 := Lib.hid s1
        go_wp2_with fail
        refine hcc.mono ?_
        clear hcc
        rintro ex w2 ⟨r, o2, rfl, s2, v2, rfl, f2⟩
        obtain ⟨A2, cap2, rfl⟩ := Own.shape f2
        have f3 : OwnB w2 o2 e0 (.slice A2 B1.length cap2) B1 := f2
        replace f3 := Lib.hid f3
        replace f2 := Lib.hid f2
        replace s2 := Lib.hid (s1.out.trans s2)
        go_wp2
        refine bodyPost_ret (results_tmp4 rfl _ _ _) rfl ?_
        exact Post.mk s2.out ⟨_, rfl, f3.out⟩
  · have g0 : decide ((PL : Int) < 80) = true := decide_eq_true (by omega)
    have e1 : L = ([], 0, 1) := by rw [← hL, loadS, if_pos (by omega)]
    have e2 : T = 0 := by rw [← hT, findT, if_pos (by omega)]
    rw [e1, e2]
    replace hL := Lib.hid hL
    replace hT := Lib.hid hT
    replace hPL := Lib.hid hPL
    replace h := Lib.hid h
    go_enter Try.func63, Try.ntmps63
    go_wp2
    refine bodyPost_ret (results_tmp4 rfl _ _ _) rfl ?_
    exact Post.mk (Stp.refl _ _ _) ⟨_, rfl, OwnB.nil _ _ _⟩
set_option maxHeartbeats 1000000 in
theorem xload_calls (c e e0 p : Nat) (vP : Value) (vs : List Value) (s : FS) (w : World) (o : Col) (h : XFl w o c e p vP vs s) :
    Calls Try.prog 26 #[.pointer (some ⟨p, 0, none⟩)] w (Post [] w o fun r w' o' => ∃ v, r = .tuple #[v, .int .i64 ((loadS s).2.1 : Int), .int .i64 (loadS s).2.2] ∧ OwnB w' o' e0 v (loadS s).1) := by
  have hf := xfind_calls c e e0 p vP vs s w o h
  obtain ⟨L, hL⟩ : ∃ L, loadS s = L := ⟨_, rfl⟩
  obtain ⟨T, hT⟩ : ∃ T, findT s = T := ⟨_, rfl⟩
  obtain ⟨B, N, E⟩ := L
  rw [hL, hT] at hf
  rw [hL]
  dsimp only at hf ⊢
  replace hL := Lib.hid hL
  replace hT := Lib.hid hT
  replace h := Lib.hid h
  go_enter Try.func26, Try.ntmps26
  go_wp2_with fail
  refine hf.mono ?_
  clear hf
  rintro ex w1 ⟨r, o1, rfl, s1, v1, rfl, f1⟩
  obtain ⟨A1, cap1, rfl⟩ := Own.shape f1
  have f2 : OwnB w1 o1 e0 (.slice A1 B.length cap1) B := f1
  replace f1 := Lib.hid f1
  replace f2 := Lib.hid f2
  replace s1 := Lib.hid s1
  go_wp2
  refine bodyPost_ret (results_tmp3 rfl _ _ _) rfl ?_
  exact Post.mk s1.out ⟨_, rfl, f2.out⟩
/-- The slice that 'part' tells. -/
def partV (A : Option Addr) (cap l k : Nat) : Value := .slice (if cap = l then A else A.map (·.add (l * 1))) (k - l) (cap - l)
theorem slcX {w : World} {ops : Array Oper} {rest : List Oper} {op : Oper} {a : Act} {Q : Exit → Act → World → Prop} {n cap : Nat} {A : Option Addr} (x lo hi : Operand)
    (hgd : Region.wanted op (yielded ops a.tmps) = true) (hop : op.op = .slice 22 x (some lo) (some hi) none) (l k : Nat) {kl kh : IntKind} (hx : a.eval x = .slice A n cap) (hlo : a.eval lo = .int kl l) (hhi : a.eval hi = .int kh k) (hl : l ≤ k) (hk : k ≤ n) (hn : n ≤ cap)
    (h : wpList Try.prog ops Q rest (a.put op.dst (partV A cap l k)) w) : wpList Try.prog ops Q (op :: rest) a w := by
  obtain ⟨he, hu⟩ := slB.elem
  obtain ⟨i, hi', _, hsz, _⟩ := slB.info
  refine wpList_w hgd fun K hK => ?_
  have hrun := run_slice_lh (P := Try.prog) w 22 A n cap hu kl kh l k (by omega) (by omega) (by omega)
  rw [Int.toNat_natCast, Int.toNat_natCast] at hrun
  have hfin := hK _ _ h
  unfold partV at hfin
  unfold Oper.wp
  simp only [Nat.mul_one] at hfin
  simp [execOp, hop, hx, hlo, hhi, run_sliceAt_slice _ _ _ _ _ _ hu, hrun, he, sizeOf, typeInfo, hi', hsz, Result.andThen, sliced]
  exact hfin
theorem part_rd {w : World} {o : Col} {c capA i : Nat} {A : Option Addr} {b : List UInt8} (h : RdB w o c (.slice A b.length capA) b) (hib : i * 64 ≤ b.length) : RdB w o c (partV A capA (i * 64) (min ((i + 1) * 64) b.length)) (partB b i) := by
  have h1 := Rd.sub h (i * 64) (min ((i + 1) * 64) b.length) (by omega) (by omega)
  have hl : (partB b i).length = min ((i + 1) * 64) b.length - i * 64 := by rw [partB, List.length_take, List.length_drop]; omega
  unfold RdB
  rw [hl]
  unfold partB partV
  simpa [vbs, List.map_take, List.map_drop] using h1
set_option maxHeartbeats 400000 in
theorem xpart_calls (A : Option Addr) (capA i n : Nat) (w : World) (hn : n ≤ capA) (hl : n ≤ 1000000) (hi : i ≤ 20000) (hib : i * 64 ≤ n) :
    Calls Try.prog 65 #[.slice A n capA, .int .i64 i] w fun ex w' => ex = .returned (partV A capA (i * 64) (min ((i + 1) * 64) n)) ∧ w' = w := by
  obtain ⟨a, ha⟩ : ∃ a, i * 64 = a := ⟨_, rfl⟩
  obtain ⟨a2, ha2⟩ : ∃ a2, (i + 1) * 64 = a2 := ⟨_, rfl⟩
  obtain ⟨hi2, hhi⟩ : ∃ hi2, min a2 n = hi2 := ⟨_, rfl⟩
  have hcs : (a2 < n ∧ hi2 = a2) ∨ (¬ a2 < n ∧ hi2 = n) := by omega
  have haI : (i : Int) * 64 = (a : Int) := by omega
  have ha2I : ((i : Int) + 1) * 64 = (a2 : Int) := by omega
  have hmb : (0 : Int) ≤ (i : Int) ∧ (i : Int) ≤ 20000 := by omega
  have hah : a ≤ hi2 ∧ hi2 ≤ n := by omega
  rw [ha, ha2, hhi]
  replace ha := Lib.hid ha
  replace ha2 := Lib.hid ha2
  replace hhi := Lib.hid hhi
  rcases hcs with ⟨q1, q2⟩ | ⟨q1, q2⟩
  all_goals subst q2
  · have g3 : decide ((hi2 : Int) < (n : Int)) = true := decide_eq_true (by omega)
    have g4 : (hi2 : Int) < (n : Int) := by omega
    go_enter Try.func65, Try.ntmps65
    go_wp2_with (refine holdAt 14 ?_)
    apply Hold.mk
    refine slcX _ _ _ rfl rfl a hi2 rfl rfl rfl hah.1 hah.2 hn ?_
    obtain ⟨V, hV⟩ : ∃ V, partV A capA a hi2 = V := ⟨_, rfl⟩
    rw [hV]
    replace hV := Lib.hid hV
    go_wp2
    go_ret
    exact ⟨by rw [hV.out]; rfl, rfl⟩
  · have g3 : decide ((a2 : Int) < (hi2 : Int)) = false := decide_eq_false (by omega)
    have g4 : (hi2 : Int) ≤ (a2 : Int) := by omega
    go_enter Try.func65, Try.ntmps65
    go_wp2_with (refine holdAt 14 ?_)
    apply Hold.mk
    refine slcX _ _ _ rfl rfl a hi2 rfl rfl rfl hah.1 hah.2 hn ?_
    obtain ⟨V, hV⟩ : ∃ V, partV A capA a hi2 = V := ⟨_, rfl⟩
    rw [hV]
    replace hV := Lib.hid hV
    go_wp2
    go_ret
    exact ⟨by rw [hV.out]; rfl, rfl⟩
end Go.Proofs.Ytpjnmijfmfgdpaa
