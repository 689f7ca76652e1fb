/- Banks (chapter 13): first, Pages, asked, image: the walks. -/
import Derived.Test.YtpjnmijfmfgdpaaBankP
import Derived.Test.YtpjnmijfmfgdpaaXSlotC
import Derived.Test.YtpjnmijfmfgdpaaPage2
import Derived.Test.YtpjnmijfmfgdpaaSlotE
namespace Go.Proofs.Ytpjnmijfmfgdpaa
set_option linter.unusedVariables false
set_option linter.unusedSimpArgs false
open Go.RowKit

theorem first_calls (bk : Int) (K : Nat) (hK : (K : Int) = 80 + bk * 8) (h0 : 0 ≤ bk) (h1 : bk ≤ 1) (w : World) : Calls Try.prog 80 #[.int .i64 bk] w fun e w' => e = .returned (.int .i64 (K : Int)) ∧ w' = w := by
  rw [hK]
  go_enter Try.func80, Try.ntmps80
  go_wp2
  go_ret
  exact ⟨rfl, rfl⟩
theorem bpages_calls (w : World) : Calls Try.prog 34 #[] w fun e w' => e = .returned (.int .i64 96) ∧ w' = w := by
  go_enter Try.func34, Try.ntmps34
  go_wp2
  go_ret
  exact ⟨rfl, rfl⟩
set_option maxHeartbeats 2000000 in
theorem asked_calls (c p g cap : Nat) (s : FS) (name m mind : List UInt8) (counter : Int) (A A2 : Option Addr) (cap1 cap2 : Nat) (w : World) (o : Col) (h : Fl w o c p g cap s) :
    Calls Try.prog 66 #[.pointer (some ⟨p, 0, none⟩), .string ⟨name.toArray⟩, .slice A m.length cap1, .int .i64 counter, .slice A2 mind.length cap2] w fun e w' => e = .returned (.int .i64 (askedS s name m counter mind)) ∧ w = w' := by
  have hl := len_calls c p g cap s w o h
  have hd := dead_calls c p g cap s w o h
  have hpg := bpages_calls w
  obtain ⟨PL, hPL⟩ : ∃ PL, s.pg.length = PL := ⟨_, rfl⟩
  have hv : askedS s name m counter mind = if PL < 96 then 1 else if s.dead = true then 11 else if 512 < m.length ∨ 12 < name.length ∨ 2000 < mind.length then 10 else if counter < 0 ∨ 1073741824 < counter then 1 else 0 := by rw [askedS, hPL]
  obtain ⟨R, hR⟩ : ∃ R, askedS s name m counter mind = R := ⟨_, rfl⟩
  rw [hR] at hv ⊢
  rw [hPL] at hl
  replace hR := Lib.hid hR
  replace hPL := Lib.hid hPL
  replace h := Lib.hid h
  obtain ⟨NL, hNL⟩ : ∃ NL, name.length = NL := ⟨_, rfl⟩
  have hns : name.toArray.size = NL := by simpa using hNL
  rw [hNL] at hv
  replace hNL := Lib.hid hNL
  by_cases h1 : PL < 96
  · have e1 : R = 1 := by rw [hv, if_pos h1]
    have g1 : decide ((PL : Int) < 96) = true := decide_eq_true (by omega)
    replace hv := Lib.hid hv
    rw [e1]
    go_enter Try.func66, Try.ntmps66
    go_wp2_with fail
    refine hl.mono ?_
    rintro e w1 ⟨rfl, rfl⟩
    go_wp2_with fail
    refine hpg.mono ?_
    rintro e w1 ⟨rfl, rfl⟩
    go_wp2
    go_ret
    exact ⟨rfl, rfl⟩
  have g1 : decide ((PL : Int) < 96) = false := decide_eq_false (by omega)
  rw [if_neg h1] at hv
  cases hdd : s.dead with
  | true =>
    have e1 : R = 11 := by rw [hv, if_pos hdd]
    rw [hdd] at hd
    replace hv := Lib.hid hv
    rw [e1]
    go_enter Try.func66, Try.ntmps66
    go_wp2_with fail
    refine hl.mono ?_
    rintro e w1 ⟨rfl, rfl⟩
    go_wp2_with fail
    refine hpg.mono ?_
    rintro e w1 ⟨rfl, rfl⟩
    go_wp2_with fail
    refine hd.mono ?_
    rintro e w1 ⟨rfl, rfl⟩
    go_wp2
    go_ret
    exact ⟨rfl, rfl⟩
  | false =>
    rw [hdd] at hd
    rw [if_neg (by rw [hdd]; simp)] at hv
    have hcs : (512 < m.length ∧ R = 10) ∨ (¬ 512 < m.length ∧ ((12 < NL ∧ R = 10) ∨ (¬ 12 < NL ∧ ((2000 < mind.length ∧ R = 10) ∨ (¬ 2000 < mind.length ∧ ((counter < 0 ∧ R = 1) ∨ (¬ counter < 0 ∧ ((1073741824 < counter ∧ R = 1) ∨ (¬ 1073741824 < counter ∧ R = 0))))))))) := by
      by_cases q1 : 512 < m.length
      · exact .inl ⟨q1, by rw [hv, if_pos (.inl q1)]⟩
      · refine .inr ⟨q1, ?_⟩
        by_cases q2 : 12 < NL
        · exact .inl ⟨q2, by rw [hv, if_pos (.inr (.inl q2))]⟩
        · refine .inr ⟨q2, ?_⟩
          by_cases q3 : 2000 < mind.length
          · exact .inl ⟨q3, by rw [hv, if_pos (.inr (.inr q3))]⟩
          · refine .inr ⟨q3, ?_⟩
            rw [if_neg (by omega)] at hv
            by_cases q4 : counter < 0
            · exact .inl ⟨q4, by rw [hv, if_pos (.inl q4)]⟩
            · refine .inr ⟨q4, ?_⟩
              by_cases q5 : 1073741824 < counter
              · exact .inl ⟨q5, by rw [hv, if_pos (.inr q5)]⟩
              · exact .inr ⟨q5, by rw [hv, if_neg (by omega)]⟩
    replace hv := Lib.hid hv
    rcases hcs with ⟨q1, rfl⟩ | ⟨q1, hcs⟩
    · have g2 : decide ((512 : Int) < (m.length : Int)) = true := decide_eq_true (by omega)
      go_enter Try.func66, Try.ntmps66
      go_wp2_with fail
      refine hl.mono ?_
      rintro e w1 ⟨rfl, rfl⟩
      go_wp2_with fail
      refine hpg.mono ?_
      rintro e w1 ⟨rfl, rfl⟩
      go_wp2_with fail
      refine hd.mono ?_
      rintro e w1 ⟨rfl, rfl⟩
      go_wp2
      go_ret
      exact ⟨rfl, rfl⟩
    have g2 : decide ((512 : Int) < (m.length : Int)) = false := decide_eq_false (by omega)
    rcases hcs with ⟨q2, rfl⟩ | ⟨q2, hcs⟩
    · have g3 : decide ((12 : Int) < (NL : Int)) = true := decide_eq_true (by omega)
      go_enter Try.func66, Try.ntmps66
      go_wp2_with fail
      refine hl.mono ?_
      rintro e w1 ⟨rfl, rfl⟩
      go_wp2_with fail
      refine hpg.mono ?_
      rintro e w1 ⟨rfl, rfl⟩
      go_wp2_with fail
      refine hd.mono ?_
      rintro e w1 ⟨rfl, rfl⟩
      go_wp2
      go_ret
      exact ⟨rfl, rfl⟩
    have g3 : decide ((12 : Int) < (NL : Int)) = false := decide_eq_false (by omega)
    rcases hcs with ⟨q3, rfl⟩ | ⟨q3, hcs⟩
    · have g4 : decide ((2000 : Int) < (mind.length : Int)) = true := decide_eq_true (by omega)
      go_enter Try.func66, Try.ntmps66
      go_wp2_with fail
      refine hl.mono ?_
      rintro e w1 ⟨rfl, rfl⟩
      go_wp2_with fail
      refine hpg.mono ?_
      rintro e w1 ⟨rfl, rfl⟩
      go_wp2_with fail
      refine hd.mono ?_
      rintro e w1 ⟨rfl, rfl⟩
      go_wp2
      go_ret
      exact ⟨rfl, rfl⟩
    have g4 : decide ((2000 : Int) < (mind.length : Int)) = false := decide_eq_false (by omega)
    rcases hcs with ⟨q4, rfl⟩ | ⟨q4, ⟨q5, rfl⟩ | ⟨q5, rfl⟩⟩
    · have g5 : decide (counter < 0) = true := decide_eq_true (by omega)
      go_enter Try.func66, Try.ntmps66
      go_wp2_with fail
      refine hl.mono ?_
      rintro e w1 ⟨rfl, rfl⟩
      go_wp2_with fail
      refine hpg.mono ?_
      rintro e w1 ⟨rfl, rfl⟩
      go_wp2_with fail
      refine hd.mono ?_
      rintro e w1 ⟨rfl, rfl⟩
      go_wp2
      go_ret
      exact ⟨rfl, rfl⟩
    · have g5 : decide (counter < 0) = false := decide_eq_false (by omega)
      have g6 : decide (1073741824 < counter) = true := decide_eq_true (by omega)
      go_enter Try.func66, Try.ntmps66
      go_wp2_with fail
      refine hl.mono ?_
      rintro e w1 ⟨rfl, rfl⟩
      go_wp2_with fail
      refine hpg.mono ?_
      rintro e w1 ⟨rfl, rfl⟩
      go_wp2_with fail
      refine hd.mono ?_
      rintro e w1 ⟨rfl, rfl⟩
      go_wp2
      go_ret
      exact ⟨rfl, rfl⟩
    · have g5 : decide (counter < 0) = false := decide_eq_false (by omega)
      have g6 : decide (1073741824 < counter) = false := decide_eq_false (by omega)
      go_enter Try.func66, Try.ntmps66
      go_wp2_with fail
      refine hl.mono ?_
      rintro e w1 ⟨rfl, rfl⟩
      go_wp2_with fail
      refine hpg.mono ?_
      rintro e w1 ⟨rfl, rfl⟩
      go_wp2_with fail
      refine hd.mono ?_
      rintro e w1 ⟨rfl, rfl⟩
      go_wp2
      go_ret
      exact ⟨rfl, rfl⟩

theorem pagesB_len {s : FS} (h : s.ok) (K n : Nat) (hn : K + n ≤ s.pg.length) : (pagesB s K n).length = 64 * n := by
  induction n with
  | zero => rfl
  | succ n ih =>
    have hq : s.pg[K + n]? = some (s.pg[K + n]'(by omega)) := by simp [show K + n < s.pg.length by omega]
    rw [pagesB, List.length_append, ih (by omega), readB_get hq, h.1 _ (List.getElem_mem _)]
    omega
theorem map_add0 (A : Option Addr) : A.map (·.add 0) = A := by
  cases A with
  | none => rfl
  | some a => simp [Addr.add_zero']
theorem Rd.recap {w : World} {o : Col} {c sz n cap : Nat} {A : Option Addr} {vals : List Value} (h : Rd w o c sz (.slice A n cap) n vals) (k : Nat) (hk : n ≤ k) (h0 : A = none → k = 0) : Rd w o c sz (.slice A n k) n vals := by
  obtain ⟨h1, h1b, h1o, A', cap', e, h3, h4, h5⟩ := h
  injection e with e1 e2 e3
  subst e1
  exact ⟨h1, h1b, h1o, _, k, rfl, hk, h0, h5⟩
theorem slcHM {w : World} {o : Col} {ops : Array Oper} {rest : List Oper} {op : Oper} {a : Act} {Q : Exit → Act → World → Prop} {c cap : Nat} {A : Option Addr} {l : List UInt8} (x hi mx : Operand)
    (hgd : Region.wanted op (yielded ops a.tmps) = true) (hop : op.op = .slice 22 x none (some hi) (some mx)) (hrd : RdB w o c (.slice A l.length cap) l) (k : Nat) {kh km : IntKind} (hx : a.eval x = .slice A l.length cap) (hhi : a.eval hi = .int kh k) (hmx : a.eval mx = .int km k) (hk : k ≤ l.length)
    (h : RdB w o c (.slice A k k) (l.take k) → wpList Try.prog ops Q rest (a.put op.dst (.slice A k k)) w) : wpList Try.prog ops Q (op :: rest) a w := by
  obtain ⟨he, hu⟩ := slB.elem
  obtain ⟨i, hi', _, hsz, _⟩ := slB.info
  refine wpList_w hgd fun K hK => ?_
  obtain ⟨A', cap', e, hnc, hA0⟩ := hrd.shape
  injection e with e1 _ e3
  subst e1
  subst e3
  have hs := Rd.sub hrd 0 k (Nat.zero_le _) hk
  simp only [Nat.zero_mul, List.drop_zero, Nat.sub_zero, Nat.mul_one, map_add0, ite_self] at hs
  have hfin := h (by
    unfold RdB
    rw [List.length_take, Nat.min_eq_left hk]
    have := hs.recap k (Nat.le_refl _) (fun e => by have := hA0 e; omega)
    simpa [vbs, List.map_take] using this)
  have hrun := run_slice_hm (P := Try.prog) w 22 A l.length cap hu kh km k k (by omega) (by omega) (by omega)
  rw [Int.toNat_natCast] at hrun
  unfold Oper.wp
  simp [execOp, hop, hx, hhi, hmx, run_sliceAt_slice _ _ _ _ _ _ hu, hrun, he, sizeOf, typeInfo, hi', hsz, Result.andThen, sliced, map_add0]
  exact hK _ _ hfin
/-- What the loop of 'image' keeps. -/
def ImR (w0 : World) (o0 : Col) (d : Nat) (s : FS) (K : Nat) (x y : Value) (wr : World) : Prop :=
  ∃ (i : Nat) (o' : Col), y = .int .i64 i ∧ i ≤ 8 ∧ Stp [d] w0 o0 wr o' ∧ OwnB wr o' d x (pagesB s K i)
set_option maxHeartbeats 2000000 in
set_option maxRecDepth 100000 in
theorem image_calls (c e0 p g cap : Nat) (s : FS) (bk : Int) (K SZ : Nat) (hK : (K : Int) = 80 + bk * 8) (h0 : 0 ≤ bk) (h1 : bk ≤ 1) (hsz : SZ ≤ 512) (h96 : 96 ≤ s.pg.length) (w : World) (o : Col) (h : Fl w o c p g cap s) :
    Calls Try.prog 71 #[.pointer (some ⟨p, 0, none⟩), .int .i64 bk, .int .i64 (SZ : Int)] w (Post [] w o fun r w' o' => RdB w' o' e0 r ((pagesB s K 8).take SZ)) := by
  obtain ⟨d, hd1, _, hdf⟩ := fresh o w.heap.size [c]
  simp only [List.mem_cons, List.not_mem_nil, or_false, not_or] at hd1
  have hok := h.ok
  have hlen := pagesB_len hok K 8 (by omega)
  have hKb : K ≤ 88 := by omega
  have hfc := first_calls bk K hK h0 h1
  replace h := Lib.hid h
  replace hK := Lib.hid hK
  replace hfc := Lib.hid hfc
  go_enter Try.func71, Try.ntmps71
  go_wp2_with fail
  go_loopw [7, 11] (ImR w o d s K) (fun _ y _ => 8 - (intOf y).toNat)
  case atStart => exact ⟨0, o, rfl, by omega, Stp.refl _ _ _, OwnB.nil _ _ _⟩
  case round =>
    obtain ⟨i, o1, rfl, hi, st, hm⟩ := hrel
    have hle := pagesB_le s hok K i
    obtain ⟨A, capA, rfl⟩ := Own.shape hm
    have hfl := h.out.stp st (by simpa using fun x => hd1 x.symm)
    by_cases hlt : i < 8
    · have g1 : decide ((i : Int) < 8) = true := decide_eq_true (by omega)
      obtain ⟨N, hN⟩ : ∃ N, (pagesB s K i).length = N := ⟨_, rfl⟩
      obtain ⟨j, hj⟩ : ∃ j, K + i = j := ⟨_, rfl⟩
      have hjI : (K : Int) + (i : Int) = (j : Int) := by omega
      have hnx : pagesB s K (i + 1) = pagesB s K i ++ readB s (j : Int) := by rw [pagesB, hj]
      have hrl := readB_le s hok (j : Int)
      have hf := hfc.out wr
      replace hm := Lib.hid hm
      replace st := Lib.hid st
      replace hfl := Lib.hid hfl
      replace hj := Lib.hid hj
      replace hnx := Lib.hid hnx
      have HN := Lib.hid hN
      clear hN
      go_wp2_with fail
      refine hf.mono ?_
      clear hf
      rintro e w1 ⟨rfl, rfl⟩
      go_wp2_with fail
      refine (read_calls c d p g cap s (j : Int) _ _ hfl.out).mono ?_
      rintro e w2 ⟨r, o2, rfl, s2, v2, rfl, h2⟩
      have hm2 := Lib.hid (OwnB.stp hm.out s2 (by simp))
      have st2 := Lib.hid (st.out.trans s2.none)
      obtain ⟨A2, cap2, rfl⟩ := Own.shape h2
      replace h2 := Lib.hid h2
      clear s2
      go_wp2_with (refine holdAt 25 ?_)
      apply Hold.mk
      refine appB _ _ rfl rfl hm2.out (OwnB.rd h2.out) rfl rfl (by omega) fun A3 cap3 w3 o3 s3 h3 _ _ => ?_
      rw [← hnx.out] at h3
      have hl : (pagesB s K i).length + (readB s (j : Int)).length = (pagesB s K (i + 1)).length := by rw [hnx.out, List.length_append]
      rw [hl] at h3 ⊢
      have s4 := Lib.hid (st2.out.trans s3)
      replace h3 := Lib.hid h3
      replace hl := Lib.hid hl
      obtain ⟨N2, hN2⟩ : ∃ N2, (pagesB s K (i + 1)).length = N2 := ⟨_, rfl⟩
      rw [hN2] at h3 ⊢
      replace hN2 := Lib.hid hN2
      clear s3
      go_wp2
      go_roundw
      case rel => exact ⟨i + 1, o3, by go_num, by omega, s4.out, by have := h3.out; rwa [← hN2.out] at this⟩
      case measure => simp [intOf]; omega
    · have hi8 : i = 8 := by omega
      have g1 : decide ((i : Int) < 8) = false := decide_eq_false (by omega)
      rw [hi8] at hm ⊢
      obtain ⟨PB, hPB⟩ : ∃ PB, pagesB s K 8 = PB := ⟨_, rfl⟩
      rw [hPB] at hm hlen ⊢
      rw [hlen]
      have hm2 : OwnB wr o1 d (.slice A PB.length capA) PB := hm
      replace hm := Lib.hid hm
      have hf : OwnB wr (paint o w.heap.size e0) e0 (.slice A PB.length capA) PB := Own.fresh hm2 st hdf e0
      have hr := OwnB.rd hf
      have s4 := Lib.hid ((st.drop hdf).repaint e0)
      have hb2 : SZ ≤ PB.length := by omega
      rw [hlen] at hr
      replace hf := Lib.hid hf
      replace hm2 := Lib.hid hm2
      replace hfl := Lib.hid hfl
      replace st := Lib.hid st
      replace hPB := Lib.hid hPB
      replace hr := Lib.hid hr
      have Hlen := Lib.hid hlen
      clear hlen
      go_wp2_with (refine holdAt 30 ?_)
      apply Hold.mk
      refine slcHM (c := e0) (l := PB) (cap := capA) (A := A) _ _ _ rfl rfl (by rw [Hlen.out]; exact hr.out) SZ (by rw [Hlen.out]; rfl) rfl rfl hb2 fun r3 => ?_
      replace r3 := Lib.hid r3
      go_wp2
      go_ret
      exact Post.mk s4.out (by rw [hPB.out]; exact r3.out)
end Go.Proofs.Ytpjnmijfmfgdpaa
