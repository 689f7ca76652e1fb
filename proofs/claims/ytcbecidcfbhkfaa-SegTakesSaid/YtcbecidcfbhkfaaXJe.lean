/- The document's Join (ref15): Take. Printed by wip/xjegen.py. -/
import Derived.Test.YtcbecidcfbhkfaaXJd
namespace Go.Proofs.Ytcbecidcfbhkfaa
set_option linter.unusedVariables false
set_option linter.unusedSimpArgs false
open Go.RowKit

theorem XJ.bad {w : World} {o : Col} {q : Nat} {s : JS} (h : XJ w o q s) : w.cell? ⟨q, 1, none⟩ = some (.int .i64 s.err) ∧ w.frozen? ⟨q, 1, none⟩ = false ∧ XJ (w.setCell ⟨q, 1, none⟩ (.int .i64 ((s.err : Int) + 1))) o q s.bad ∧ Stp [11, 12] w o (w.setCell ⟨q, 1, none⟩ (.int .i64 ((s.err : Int) + 1))) o := by
  obtain ⟨vL, L, hj, hr⟩ := h
  exact ⟨hj.c1, hj.free 1, ⟨vL, L, hj.bad.1, hr⟩, hj.bad.2.mono (by simp)⟩

set_option maxHeartbeats 16000000 in
set_option maxRecDepth 100000 in
theorem xtake_calls (q : Nat) (s : JS) (id : Int) (vd : Value) (d : List UInt8) (now : Int) (w : World) (o : Col) (h : XJ w o q s) (hok : s.ok) (hcn : s.cnt ≤ 700000) (hb : s.err ≤ 700000) (hn1 : -1000000000 ≤ now) (hn2 : now ≤ 1000000000) (hd : RdB w o 0 vd d) (hl : d.length ≤ 1000000) :
    Calls Try.prog 17 #[.pointer (some ⟨q, 0, none⟩), .agg #[.int .i64 id, vd], .int .i64 now] w (Post [11, 12] w o fun r w' o' => ∃ v, r = .tuple #[v, .bool (takeJ s id d now).2.isSome] ∧ RdB w' o' 13 v ((takeJ s id d now).2.getD []) ∧ XJ w' o' q (takeJ s id d now).1) := by
  obtain ⟨A, cap, rfl, hlc, hA⟩ := hd.shape
  have s0 : Stp [] w o (w.alloc (.cells #[.int .i64 id, .slice A d.length cap] 37)) (paint o w.heap.size 14) := (Stp.refl [] w o).alloc _ 14
  have hB := heap_alloc_new w (.cells #[.int .i64 id, .slice A d.length cap] 37)
  have hO : paint o w.heap.size 14 w.heap.size = 14 := paint_at _ _ _
  replace h := h.stp s0 (by simp) (by simp) (by simp)
  replace hd := hd.stp s0 (by simp)
  obtain ⟨w1, hw1⟩ : ∃ w1, w.alloc (.cells #[.int .i64 id, .slice A d.length cap] 37) = w1 := ⟨_, rfl⟩
  obtain ⟨o1, ho1⟩ : ∃ o1, paint o w.heap.size 14 = o1 := ⟨_, rfl⟩
  obtain ⟨B, hBB⟩ : ∃ B, w.heap.size = B := ⟨_, rfl⟩
  rw [hw1, ho1] at s0 h hd
  rw [hw1, hBB] at hB
  rw [ho1, hBB] at hO
  have b0 : w1.cell? ⟨B, 0, none⟩ = some (.int .i64 id) := blk_cell hB 0
  have b1 : w1.cell? ⟨B, 1, none⟩ = some (.slice A d.length cap) := blk_cell hB 1
  -- what is known of a world behind the frame's lateness
  have know : ∀ w2 o2 t, Stp [11, 12] w1 o1 w2 o2 → XJ w2 o2 q t → Stp [11, 12] w o w2 o2 ∧ RdB w2 o2 0 (.slice A d.length cap) d ∧ w2.cell? ⟨B, 0, none⟩ = some (.int .i64 id) ∧ w2.cell? ⟨B, 1, none⟩ = some (.slice A d.length cap) ∧ o2 B = 14 ∧
      (0 < d.length → ∃ a, A = some a ∧ w2.cell? a = some (.int .u8 ((d.headD 0).toNat : Int))) := by
    intro w2 o2 t st ht
    have hr := hd.stp st (by simp)
    refine ⟨s0.none.trans st, hr, st.cell b0 (by rw [hO]; simp), st.cell b1 (by rw [hO]; simp), (st.colc b0).trans hO, fun h0 => ?_⟩
    obtain ⟨a, e, hc⟩ := hr.at_ h0
    rw [head_at h0, show a.add 0 = a from rfl] at hc
    exact ⟨a, e, hc⟩
  have hle := lateJ_err s id now
  have hlo := lateJ_ok hok id now
  obtain ⟨t, ht⟩ : ∃ t, lateJ s id now = t := ⟨_, rfl⟩
  rw [ht] at hle hlo
  have hte : t.err ≤ 800000 := by omega
  have htc : t.cnt ≤ 800000 := by omega
  have htk : takeJ s id d now = if d.length = 0 then (t.bad, none) else if kindN d = 0 then singleJ t id d else if kindN d = 1 then (beginJ t id d now, none) else if kindN d = 2 then goesJ t id d now else (t.bad, none) := by rw [takeJ, ht]
  rw [htk]
  have hpath : (Calls Try.prog 25 #[.pointer (some ⟨q, 0, none⟩), .int .i64 id] w1 (fun e w' => e = .returned (.int .i64 (-1)) ∧ w1 = w') ∧ t = s) ∨ ∃ (g cp n i : Nat) (last : Int), Calls Try.prog 25 #[.pointer (some ⟨q, 0, none⟩), .int .i64 id] w1 (fun e w' => e = .returned (.int .i64 (i : Int)) ∧ w1 = w') ∧ i < n ∧ n ≤ 700000 ∧
      w1.cell? ⟨q, 0, none⟩ = some (.slice (some ⟨g, 0, none⟩) n cp) ∧ w1.cell? ⟨g, i * 5 + 3, none⟩ = some (.int .i64 last) ∧ -1000000000 ≤ last ∧ last ≤ 1000000000 ∧ ((now < last ∧ t = dropJ s id) ∨ (¬ now < last ∧ 10 < now - last ∧ t = dropJ s id) ∨ (¬ now < last ∧ ¬ 10 < now - last ∧ t = s)) := by
    obtain ⟨vL, L, hj, hr⟩ := h
    have hlen : L.length = s.cnt := hr.2.1.symm
    unfold lateJ at ht
    cases hf : s.f id with
    | none => rw [hf] at ht; exact .inl ⟨xat_none q vL L s.err id w1 o1 hj (by omega) (hr.absent hf), ht.symm⟩
    | some e =>
      rw [hf] at ht
      obtain ⟨L1, x, L2, rfl, hxid, hxe, n1, n2⟩ := hr.there hf
      have hat := xat_some q vL L1 x L2 s.err w1 o1 hj (by omega) (by rw [hxid]; exact n1)
      rw [hxid] at hat
      obtain ⟨g, capL, rfl, hnc, hcm, hg, hcell⟩ := hj.at_ (by simp; omega)
      have hx3 := hcell _ _ ((cellsX_at L1 x L2 3 (by omega)).trans (by simp [XE.cells, hxe] : _ = some (Value.int .i64 e.last)))
      obtain ⟨_, _, _, _, _, k6, k7⟩ := hok id e hf
      refine .inr ⟨g, capL, _, L1.length, e.last, hat, by simp, by omega, hj.c0, hx3, k6, k7, ?_⟩
      dsimp only at ht
      by_cases e1 : now < e.last
      · rw [if_pos (.inl e1)] at ht; exact .inl ⟨e1, ht.symm⟩
      · by_cases e2 : 10 < now - e.last
        · rw [if_pos (.inr e2)] at ht; exact .inr (.inl ⟨e1, e2, ht.symm⟩)
        · rw [if_neg (by omega)] at ht; exact .inr (.inr ⟨e1, e2, ht.symm⟩)
  obtain ⟨x, hx0⟩ : ∃ x, d.headD 0 = x := ⟨_, rfl⟩
  have hkd : kindN d = x.toNat / 16 := by rw [kindN, hx0]
  obtain ⟨kn, hkn⟩ : ∃ kn, x.toNat / 16 = kn := ⟨_, rfl⟩
  have hkI : (x.toNat : Int) / 16 = (kn : Int) := by omega
  have hx := and15 (d.headD 0)
  obtain ⟨nn, hnn⟩ : ∃ nn, (d.headD 0).toNat % 16 = nn := ⟨_, rfl⟩
  have hn16 : nn < 16 := by omega
  rw [hnn, hx0] at hx
  have hlow : lowN d = nn := hnn
  have n16 : (0 : Int) ≤ (nn : Int) ∧ (nn : Int) < 16 := by omega
  rw [hkn] at hkd
  rw [hkd]
  rw [hx0] at know
  have hsj : singleJ t id d = if nn = 0 ∨ d.length ≠ 1 + nn then (t.bad, none) else (dropJ t id, some d.tail) := by rw [singleJ, hlow]
  rw [hsj]
  obtain ⟨dl, hdl⟩ : ∃ dl, d.length = dl := ⟨_, rfl⟩
  rw [hdl] at b1 hw1 hl know ⊢
  clear hlc
  replace know := Lib.hid know
  replace h := Lib.hid h
  replace hd := Lib.hid hd
  replace hO := Lib.hid hO
  replace hB := Lib.hid hB
  replace ho1 := Lib.hid ho1
  replace s0 := Lib.hid s0
  replace ht := Lib.hid ht
  replace hx0 := Lib.hid hx0
  replace hkn := Lib.hid hkn
  replace hkd := Lib.hid hkd
  replace hlo := Lib.hid hlo
  replace hle := Lib.hid hle
  replace hnn := Lib.hid hnn
  replace hlow := Lib.hid hlow
  replace hdl := Lib.hid hdl
  have hdn : (0 : Int) ≤ (dl : Int) ∧ (dl : Int) ≤ 1000000 := by omega
  clear htk hok hsj
  by_cases hk : dl = 0
  · have z0 : ((dl : Int) == 0) = true := by simp [hk]
    rw [if_pos hk]
    replace hk := Lib.hid hk
    rcases hpath with ⟨hat, rfl⟩ | ⟨g, cp, n, i, last, hat, hin, hn7, c0, c3, l1, l2, hp⟩
    · go_enter Try.func17, Try.ntmps17
      go_wp2_with fail
      refine hat.mono ?_
      rintro e w2 ⟨rfl, rfl⟩
      clear hat
      have S1 := Stp.refl [11, 12] w1 o1
      have J2 := h.out
      obtain ⟨S2, R2, p0', p1', oB2, q4⟩ := know.out _ _ _ S1 J2
      clear q4
      replace S1 := Lib.hid S1
      obtain ⟨q0, q1, J9, S9⟩ := J2.bad
      replace S2 := Lib.hid (S2.trans S9)
      replace J9 := Lib.hid J9
      replace J2 := Lib.hid J2
      clear S9
      replace R2 := Lib.hid R2
      go_wp2
      refine bodyPost_ret (results_tmp2 rfl _ _ _) rfl ?_
      exact Post.mk S2.out ⟨_, rfl, RdB.nil _ _ _, J9.out⟩
    · have z9 : (0 : Int) ≤ (i : Int) ∧ (i : Int) < (n : Int) := by omega
      have z8 : decide ((0 : Int) ≤ (i : Int)) = true := decide_eq_true (by omega)
      rcases hp with ⟨p1, rfl⟩ | ⟨p1, p2, rfl⟩ | ⟨p1, p2, rfl⟩
      · replace p1 : decide (now < last) = true := decide_eq_true p1
        go_enter Try.func17, Try.ntmps17
        go_wp2_with fail
        refine hat.mono ?_
        rintro e w2 ⟨rfl, rfl⟩
        clear hat
        go_wp2_with fail
        refine (xdropJ_calls q s id _ _ h.out (by omega) (by omega)).mono ?_
        rintro e3 w3 ⟨r, o3, rfl, s3, rfl, J2⟩
        have S1 : Stp [11, 12] w1 o1 w3 o3 := s3.mono (by simp)
        clear s3
        obtain ⟨S2, R2, p0', p1', oB2, q4⟩ := know.out _ _ _ S1 J2
        clear q4
        replace S1 := Lib.hid S1
        obtain ⟨q0, q1, J9, S9⟩ := J2.bad
        replace S2 := Lib.hid (S2.trans S9)
        replace J9 := Lib.hid J9
        replace J2 := Lib.hid J2
        clear S9
        replace R2 := Lib.hid R2
        go_wp2
        refine bodyPost_ret (results_tmp2 rfl _ _ _) rfl ?_
        exact Post.mk S2.out ⟨_, rfl, RdB.nil _ _ _, J9.out⟩
      · replace p1 : decide (now < last) = false := decide_eq_false p1
        replace p2 : decide (10 < now - last) = true := decide_eq_true p2
        go_enter Try.func17, Try.ntmps17
        go_wp2_with fail
        refine hat.mono ?_
        rintro e w2 ⟨rfl, rfl⟩
        clear hat
        go_wp2_with fail
        refine (xdropJ_calls q s id _ _ h.out (by omega) (by omega)).mono ?_
        rintro e3 w3 ⟨r, o3, rfl, s3, rfl, J2⟩
        have S1 : Stp [11, 12] w1 o1 w3 o3 := s3.mono (by simp)
        clear s3
        obtain ⟨S2, R2, p0', p1', oB2, q4⟩ := know.out _ _ _ S1 J2
        clear q4
        replace S1 := Lib.hid S1
        obtain ⟨q0, q1, J9, S9⟩ := J2.bad
        replace S2 := Lib.hid (S2.trans S9)
        replace J9 := Lib.hid J9
        replace J2 := Lib.hid J2
        clear S9
        replace R2 := Lib.hid R2
        go_wp2
        refine bodyPost_ret (results_tmp2 rfl _ _ _) rfl ?_
        exact Post.mk S2.out ⟨_, rfl, RdB.nil _ _ _, J9.out⟩
      · replace p1 : decide (now < last) = false := decide_eq_false p1
        replace p2 : decide (10 < now - last) = false := decide_eq_false p2
        go_enter Try.func17, Try.ntmps17
        go_wp2_with fail
        refine hat.mono ?_
        rintro e w2 ⟨rfl, rfl⟩
        clear hat
        have S1 := Stp.refl [11, 12] w1 o1
        have J2 := h.out
        obtain ⟨S2, R2, p0', p1', oB2, q4⟩ := know.out _ _ _ S1 J2
        clear q4
        replace S1 := Lib.hid S1
        obtain ⟨q0, q1, J9, S9⟩ := J2.bad
        replace S2 := Lib.hid (S2.trans S9)
        replace J9 := Lib.hid J9
        replace J2 := Lib.hid J2
        clear S9
        replace R2 := Lib.hid R2
        go_wp2
        refine bodyPost_ret (results_tmp2 rfl _ _ _) rfl ?_
        exact Post.mk S2.out ⟨_, rfl, RdB.nil _ _ _, J9.out⟩
  have he := hk
  clear hk
  by_cases hk : kn = 0 ∧ nn = 0
  · have z0 : ((dl : Int) == 0) = false := by simp; omega
    have z1 : ((kn : Int) == 0) = true := by simp [hk.1]
    have y1 : ((nn : Int) == 0) = true := by simp [hk.2]
    rw [if_neg he, if_pos hk.1, if_pos (.inl hk.2)]
    replace hk := Lib.hid hk
    rcases hpath with ⟨hat, rfl⟩ | ⟨g, cp, n, i, last, hat, hin, hn7, c0, c3, l1, l2, hp⟩
    · go_enter Try.func17, Try.ntmps17
      go_wp2_with fail
      refine hat.mono ?_
      rintro e w2 ⟨rfl, rfl⟩
      clear hat
      have S1 := Stp.refl [11, 12] w1 o1
      have J2 := h.out
      obtain ⟨S2, R2, p0', p1', oB2, q4⟩ := know.out _ _ _ S1 J2
      obtain ⟨a, rfl, q5⟩ := q4 (by omega)
      replace S1 := Lib.hid S1
      obtain ⟨q0, q1, J9, S9⟩ := J2.bad
      replace S2 := Lib.hid (S2.trans S9)
      replace J9 := Lib.hid J9
      replace J2 := Lib.hid J2
      clear S9
      replace R2 := Lib.hid R2
      go_wp2
      refine bodyPost_ret (results_tmp2 rfl _ _ _) rfl ?_
      exact Post.mk S2.out ⟨_, rfl, RdB.nil _ _ _, J9.out⟩
    · have z9 : (0 : Int) ≤ (i : Int) ∧ (i : Int) < (n : Int) := by omega
      have z8 : decide ((0 : Int) ≤ (i : Int)) = true := decide_eq_true (by omega)
      rcases hp with ⟨p1, rfl⟩ | ⟨p1, p2, rfl⟩ | ⟨p1, p2, rfl⟩
      · replace p1 : decide (now < last) = true := decide_eq_true p1
        go_enter Try.func17, Try.ntmps17
        go_wp2_with fail
        refine hat.mono ?_
        rintro e w2 ⟨rfl, rfl⟩
        clear hat
        go_wp2_with fail
        refine (xdropJ_calls q s id _ _ h.out (by omega) (by omega)).mono ?_
        rintro e3 w3 ⟨r, o3, rfl, s3, rfl, J2⟩
        have S1 : Stp [11, 12] w1 o1 w3 o3 := s3.mono (by simp)
        clear s3
        obtain ⟨S2, R2, p0', p1', oB2, q4⟩ := know.out _ _ _ S1 J2
        obtain ⟨a, rfl, q5⟩ := q4 (by omega)
        replace S1 := Lib.hid S1
        obtain ⟨q0, q1, J9, S9⟩ := J2.bad
        replace S2 := Lib.hid (S2.trans S9)
        replace J9 := Lib.hid J9
        replace J2 := Lib.hid J2
        clear S9
        replace R2 := Lib.hid R2
        go_wp2
        refine bodyPost_ret (results_tmp2 rfl _ _ _) rfl ?_
        exact Post.mk S2.out ⟨_, rfl, RdB.nil _ _ _, J9.out⟩
      · replace p1 : decide (now < last) = false := decide_eq_false p1
        replace p2 : decide (10 < now - last) = true := decide_eq_true p2
        go_enter Try.func17, Try.ntmps17
        go_wp2_with fail
        refine hat.mono ?_
        rintro e w2 ⟨rfl, rfl⟩
        clear hat
        go_wp2_with fail
        refine (xdropJ_calls q s id _ _ h.out (by omega) (by omega)).mono ?_
        rintro e3 w3 ⟨r, o3, rfl, s3, rfl, J2⟩
        have S1 : Stp [11, 12] w1 o1 w3 o3 := s3.mono (by simp)
        clear s3
        obtain ⟨S2, R2, p0', p1', oB2, q4⟩ := know.out _ _ _ S1 J2
        obtain ⟨a, rfl, q5⟩ := q4 (by omega)
        replace S1 := Lib.hid S1
        obtain ⟨q0, q1, J9, S9⟩ := J2.bad
        replace S2 := Lib.hid (S2.trans S9)
        replace J9 := Lib.hid J9
        replace J2 := Lib.hid J2
        clear S9
        replace R2 := Lib.hid R2
        go_wp2
        refine bodyPost_ret (results_tmp2 rfl _ _ _) rfl ?_
        exact Post.mk S2.out ⟨_, rfl, RdB.nil _ _ _, J9.out⟩
      · replace p1 : decide (now < last) = false := decide_eq_false p1
        replace p2 : decide (10 < now - last) = false := decide_eq_false p2
        go_enter Try.func17, Try.ntmps17
        go_wp2_with fail
        refine hat.mono ?_
        rintro e w2 ⟨rfl, rfl⟩
        clear hat
        have S1 := Stp.refl [11, 12] w1 o1
        have J2 := h.out
        obtain ⟨S2, R2, p0', p1', oB2, q4⟩ := know.out _ _ _ S1 J2
        obtain ⟨a, rfl, q5⟩ := q4 (by omega)
        replace S1 := Lib.hid S1
        obtain ⟨q0, q1, J9, S9⟩ := J2.bad
        replace S2 := Lib.hid (S2.trans S9)
        replace J9 := Lib.hid J9
        replace J2 := Lib.hid J2
        clear S9
        replace R2 := Lib.hid R2
        go_wp2
        refine bodyPost_ret (results_tmp2 rfl _ _ _) rfl ?_
        exact Post.mk S2.out ⟨_, rfl, RdB.nil _ _ _, J9.out⟩
  have hk00 := hk
  clear hk
  by_cases hk : kn = 0 ∧ dl ≠ 1 + nn
  · have z0 : ((dl : Int) == 0) = false := by simp; omega
    have z1 : ((kn : Int) == 0) = true := by simp [hk.1]
    have y1 : ((nn : Int) == 0) = false := by simp; omega
    have y2 : ((dl : Int) != 1 + (nn : Int)) = true := by simp; omega
    rw [if_neg he, if_pos hk.1, if_pos (.inr hk.2)]
    replace hk := Lib.hid hk
    rcases hpath with ⟨hat, rfl⟩ | ⟨g, cp, n, i, last, hat, hin, hn7, c0, c3, l1, l2, hp⟩
    · go_enter Try.func17, Try.ntmps17
      go_wp2_with fail
      refine hat.mono ?_
      rintro e w2 ⟨rfl, rfl⟩
      clear hat
      have S1 := Stp.refl [11, 12] w1 o1
      have J2 := h.out
      obtain ⟨S2, R2, p0', p1', oB2, q4⟩ := know.out _ _ _ S1 J2
      obtain ⟨a, rfl, q5⟩ := q4 (by omega)
      replace S1 := Lib.hid S1
      obtain ⟨q0, q1, J9, S9⟩ := J2.bad
      replace S2 := Lib.hid (S2.trans S9)
      replace J9 := Lib.hid J9
      replace J2 := Lib.hid J2
      clear S9
      replace R2 := Lib.hid R2
      go_wp2
      refine bodyPost_ret (results_tmp2 rfl _ _ _) rfl ?_
      exact Post.mk S2.out ⟨_, rfl, RdB.nil _ _ _, J9.out⟩
    · have z9 : (0 : Int) ≤ (i : Int) ∧ (i : Int) < (n : Int) := by omega
      have z8 : decide ((0 : Int) ≤ (i : Int)) = true := decide_eq_true (by omega)
      rcases hp with ⟨p1, rfl⟩ | ⟨p1, p2, rfl⟩ | ⟨p1, p2, rfl⟩
      · replace p1 : decide (now < last) = true := decide_eq_true p1
        go_enter Try.func17, Try.ntmps17
        go_wp2_with fail
        refine hat.mono ?_
        rintro e w2 ⟨rfl, rfl⟩
        clear hat
        go_wp2_with fail
        refine (xdropJ_calls q s id _ _ h.out (by omega) (by omega)).mono ?_
        rintro e3 w3 ⟨r, o3, rfl, s3, rfl, J2⟩
        have S1 : Stp [11, 12] w1 o1 w3 o3 := s3.mono (by simp)
        clear s3
        obtain ⟨S2, R2, p0', p1', oB2, q4⟩ := know.out _ _ _ S1 J2
        obtain ⟨a, rfl, q5⟩ := q4 (by omega)
        replace S1 := Lib.hid S1
        obtain ⟨q0, q1, J9, S9⟩ := J2.bad
        replace S2 := Lib.hid (S2.trans S9)
        replace J9 := Lib.hid J9
        replace J2 := Lib.hid J2
        clear S9
        replace R2 := Lib.hid R2
        go_wp2
        refine bodyPost_ret (results_tmp2 rfl _ _ _) rfl ?_
        exact Post.mk S2.out ⟨_, rfl, RdB.nil _ _ _, J9.out⟩
      · replace p1 : decide (now < last) = false := decide_eq_false p1
        replace p2 : decide (10 < now - last) = true := decide_eq_true p2
        go_enter Try.func17, Try.ntmps17
        go_wp2_with fail
        refine hat.mono ?_
        rintro e w2 ⟨rfl, rfl⟩
        clear hat
        go_wp2_with fail
        refine (xdropJ_calls q s id _ _ h.out (by omega) (by omega)).mono ?_
        rintro e3 w3 ⟨r, o3, rfl, s3, rfl, J2⟩
        have S1 : Stp [11, 12] w1 o1 w3 o3 := s3.mono (by simp)
        clear s3
        obtain ⟨S2, R2, p0', p1', oB2, q4⟩ := know.out _ _ _ S1 J2
        obtain ⟨a, rfl, q5⟩ := q4 (by omega)
        replace S1 := Lib.hid S1
        obtain ⟨q0, q1, J9, S9⟩ := J2.bad
        replace S2 := Lib.hid (S2.trans S9)
        replace J9 := Lib.hid J9
        replace J2 := Lib.hid J2
        clear S9
        replace R2 := Lib.hid R2
        go_wp2
        refine bodyPost_ret (results_tmp2 rfl _ _ _) rfl ?_
        exact Post.mk S2.out ⟨_, rfl, RdB.nil _ _ _, J9.out⟩
      · replace p1 : decide (now < last) = false := decide_eq_false p1
        replace p2 : decide (10 < now - last) = false := decide_eq_false p2
        go_enter Try.func17, Try.ntmps17
        go_wp2_with fail
        refine hat.mono ?_
        rintro e w2 ⟨rfl, rfl⟩
        clear hat
        have S1 := Stp.refl [11, 12] w1 o1
        have J2 := h.out
        obtain ⟨S2, R2, p0', p1', oB2, q4⟩ := know.out _ _ _ S1 J2
        obtain ⟨a, rfl, q5⟩ := q4 (by omega)
        replace S1 := Lib.hid S1
        obtain ⟨q0, q1, J9, S9⟩ := J2.bad
        replace S2 := Lib.hid (S2.trans S9)
        replace J9 := Lib.hid J9
        replace J2 := Lib.hid J2
        clear S9
        replace R2 := Lib.hid R2
        go_wp2
        refine bodyPost_ret (results_tmp2 rfl _ _ _) rfl ?_
        exact Post.mk S2.out ⟨_, rfl, RdB.nil _ _ _, J9.out⟩
  have hk01 := hk
  clear hk
  by_cases hk : kn = 0
  · have z0 : ((dl : Int) == 0) = false := by simp; omega
    have z1 : ((kn : Int) == 0) = true := by simp [hk]
    have y1 : ((nn : Int) == 0) = false := by simp; omega
    have y2 : ((dl : Int) != 1 + (nn : Int)) = false := by simp; omega
    have h2 : 2 ≤ dl ∧ dl ≤ 16 := by omega
    rw [if_neg he, if_pos hk, if_neg (by omega)]
    replace hk := Lib.hid hk
    rcases hpath with ⟨hat, rfl⟩ | ⟨g, cp, n, i, last, hat, hin, hn7, c0, c3, l1, l2, hp⟩
    · go_enter Try.func17, Try.ntmps17
      go_wp2_with fail
      refine hat.mono ?_
      rintro e w2 ⟨rfl, rfl⟩
      clear hat
      have S1 := Stp.refl [11, 12] w1 o1
      have J2 := h.out
      obtain ⟨S2, R2, p0', p1', oB2, q4⟩ := know.out _ _ _ S1 J2
      obtain ⟨a, rfl, q5⟩ := q4 (by omega)
      replace S1 := Lib.hid S1
      replace S2 := Lib.hid S2
      replace J2 := Lib.hid J2
      replace R2 := Lib.hid R2
      replace oB2 := Lib.hid oB2
      go_wp2_with fail
      refine (xdropJ_calls q _ id _ _ J2.out (by omega) (by omega)).mono ?_
      rintro e4 w4 ⟨r, o4, rfl, s4, rfl, J4⟩
      have R4 := R2.out.stp s4 (by simp)
      have b4 := s4.cell p1' (by rw [oB2.out]; simp)
      have hdd := hdl.out
      have hcp : 2 ≤ cap := by
        obtain ⟨_, cap', e', hnc, _⟩ := R4.is
        injection e' with _ _ e'
        omega
      have R4d := RdB.drop R4 1 (by omega) (by omega) hdd.symm
      obtain ⟨ec, he1, _, hec⟩ := fresh o4 w4.heap.size [0, 11, 12, 13, 14]
      simp only [List.mem_cons, List.not_mem_nil, or_false, not_or] at he1
      have sa : Stp [ec] w4 o4 (w4.alloc (.cells #[] 5)) (paint o4 w4.heap.size ec) := (Stp.refl [ec] w4 o4).alloc _ ec
      have hx4 := Lib.hid (show OwnB _ _ ec _ [] from Own.newE w4 o4 ec 5 1 w4.heap.size rfl)
      have R4a := Lib.hid (R4d.stp sa (by simp; omega))
      have b5 := sa.cell b4 (by show o4 B ∉ [ec]; rw [(s4.colc p1').trans oB2.out]; simp; omega)
      have S4 := S2.out.trans (s4.mono (by simp) : Stp [11, 12] _ _ _ _)
      replace S4 := Lib.hid S4
      replace J4 := Lib.hid J4
      replace R4 := Lib.hid R4
      replace R4d := Lib.hid R4d
      replace s4 := Lib.hid s4
      replace sa := Lib.hid sa
      replace hec := Lib.hid hec
      go_wp2_with (refine holdAt 101 ?_)
      apply Hold.mk
      refine appB _ _ rfl rfl hx4.out R4a.out rfl rfl (by rw [List.length_drop]; simp; omega) fun A5 cap5 w5 o5 s5 h5 _ _ => ?_
      have st := sa.out.trans s5
      have hl1 : (d.drop 1).length = dl - 1 := by rw [List.length_drop, hdd]
      have hf : RdB w5 (paint o4 w4.heap.size 13) 13 (.slice A5 (dl - 1) cap5) (d.drop 1) := by
        have this := Own.rd (Own.fresh h5 st hec.out 13)
        rw [List.nil_append, List.length_nil, Nat.zero_add, hl1] at this
        unfold RdB
        rw [hl1]
        exact this
      replace hf := Lib.hid hf
      replace hl1 := Lib.hid hl1
      have st' := (st.drop hec.out).repaint 13
      have J5 := Lib.hid (J4.out.stp st' (by simp) (by simp) (by simp))
      have S5 := Lib.hid (S4.out.trans st'.none)
      clear st st' h5 s5
      go_wp2
      refine bodyPost_ret (results_tmp2 rfl _ _ _) rfl ?_
      exact Post.mk S5.out ⟨_, rfl, by rw [← List.drop_one]; exact hf.out, J5.out⟩
    · have z9 : (0 : Int) ≤ (i : Int) ∧ (i : Int) < (n : Int) := by omega
      have z8 : decide ((0 : Int) ≤ (i : Int)) = true := decide_eq_true (by omega)
      rcases hp with ⟨p1, rfl⟩ | ⟨p1, p2, rfl⟩ | ⟨p1, p2, rfl⟩
      · replace p1 : decide (now < last) = true := decide_eq_true p1
        go_enter Try.func17, Try.ntmps17
        go_wp2_with fail
        refine hat.mono ?_
        rintro e w2 ⟨rfl, rfl⟩
        clear hat
        go_wp2_with fail
        refine (xdropJ_calls q s id _ _ h.out (by omega) (by omega)).mono ?_
        rintro e3 w3 ⟨r, o3, rfl, s3, rfl, J2⟩
        have S1 : Stp [11, 12] w1 o1 w3 o3 := s3.mono (by simp)
        clear s3
        obtain ⟨S2, R2, p0', p1', oB2, q4⟩ := know.out _ _ _ S1 J2
        obtain ⟨a, rfl, q5⟩ := q4 (by omega)
        replace S1 := Lib.hid S1
        replace S2 := Lib.hid S2
        replace J2 := Lib.hid J2
        replace R2 := Lib.hid R2
        replace oB2 := Lib.hid oB2
        go_wp2_with fail
        refine (xdropJ_calls q _ id _ _ J2.out (by omega) (by omega)).mono ?_
        rintro e4 w4 ⟨r, o4, rfl, s4, rfl, J4⟩
        have R4 := R2.out.stp s4 (by simp)
        have b4 := s4.cell p1' (by rw [oB2.out]; simp)
        have hdd := hdl.out
        have hcp : 2 ≤ cap := by
          obtain ⟨_, cap', e', hnc, _⟩ := R4.is
          injection e' with _ _ e'
          omega
        have R4d := RdB.drop R4 1 (by omega) (by omega) hdd.symm
        obtain ⟨ec, he1, _, hec⟩ := fresh o4 w4.heap.size [0, 11, 12, 13, 14]
        simp only [List.mem_cons, List.not_mem_nil, or_false, not_or] at he1
        have sa : Stp [ec] w4 o4 (w4.alloc (.cells #[] 5)) (paint o4 w4.heap.size ec) := (Stp.refl [ec] w4 o4).alloc _ ec
        have hx4 := Lib.hid (show OwnB _ _ ec _ [] from Own.newE w4 o4 ec 5 1 w4.heap.size rfl)
        have R4a := Lib.hid (R4d.stp sa (by simp; omega))
        have b5 := sa.cell b4 (by show o4 B ∉ [ec]; rw [(s4.colc p1').trans oB2.out]; simp; omega)
        have S4 := S2.out.trans (s4.mono (by simp) : Stp [11, 12] _ _ _ _)
        replace S4 := Lib.hid S4
        replace J4 := Lib.hid J4
        replace R4 := Lib.hid R4
        replace R4d := Lib.hid R4d
        replace s4 := Lib.hid s4
        replace sa := Lib.hid sa
        replace hec := Lib.hid hec
        go_wp2_with (refine holdAt 101 ?_)
        apply Hold.mk
        refine appB _ _ rfl rfl hx4.out R4a.out rfl rfl (by rw [List.length_drop]; simp; omega) fun A5 cap5 w5 o5 s5 h5 _ _ => ?_
        have st := sa.out.trans s5
        have hl1 : (d.drop 1).length = dl - 1 := by rw [List.length_drop, hdd]
        have hf : RdB w5 (paint o4 w4.heap.size 13) 13 (.slice A5 (dl - 1) cap5) (d.drop 1) := by
          have this := Own.rd (Own.fresh h5 st hec.out 13)
          rw [List.nil_append, List.length_nil, Nat.zero_add, hl1] at this
          unfold RdB
          rw [hl1]
          exact this
        replace hf := Lib.hid hf
        replace hl1 := Lib.hid hl1
        have st' := (st.drop hec.out).repaint 13
        have J5 := Lib.hid (J4.out.stp st' (by simp) (by simp) (by simp))
        have S5 := Lib.hid (S4.out.trans st'.none)
        clear st st' h5 s5
        go_wp2
        refine bodyPost_ret (results_tmp2 rfl _ _ _) rfl ?_
        exact Post.mk S5.out ⟨_, rfl, by rw [← List.drop_one]; exact hf.out, J5.out⟩
      · replace p1 : decide (now < last) = false := decide_eq_false p1
        replace p2 : decide (10 < now - last) = true := decide_eq_true p2
        go_enter Try.func17, Try.ntmps17
        go_wp2_with fail
        refine hat.mono ?_
        rintro e w2 ⟨rfl, rfl⟩
        clear hat
        go_wp2_with fail
        refine (xdropJ_calls q s id _ _ h.out (by omega) (by omega)).mono ?_
        rintro e3 w3 ⟨r, o3, rfl, s3, rfl, J2⟩
        have S1 : Stp [11, 12] w1 o1 w3 o3 := s3.mono (by simp)
        clear s3
        obtain ⟨S2, R2, p0', p1', oB2, q4⟩ := know.out _ _ _ S1 J2
        obtain ⟨a, rfl, q5⟩ := q4 (by omega)
        replace S1 := Lib.hid S1
        replace S2 := Lib.hid S2
        replace J2 := Lib.hid J2
        replace R2 := Lib.hid R2
        replace oB2 := Lib.hid oB2
        go_wp2_with fail
        refine (xdropJ_calls q _ id _ _ J2.out (by omega) (by omega)).mono ?_
        rintro e4 w4 ⟨r, o4, rfl, s4, rfl, J4⟩
        have R4 := R2.out.stp s4 (by simp)
        have b4 := s4.cell p1' (by rw [oB2.out]; simp)
        have hdd := hdl.out
        have hcp : 2 ≤ cap := by
          obtain ⟨_, cap', e', hnc, _⟩ := R4.is
          injection e' with _ _ e'
          omega
        have R4d := RdB.drop R4 1 (by omega) (by omega) hdd.symm
        obtain ⟨ec, he1, _, hec⟩ := fresh o4 w4.heap.size [0, 11, 12, 13, 14]
        simp only [List.mem_cons, List.not_mem_nil, or_false, not_or] at he1
        have sa : Stp [ec] w4 o4 (w4.alloc (.cells #[] 5)) (paint o4 w4.heap.size ec) := (Stp.refl [ec] w4 o4).alloc _ ec
        have hx4 := Lib.hid (show OwnB _ _ ec _ [] from Own.newE w4 o4 ec 5 1 w4.heap.size rfl)
        have R4a := Lib.hid (R4d.stp sa (by simp; omega))
        have b5 := sa.cell b4 (by show o4 B ∉ [ec]; rw [(s4.colc p1').trans oB2.out]; simp; omega)
        have S4 := S2.out.trans (s4.mono (by simp) : Stp [11, 12] _ _ _ _)
        replace S4 := Lib.hid S4
        replace J4 := Lib.hid J4
        replace R4 := Lib.hid R4
        replace R4d := Lib.hid R4d
        replace s4 := Lib.hid s4
        replace sa := Lib.hid sa
        replace hec := Lib.hid hec
        go_wp2_with (refine holdAt 101 ?_)
        apply Hold.mk
        refine appB _ _ rfl rfl hx4.out R4a.out rfl rfl (by rw [List.length_drop]; simp; omega) fun A5 cap5 w5 o5 s5 h5 _ _ => ?_
        have st := sa.out.trans s5
        have hl1 : (d.drop 1).length = dl - 1 := by rw [List.length_drop, hdd]
        have hf : RdB w5 (paint o4 w4.heap.size 13) 13 (.slice A5 (dl - 1) cap5) (d.drop 1) := by
          have this := Own.rd (Own.fresh h5 st hec.out 13)
          rw [List.nil_append, List.length_nil, Nat.zero_add, hl1] at this
          unfold RdB
          rw [hl1]
          exact this
        replace hf := Lib.hid hf
        replace hl1 := Lib.hid hl1
        have st' := (st.drop hec.out).repaint 13
        have J5 := Lib.hid (J4.out.stp st' (by simp) (by simp) (by simp))
        have S5 := Lib.hid (S4.out.trans st'.none)
        clear st st' h5 s5
        go_wp2
        refine bodyPost_ret (results_tmp2 rfl _ _ _) rfl ?_
        exact Post.mk S5.out ⟨_, rfl, by rw [← List.drop_one]; exact hf.out, J5.out⟩
      · replace p1 : decide (now < last) = false := decide_eq_false p1
        replace p2 : decide (10 < now - last) = false := decide_eq_false p2
        go_enter Try.func17, Try.ntmps17
        go_wp2_with fail
        refine hat.mono ?_
        rintro e w2 ⟨rfl, rfl⟩
        clear hat
        have S1 := Stp.refl [11, 12] w1 o1
        have J2 := h.out
        obtain ⟨S2, R2, p0', p1', oB2, q4⟩ := know.out _ _ _ S1 J2
        obtain ⟨a, rfl, q5⟩ := q4 (by omega)
        replace S1 := Lib.hid S1
        replace S2 := Lib.hid S2
        replace J2 := Lib.hid J2
        replace R2 := Lib.hid R2
        replace oB2 := Lib.hid oB2
        go_wp2_with fail
        refine (xdropJ_calls q _ id _ _ J2.out (by omega) (by omega)).mono ?_
        rintro e4 w4 ⟨r, o4, rfl, s4, rfl, J4⟩
        have R4 := R2.out.stp s4 (by simp)
        have b4 := s4.cell p1' (by rw [oB2.out]; simp)
        have hdd := hdl.out
        have hcp : 2 ≤ cap := by
          obtain ⟨_, cap', e', hnc, _⟩ := R4.is
          injection e' with _ _ e'
          omega
        have R4d := RdB.drop R4 1 (by omega) (by omega) hdd.symm
        obtain ⟨ec, he1, _, hec⟩ := fresh o4 w4.heap.size [0, 11, 12, 13, 14]
        simp only [List.mem_cons, List.not_mem_nil, or_false, not_or] at he1
        have sa : Stp [ec] w4 o4 (w4.alloc (.cells #[] 5)) (paint o4 w4.heap.size ec) := (Stp.refl [ec] w4 o4).alloc _ ec
        have hx4 := Lib.hid (show OwnB _ _ ec _ [] from Own.newE w4 o4 ec 5 1 w4.heap.size rfl)
        have R4a := Lib.hid (R4d.stp sa (by simp; omega))
        have b5 := sa.cell b4 (by show o4 B ∉ [ec]; rw [(s4.colc p1').trans oB2.out]; simp; omega)
        have S4 := S2.out.trans (s4.mono (by simp) : Stp [11, 12] _ _ _ _)
        replace S4 := Lib.hid S4
        replace J4 := Lib.hid J4
        replace R4 := Lib.hid R4
        replace R4d := Lib.hid R4d
        replace s4 := Lib.hid s4
        replace sa := Lib.hid sa
        replace hec := Lib.hid hec
        go_wp2_with (refine holdAt 101 ?_)
        apply Hold.mk
        refine appB _ _ rfl rfl hx4.out R4a.out rfl rfl (by rw [List.length_drop]; simp; omega) fun A5 cap5 w5 o5 s5 h5 _ _ => ?_
        have st := sa.out.trans s5
        have hl1 : (d.drop 1).length = dl - 1 := by rw [List.length_drop, hdd]
        have hf : RdB w5 (paint o4 w4.heap.size 13) 13 (.slice A5 (dl - 1) cap5) (d.drop 1) := by
          have this := Own.rd (Own.fresh h5 st hec.out 13)
          rw [List.nil_append, List.length_nil, Nat.zero_add, hl1] at this
          unfold RdB
          rw [hl1]
          exact this
        replace hf := Lib.hid hf
        replace hl1 := Lib.hid hl1
        have st' := (st.drop hec.out).repaint 13
        have J5 := Lib.hid (J4.out.stp st' (by simp) (by simp) (by simp))
        have S5 := Lib.hid (S4.out.trans st'.none)
        clear st st' h5 s5
        go_wp2
        refine bodyPost_ret (results_tmp2 rfl _ _ _) rfl ?_
        exact Post.mk S5.out ⟨_, rfl, by rw [← List.drop_one]; exact hf.out, J5.out⟩
  have hk0 := hk
  clear hk
  by_cases hk : kn = 1
  · have z0 : ((dl : Int) == 0) = false := by simp; omega
    have z1 : ((kn : Int) == 0) = false := by simp; omega
    have z2 : ((kn : Int) == 1) = true := by simp [hk]
    rw [if_neg he, if_neg hk0, if_pos hk]
    replace hk := Lib.hid hk
    rcases hpath with ⟨hat, rfl⟩ | ⟨g, cp, n, i, last, hat, hin, hn7, c0, c3, l1, l2, hp⟩
    · go_enter Try.func17, Try.ntmps17
      go_wp2_with fail
      refine hat.mono ?_
      rintro e w2 ⟨rfl, rfl⟩
      clear hat
      have S1 := Stp.refl [11, 12] w1 o1
      have J2 := h.out
      obtain ⟨S2, R2, p0', p1', oB2, q4⟩ := know.out _ _ _ S1 J2
      obtain ⟨a, rfl, q5⟩ := q4 (by omega)
      replace S1 := Lib.hid S1
      replace S2 := Lib.hid S2
      replace J2 := Lib.hid J2
      replace R2 := Lib.hid R2
      go_wp2_with fail
      refine (xfirst_calls q _ id _ d now _ _ J2.out (by omega) (by omega) R2.out (by have := hdl.out; omega) (by have := hdl.out; omega)).mono ?_
      rintro e w9 ⟨r, o9, rfl, s9, rfl, j9⟩
      have st9 := Lib.hid (S2.out.trans s9)
      replace j9 := Lib.hid j9
      clear s9
      go_wp2
      refine bodyPost_ret (results_tmp2 rfl _ _ _) rfl ?_
      exact Post.mk st9.out ⟨_, rfl, RdB.nil _ _ _, j9.out⟩
    · have z9 : (0 : Int) ≤ (i : Int) ∧ (i : Int) < (n : Int) := by omega
      have z8 : decide ((0 : Int) ≤ (i : Int)) = true := decide_eq_true (by omega)
      rcases hp with ⟨p1, rfl⟩ | ⟨p1, p2, rfl⟩ | ⟨p1, p2, rfl⟩
      · replace p1 : decide (now < last) = true := decide_eq_true p1
        go_enter Try.func17, Try.ntmps17
        go_wp2_with fail
        refine hat.mono ?_
        rintro e w2 ⟨rfl, rfl⟩
        clear hat
        go_wp2_with fail
        refine (xdropJ_calls q s id _ _ h.out (by omega) (by omega)).mono ?_
        rintro e3 w3 ⟨r, o3, rfl, s3, rfl, J2⟩
        have S1 : Stp [11, 12] w1 o1 w3 o3 := s3.mono (by simp)
        clear s3
        obtain ⟨S2, R2, p0', p1', oB2, q4⟩ := know.out _ _ _ S1 J2
        obtain ⟨a, rfl, q5⟩ := q4 (by omega)
        replace S1 := Lib.hid S1
        replace S2 := Lib.hid S2
        replace J2 := Lib.hid J2
        replace R2 := Lib.hid R2
        go_wp2_with fail
        refine (xfirst_calls q _ id _ d now _ _ J2.out (by omega) (by omega) R2.out (by have := hdl.out; omega) (by have := hdl.out; omega)).mono ?_
        rintro e w9 ⟨r, o9, rfl, s9, rfl, j9⟩
        have st9 := Lib.hid (S2.out.trans s9)
        replace j9 := Lib.hid j9
        clear s9
        go_wp2
        refine bodyPost_ret (results_tmp2 rfl _ _ _) rfl ?_
        exact Post.mk st9.out ⟨_, rfl, RdB.nil _ _ _, j9.out⟩
      · replace p1 : decide (now < last) = false := decide_eq_false p1
        replace p2 : decide (10 < now - last) = true := decide_eq_true p2
        go_enter Try.func17, Try.ntmps17
        go_wp2_with fail
        refine hat.mono ?_
        rintro e w2 ⟨rfl, rfl⟩
        clear hat
        go_wp2_with fail
        refine (xdropJ_calls q s id _ _ h.out (by omega) (by omega)).mono ?_
        rintro e3 w3 ⟨r, o3, rfl, s3, rfl, J2⟩
        have S1 : Stp [11, 12] w1 o1 w3 o3 := s3.mono (by simp)
        clear s3
        obtain ⟨S2, R2, p0', p1', oB2, q4⟩ := know.out _ _ _ S1 J2
        obtain ⟨a, rfl, q5⟩ := q4 (by omega)
        replace S1 := Lib.hid S1
        replace S2 := Lib.hid S2
        replace J2 := Lib.hid J2
        replace R2 := Lib.hid R2
        go_wp2_with fail
        refine (xfirst_calls q _ id _ d now _ _ J2.out (by omega) (by omega) R2.out (by have := hdl.out; omega) (by have := hdl.out; omega)).mono ?_
        rintro e w9 ⟨r, o9, rfl, s9, rfl, j9⟩
        have st9 := Lib.hid (S2.out.trans s9)
        replace j9 := Lib.hid j9
        clear s9
        go_wp2
        refine bodyPost_ret (results_tmp2 rfl _ _ _) rfl ?_
        exact Post.mk st9.out ⟨_, rfl, RdB.nil _ _ _, j9.out⟩
      · replace p1 : decide (now < last) = false := decide_eq_false p1
        replace p2 : decide (10 < now - last) = false := decide_eq_false p2
        go_enter Try.func17, Try.ntmps17
        go_wp2_with fail
        refine hat.mono ?_
        rintro e w2 ⟨rfl, rfl⟩
        clear hat
        have S1 := Stp.refl [11, 12] w1 o1
        have J2 := h.out
        obtain ⟨S2, R2, p0', p1', oB2, q4⟩ := know.out _ _ _ S1 J2
        obtain ⟨a, rfl, q5⟩ := q4 (by omega)
        replace S1 := Lib.hid S1
        replace S2 := Lib.hid S2
        replace J2 := Lib.hid J2
        replace R2 := Lib.hid R2
        go_wp2_with fail
        refine (xfirst_calls q _ id _ d now _ _ J2.out (by omega) (by omega) R2.out (by have := hdl.out; omega) (by have := hdl.out; omega)).mono ?_
        rintro e w9 ⟨r, o9, rfl, s9, rfl, j9⟩
        have st9 := Lib.hid (S2.out.trans s9)
        replace j9 := Lib.hid j9
        clear s9
        go_wp2
        refine bodyPost_ret (results_tmp2 rfl _ _ _) rfl ?_
        exact Post.mk st9.out ⟨_, rfl, RdB.nil _ _ _, j9.out⟩
  have hk1 := hk
  clear hk
  by_cases hk : kn = 2
  · have z0 : ((dl : Int) == 0) = false := by simp; omega
    have z1 : ((kn : Int) == 0) = false := by simp; omega
    have z2 : ((kn : Int) == 1) = false := by simp; omega
    have z3 : ((kn : Int) == 2) = true := by simp [hk]
    rw [if_neg he, if_neg hk0, if_neg hk1, if_pos hk]
    replace hk := Lib.hid hk
    rcases hpath with ⟨hat, rfl⟩ | ⟨g, cp, n, i, last, hat, hin, hn7, c0, c3, l1, l2, hp⟩
    · go_enter Try.func17, Try.ntmps17
      go_wp2_with fail
      refine hat.mono ?_
      rintro e w2 ⟨rfl, rfl⟩
      clear hat
      have S1 := Stp.refl [11, 12] w1 o1
      have J2 := h.out
      obtain ⟨S2, R2, p0', p1', oB2, q4⟩ := know.out _ _ _ S1 J2
      obtain ⟨a, rfl, q5⟩ := q4 (by omega)
      replace S1 := Lib.hid S1
      replace S2 := Lib.hid S2
      replace J2 := Lib.hid J2
      replace R2 := Lib.hid R2
      go_wp2_with fail
      refine (xmore_calls q _ id _ d now _ _ J2.out hlo.out (by omega) (by omega) R2.out (by have := hdl.out; omega) (by have := hdl.out; omega)).mono ?_
      rintro e w9 ⟨r, o9, rfl, s9, v9, rfl, r9, j9⟩
      have st9 := Lib.hid (S2.out.trans s9)
      replace r9 := Lib.hid r9
      replace j9 := Lib.hid j9
      clear s9
      go_wp2
      refine bodyPost_ret (results_tmp2 rfl _ _ _) rfl ?_
      exact Post.mk st9.out ⟨_, rfl, r9.out, j9.out⟩
    · have z9 : (0 : Int) ≤ (i : Int) ∧ (i : Int) < (n : Int) := by omega
      have z8 : decide ((0 : Int) ≤ (i : Int)) = true := decide_eq_true (by omega)
      rcases hp with ⟨p1, rfl⟩ | ⟨p1, p2, rfl⟩ | ⟨p1, p2, rfl⟩
      · replace p1 : decide (now < last) = true := decide_eq_true p1
        go_enter Try.func17, Try.ntmps17
        go_wp2_with fail
        refine hat.mono ?_
        rintro e w2 ⟨rfl, rfl⟩
        clear hat
        go_wp2_with fail
        refine (xdropJ_calls q s id _ _ h.out (by omega) (by omega)).mono ?_
        rintro e3 w3 ⟨r, o3, rfl, s3, rfl, J2⟩
        have S1 : Stp [11, 12] w1 o1 w3 o3 := s3.mono (by simp)
        clear s3
        obtain ⟨S2, R2, p0', p1', oB2, q4⟩ := know.out _ _ _ S1 J2
        obtain ⟨a, rfl, q5⟩ := q4 (by omega)
        replace S1 := Lib.hid S1
        replace S2 := Lib.hid S2
        replace J2 := Lib.hid J2
        replace R2 := Lib.hid R2
        go_wp2_with fail
        refine (xmore_calls q _ id _ d now _ _ J2.out hlo.out (by omega) (by omega) R2.out (by have := hdl.out; omega) (by have := hdl.out; omega)).mono ?_
        rintro e w9 ⟨r, o9, rfl, s9, v9, rfl, r9, j9⟩
        have st9 := Lib.hid (S2.out.trans s9)
        replace r9 := Lib.hid r9
        replace j9 := Lib.hid j9
        clear s9
        go_wp2
        refine bodyPost_ret (results_tmp2 rfl _ _ _) rfl ?_
        exact Post.mk st9.out ⟨_, rfl, r9.out, j9.out⟩
      · replace p1 : decide (now < last) = false := decide_eq_false p1
        replace p2 : decide (10 < now - last) = true := decide_eq_true p2
        go_enter Try.func17, Try.ntmps17
        go_wp2_with fail
        refine hat.mono ?_
        rintro e w2 ⟨rfl, rfl⟩
        clear hat
        go_wp2_with fail
        refine (xdropJ_calls q s id _ _ h.out (by omega) (by omega)).mono ?_
        rintro e3 w3 ⟨r, o3, rfl, s3, rfl, J2⟩
        have S1 : Stp [11, 12] w1 o1 w3 o3 := s3.mono (by simp)
        clear s3
        obtain ⟨S2, R2, p0', p1', oB2, q4⟩ := know.out _ _ _ S1 J2
        obtain ⟨a, rfl, q5⟩ := q4 (by omega)
        replace S1 := Lib.hid S1
        replace S2 := Lib.hid S2
        replace J2 := Lib.hid J2
        replace R2 := Lib.hid R2
        go_wp2_with fail
        refine (xmore_calls q _ id _ d now _ _ J2.out hlo.out (by omega) (by omega) R2.out (by have := hdl.out; omega) (by have := hdl.out; omega)).mono ?_
        rintro e w9 ⟨r, o9, rfl, s9, v9, rfl, r9, j9⟩
        have st9 := Lib.hid (S2.out.trans s9)
        replace r9 := Lib.hid r9
        replace j9 := Lib.hid j9
        clear s9
        go_wp2
        refine bodyPost_ret (results_tmp2 rfl _ _ _) rfl ?_
        exact Post.mk st9.out ⟨_, rfl, r9.out, j9.out⟩
      · replace p1 : decide (now < last) = false := decide_eq_false p1
        replace p2 : decide (10 < now - last) = false := decide_eq_false p2
        go_enter Try.func17, Try.ntmps17
        go_wp2_with fail
        refine hat.mono ?_
        rintro e w2 ⟨rfl, rfl⟩
        clear hat
        have S1 := Stp.refl [11, 12] w1 o1
        have J2 := h.out
        obtain ⟨S2, R2, p0', p1', oB2, q4⟩ := know.out _ _ _ S1 J2
        obtain ⟨a, rfl, q5⟩ := q4 (by omega)
        replace S1 := Lib.hid S1
        replace S2 := Lib.hid S2
        replace J2 := Lib.hid J2
        replace R2 := Lib.hid R2
        go_wp2_with fail
        refine (xmore_calls q _ id _ d now _ _ J2.out hlo.out (by omega) (by omega) R2.out (by have := hdl.out; omega) (by have := hdl.out; omega)).mono ?_
        rintro e w9 ⟨r, o9, rfl, s9, v9, rfl, r9, j9⟩
        have st9 := Lib.hid (S2.out.trans s9)
        replace r9 := Lib.hid r9
        replace j9 := Lib.hid j9
        clear s9
        go_wp2
        refine bodyPost_ret (results_tmp2 rfl _ _ _) rfl ?_
        exact Post.mk st9.out ⟨_, rfl, r9.out, j9.out⟩
  have hk2 := hk
  clear hk
  have z0 : ((dl : Int) == 0) = false := by simp; omega
  have z1 : ((kn : Int) == 0) = false := by simp; omega
  have z2 : ((kn : Int) == 1) = false := by simp; omega
  have z3 : ((kn : Int) == 2) = false := by simp; omega
  rw [if_neg he, if_neg hk0, if_neg hk1, if_neg hk2]
  rcases hpath with ⟨hat, rfl⟩ | ⟨g, cp, n, i, last, hat, hin, hn7, c0, c3, l1, l2, hp⟩
  · go_enter Try.func17, Try.ntmps17
    go_wp2_with fail
    refine hat.mono ?_
    rintro e w2 ⟨rfl, rfl⟩
    clear hat
    have S1 := Stp.refl [11, 12] w1 o1
    have J2 := h.out
    obtain ⟨S2, R2, p0', p1', oB2, q4⟩ := know.out _ _ _ S1 J2
    obtain ⟨a, rfl, q5⟩ := q4 (by omega)
    replace S1 := Lib.hid S1
    obtain ⟨q0, q1, J9, S9⟩ := J2.bad
    replace S2 := Lib.hid (S2.trans S9)
    replace J9 := Lib.hid J9
    replace J2 := Lib.hid J2
    clear S9
    replace R2 := Lib.hid R2
    go_wp2
    refine bodyPost_ret (results_tmp2 rfl _ _ _) rfl ?_
    exact Post.mk S2.out ⟨_, rfl, RdB.nil _ _ _, J9.out⟩
  · have z9 : (0 : Int) ≤ (i : Int) ∧ (i : Int) < (n : Int) := by omega
    have z8 : decide ((0 : Int) ≤ (i : Int)) = true := decide_eq_true (by omega)
    rcases hp with ⟨p1, rfl⟩ | ⟨p1, p2, rfl⟩ | ⟨p1, p2, rfl⟩
    · replace p1 : decide (now < last) = true := decide_eq_true p1
      go_enter Try.func17, Try.ntmps17
      go_wp2_with fail
      refine hat.mono ?_
      rintro e w2 ⟨rfl, rfl⟩
      clear hat
      go_wp2_with fail
      refine (xdropJ_calls q s id _ _ h.out (by omega) (by omega)).mono ?_
      rintro e3 w3 ⟨r, o3, rfl, s3, rfl, J2⟩
      have S1 : Stp [11, 12] w1 o1 w3 o3 := s3.mono (by simp)
      clear s3
      obtain ⟨S2, R2, p0', p1', oB2, q4⟩ := know.out _ _ _ S1 J2
      obtain ⟨a, rfl, q5⟩ := q4 (by omega)
      replace S1 := Lib.hid S1
      obtain ⟨q0, q1, J9, S9⟩ := J2.bad
      replace S2 := Lib.hid (S2.trans S9)
      replace J9 := Lib.hid J9
      replace J2 := Lib.hid J2
      clear S9
      replace R2 := Lib.hid R2
      go_wp2
      refine bodyPost_ret (results_tmp2 rfl _ _ _) rfl ?_
      exact Post.mk S2.out ⟨_, rfl, RdB.nil _ _ _, J9.out⟩
    · replace p1 : decide (now < last) = false := decide_eq_false p1
      replace p2 : decide (10 < now - last) = true := decide_eq_true p2
      go_enter Try.func17, Try.ntmps17
      go_wp2_with fail
      refine hat.mono ?_
      rintro e w2 ⟨rfl, rfl⟩
      clear hat
      go_wp2_with fail
      refine (xdropJ_calls q s id _ _ h.out (by omega) (by omega)).mono ?_
      rintro e3 w3 ⟨r, o3, rfl, s3, rfl, J2⟩
      have S1 : Stp [11, 12] w1 o1 w3 o3 := s3.mono (by simp)
      clear s3
      obtain ⟨S2, R2, p0', p1', oB2, q4⟩ := know.out _ _ _ S1 J2
      obtain ⟨a, rfl, q5⟩ := q4 (by omega)
      replace S1 := Lib.hid S1
      obtain ⟨q0, q1, J9, S9⟩ := J2.bad
      replace S2 := Lib.hid (S2.trans S9)
      replace J9 := Lib.hid J9
      replace J2 := Lib.hid J2
      clear S9
      replace R2 := Lib.hid R2
      go_wp2
      refine bodyPost_ret (results_tmp2 rfl _ _ _) rfl ?_
      exact Post.mk S2.out ⟨_, rfl, RdB.nil _ _ _, J9.out⟩
    · replace p1 : decide (now < last) = false := decide_eq_false p1
      replace p2 : decide (10 < now - last) = false := decide_eq_false p2
      go_enter Try.func17, Try.ntmps17
      go_wp2_with fail
      refine hat.mono ?_
      rintro e w2 ⟨rfl, rfl⟩
      clear hat
      have S1 := Stp.refl [11, 12] w1 o1
      have J2 := h.out
      obtain ⟨S2, R2, p0', p1', oB2, q4⟩ := know.out _ _ _ S1 J2
      obtain ⟨a, rfl, q5⟩ := q4 (by omega)
      replace S1 := Lib.hid S1
      obtain ⟨q0, q1, J9, S9⟩ := J2.bad
      replace S2 := Lib.hid (S2.trans S9)
      replace J9 := Lib.hid J9
      replace J2 := Lib.hid J2
      clear S9
      replace R2 := Lib.hid R2
      go_wp2
      refine bodyPost_ret (results_tmp2 rfl _ _ _) rfl ?_
      exact Post.mk S2.out ⟨_, rfl, RdB.nil _ _ _, J9.out⟩

end Go.Proofs.Ytcbecidcfbhkfaa
