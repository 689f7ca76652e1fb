/- Messages that are open (chapter 15): the walk of Take. -/
import Derived.Test.YtcbecidcfbhkfaaSegG
namespace Go.Proofs.Ytcbecidcfbhkfaa
set_option linter.unusedVariables false
set_option linter.unusedSimpArgs false
open Go.RowKit Go.ChangeMaps


/-- What is left when a frame comes too late. -/
def lateJ (s : JS) (id : Int) (now : Int) : JS := match s.f id with
  | none => s
  | some e => if now < e.last ∨ 10 < now - e.last then dropJ s id else s
def takeJ (s : JS) (id : Int) (d : List UInt8) (now : Int) : JS × Option (List UInt8) :=
  if d.length = 0 then ((lateJ s id now).bad, none) else if kindN d = 0 then singleJ (lateJ s id now) id d else if kindN d = 1 then (beginJ (lateJ s id now) id d now, none)
  else if kindN d = 2 then goesJ (lateJ s id now) id d now else ((lateJ s id now).bad, none)
theorem lateJ_err (s : JS) (id now : Int) : (lateJ s id now).err ≤ s.err + 1 ∧ (lateJ s id now).cnt ≤ s.cnt := by
  unfold lateJ
  have h1 := dropJ_err s id
  have h2 := dropJ_cnt s id
  split
  · exact ⟨Nat.le_succ _, Nat.le_refl _⟩
  · split
    · exact ⟨h1.2, h2⟩
    · exact ⟨Nat.le_succ _, Nat.le_refl _⟩
theorem dropJ_ok {s : JS} (h : s.ok) (id : Int) : (dropJ s id).ok := by
  intro i e hi
  unfold dropJ at hi
  cases hf : s.f id with
  | none => rw [hf] at hi; exact h i e hi
  | some x =>
    rw [hf] at hi
    by_cases hne : i = id
    · subst hne
      simp [JS.del, JS.bad, upd_same] at hi
    · exact h i e (by rw [← hi]; exact (upd_other _ _ hne).symm)
theorem lateJ_ok {s : JS} (h : s.ok) (id now : Int) : (lateJ s id now).ok := by
  unfold lateJ
  split
  · exact h
  · split
    · exact dropJ_ok h id
    · exact h

set_option maxHeartbeats 8000000 in
set_option maxRecDepth 100000 in
theorem take_calls (c c2 p mb : Nat) (Q : Int → Nat) (V : Int → Value) (s : JS) (id : Int) (vd : Value) (d : List UInt8) (now : Int) (w : World) (o : Col) (h : JFl w o c p mb Q V s) (hok : s.ok) (hw : (Lit.int .i64 id).wf = true) (hb : s.err ≤ 900000) (hcn : s.cnt ≤ 900000)
    (hn1 : -1000000000 ≤ now) (hn2 : now ≤ 1000000000) (hd : RdB w o c2 vd d) (h2 : c2 ≠ c) (hl : d.length ≤ 1000000) :
    Calls Try.prog 16 #[.pointer (some ⟨p, 0, none⟩), .agg #[.int .i64 id, vd], .int .i64 now] w (Post [c] w o fun r w' o' => ∃ v, r = .tuple #[v, .bool (takeJ s id d now).2.isSome] ∧ RdB w' o' c v ((takeJ s id d now).2.getD []) ∧ ∃ Q' V', JFl w' o' c p mb Q' V' (takeJ s id d now).1) := by
  obtain ⟨A, cap, rfl, hlc, hA⟩ := hd.shape
  have s0 : Stp [] w o (w.alloc (.cells #[.int .i64 id, .slice A d.length cap] 37)) (paint o w.heap.size (c + 1)) := (Stp.refl [] w o).alloc _ (c + 1)
  have hB := heap_alloc_new w (.cells #[.int .i64 id, .slice A d.length cap] 37)
  have hO : paint o w.heap.size (c + 1) w.heap.size = c + 1 := paint_at _ _ _
  replace h := h.stp s0 (by simp)
  replace hd := hd.stp s0 (by simp)
  obtain ⟨w1, hw1⟩ : ∃ w1, w.alloc (.cells #[.int .i64 id, .slice A d.length cap] 37) = w1 := ⟨_, rfl⟩
  obtain ⟨o1, ho1⟩ : ∃ o1, paint o w.heap.size (c + 1) = o1 := ⟨_, rfl⟩
  obtain ⟨B, hBB⟩ : ∃ B, w.heap.size = B := ⟨_, rfl⟩
  rw [hw1, ho1] at s0 h hd
  rw [hw1, hBB] at hB
  rw [ho1, hBB] at hO
  have b0 : w1.cell? ⟨B, 0, none⟩ = some (.int .i64 id) := blk_cell hB 0
  have b1 : w1.cell? ⟨B, 1, none⟩ = some (.slice A d.length cap) := blk_cell hB 1
  have c0 := h.c0
  have nB : ¬ (c + 1) ∈ [c] := by simp
  have n2 : ¬ c2 ∈ [c] := by simpa using h2
  have hlk : ∀ k, (Instr.lookup 58 (.map (some mb)) (.int .i64 id) false).run Try.prog (w1.drewN k) = .ok (ptrV Q s.f id) (w1.drewN k) := fun k => JFl.look (h.stp ((Stp.refl [] w1 o1).drewN k) (by simp)) hw
  -- what is known of a world behind the frame's lateness
  have know : ∀ w2 o2 t, Stp [c] w1 o1 w2 o2 → JFl w2 o2 c p mb Q V t → Stp [c] w o w2 o2 ∧ RdB w2 o2 c2 (.slice A d.length cap) d ∧ w2.cell? ⟨B, 0, none⟩ = some (.int .i64 id) ∧ w2.cell? ⟨B, 1, none⟩ = some (.slice A d.length cap) ∧
      w2.cell? ⟨p, 1, none⟩ = some (.int .i64 t.err) ∧ w2.frozen? ⟨p, 1, none⟩ = false ∧ (0 < d.length → ∃ a, A = some a ∧ w2.cell? a = some (.int .u8 ((d.headD 0).toNat : Int))) := by
    intro w2 o2 t st ht
    have hr := hd.stp st n2
    refine ⟨s0.none.trans st, hr, st.cell b0 (by rw [hO]; exact nB), st.cell b1 (by rw [hO]; exact nB), ht.c1, blk_free ht.blk 1, fun h0 => ?_⟩
    obtain ⟨a, e, hc⟩ := hr.at_ h0
    rw [head_at h0, show a.add 0 = a from rfl] at hc
    exact ⟨a, e, hc⟩
  have drawn : ∀ k, Stp [c] w1 o1 (w1.drewN k) o1 ∧ JFl (w1.drewN k) o1 c p mb Q V s := fun k => ⟨(Stp.refl [c] w1 o1).drewN k, h.stp ((Stp.refl [] w1 o1).drewN k) (by simp)⟩
  have hle := lateJ_err s id now
  have hlo := lateJ_ok hok id now
  obtain ⟨t, ht⟩ : ∃ t, lateJ s id now = t := ⟨_, rfl⟩
  rw [ht] at hle hlo
  have hte : t.err ≤ 1000000 := by omega
  have htc : t.cnt ≤ 1000000 := by omega
  have htk : takeJ s id d now = if d.length = 0 then (t.bad, none) else if kindN d = 0 then singleJ t id d else if kindN d = 1 then (beginJ t id d now, none) else if kindN d = 2 then goesJ t id d now else (t.bad, none) := by rw [takeJ, ht]
  rw [htk]
  have hpath : (s.f id = none ∧ t = s) ∨ ∃ e, s.f id = some e ∧ w1.cell? ⟨Q id, 3, none⟩ = some (.int .i64 e.last) ∧ -1000000000 ≤ e.last ∧ e.last ≤ 1000000000 ∧ ((now < e.last ∧ t = dropJ s id) ∨ (¬ now < e.last ∧ 10 < now - e.last ∧ t = dropJ s id) ∨ (¬ now < e.last ∧ ¬ 10 < now - e.last ∧ t = s)) := by
    unfold lateJ at ht
    cases hf : s.f id with
    | none => rw [hf] at ht; exact .inl ⟨rfl, ht.symm⟩
    | some e =>
      rw [hf] at ht
      obtain ⟨g1, _, _⟩ := h.ent id e hf
      obtain ⟨_, _, _, _, _, k6, k7⟩ := hok id e hf
      refine .inr ⟨e, rfl, blk_cell g1 3, k6, k7, ?_⟩
      dsimp only at ht
      by_cases e1 : now < e.last
      · rw [if_pos (.inl e1)] at ht; exact .inl ⟨e1, ht.symm⟩
      · by_cases e2 : 10 < now - e.last
        · rw [if_pos (.inr e2)] at ht; exact .inr (.inl ⟨e1, e2, ht.symm⟩)
        · rw [if_neg (by omega)] at ht; exact .inr (.inr ⟨e1, e2, ht.symm⟩)
  obtain ⟨x, hx0⟩ : ∃ x, d.headD 0 = x := ⟨_, rfl⟩
  have hkd : kindN d = x.toNat / 16 := by rw [kindN, hx0]
  obtain ⟨kn, hkn⟩ : ∃ kn, x.toNat / 16 = kn := ⟨_, rfl⟩
  have hkI : (x.toNat : Int) / 16 = (kn : Int) := by omega
  rw [hkn] at hkd
  rw [hkd]
  rw [hx0] at know
  replace know := Lib.hid know
  replace drawn := Lib.hid drawn
  replace h := Lib.hid h
  replace hd := Lib.hid hd
  replace hO := Lib.hid hO
  replace hB := Lib.hid hB
  replace ho1 := Lib.hid ho1
  replace nB := Lib.hid nB
  replace n2 := Lib.hid n2
  replace s0 := Lib.hid s0
  replace ht := Lib.hid ht
  replace hx0 := Lib.hid hx0
  replace hkn := Lib.hid hkn
  replace hkd := Lib.hid hkd
  replace hlo := Lib.hid hlo
  replace hle := Lib.hid hle
  replace h2 := Lib.hid h2
  have hdl : (0 : Int) ≤ (d.length : Int) ∧ (d.length : Int) ≤ 1000000 := by omega
  clear htk hok
  by_cases hk : d.length = 0
  · have z0n : decide (0 < d.length) = false := decide_eq_false (by omega)
    have z0 : decide ((0 : Int) < (d.length : Int)) = false := decide_eq_false (by omega)
    rw [if_pos hk]
    replace hk := Lib.hid hk
    rcases hpath with ⟨hf, rfl⟩ | ⟨e, hf, k3, l1, l2, hp⟩
    · rw [show ptrV Q t.f id = .pointer none from by rw [ptrV, hf]] at hlk
      replace hf := Lib.hid hf
      go_enter Try.func16, Try.ntmps16
      go_wp2_with fail
      go_quiet (fail)
      obtain ⟨S1, J2⟩ := drawn.out nq
      obtain ⟨S2, R2, q0, q1, q2, q3, q4⟩ := know.out _ _ _ S1 J2
      clear q4
      replace S1 := Lib.hid S1
      obtain ⟨J9, S9⟩ := J2.bad
      replace S2 := Lib.hid (S2.trans S9)
      replace J9 := Lib.hid J9
      replace J2 := Lib.hid J2
      clear S9 R2
      go_wp2
      refine bodyPost_ret (results_tmp2 rfl _ _ _) rfl ?_
      exact Post.mk S2.out ⟨_, rfl, RdB.nil _ _ _, Q, V, J9.out⟩
    · rw [show ptrV Q s.f id = .pointer (some ⟨Q id, 0, none⟩) from by rw [ptrV, hf]] at hlk
      replace hf := Lib.hid hf
      obtain ⟨last, hlast⟩ : ∃ last, e.last = last := ⟨_, rfl⟩
      rw [hlast] at k3 l1 l2 hp
      replace hlast := Lib.hid hlast
      rcases hp with ⟨p1, rfl⟩ | ⟨p1, p2, rfl⟩ | ⟨p1, p2, rfl⟩
      · replace p1 : decide (now < last) = true := decide_eq_true p1
        go_enter Try.func16, Try.ntmps16
        go_wp2_with fail
        go_quiet (fail)
        go_wp2_with fail
        refine (drops_calls c p mb Q V s id _ _ (drawn.out nq).2 hw (by omega)).mono ?_
        rintro e3 w3 ⟨r, o3, rfl, s3, rfl, J2⟩
        have S1 := (drawn.out nq).1.trans s3
        clear s3
        obtain ⟨S2, R2, q0, q1, q2, q3, q4⟩ := know.out _ _ _ S1 J2
        clear q4
        replace S1 := Lib.hid S1
        obtain ⟨J9, S9⟩ := J2.bad
        replace S2 := Lib.hid (S2.trans S9)
        replace J9 := Lib.hid J9
        replace J2 := Lib.hid J2
        clear S9 R2
        go_wp2
        refine bodyPost_ret (results_tmp2 rfl _ _ _) rfl ?_
        exact Post.mk S2.out ⟨_, rfl, RdB.nil _ _ _, Q, V, J9.out⟩
      · replace p1 : decide (now < last) = false := decide_eq_false p1
        replace p2 : decide (10 < now - last) = true := decide_eq_true p2
        go_enter Try.func16, Try.ntmps16
        go_wp2_with fail
        go_quiet (fail)
        go_wp2_with fail
        refine (drops_calls c p mb Q V s id _ _ (drawn.out nq).2 hw (by omega)).mono ?_
        rintro e3 w3 ⟨r, o3, rfl, s3, rfl, J2⟩
        have S1 := (drawn.out nq).1.trans s3
        clear s3
        obtain ⟨S2, R2, q0, q1, q2, q3, q4⟩ := know.out _ _ _ S1 J2
        clear q4
        replace S1 := Lib.hid S1
        obtain ⟨J9, S9⟩ := J2.bad
        replace S2 := Lib.hid (S2.trans S9)
        replace J9 := Lib.hid J9
        replace J2 := Lib.hid J2
        clear S9 R2
        go_wp2
        refine bodyPost_ret (results_tmp2 rfl _ _ _) rfl ?_
        exact Post.mk S2.out ⟨_, rfl, RdB.nil _ _ _, Q, V, J9.out⟩
      · replace p1 : decide (now < last) = false := decide_eq_false p1
        replace p2 : decide (10 < now - last) = false := decide_eq_false p2
        go_enter Try.func16, Try.ntmps16
        go_wp2_with fail
        go_quiet (fail)
        obtain ⟨S1, J2⟩ := drawn.out nq
        obtain ⟨S2, R2, q0, q1, q2, q3, q4⟩ := know.out _ _ _ S1 J2
        clear q4
        replace S1 := Lib.hid S1
        obtain ⟨J9, S9⟩ := J2.bad
        replace S2 := Lib.hid (S2.trans S9)
        replace J9 := Lib.hid J9
        replace J2 := Lib.hid J2
        clear S9 R2
        go_wp2
        refine bodyPost_ret (results_tmp2 rfl _ _ _) rfl ?_
        exact Post.mk S2.out ⟨_, rfl, RdB.nil _ _ _, Q, V, J9.out⟩
  have he := hk
  clear hk
  by_cases hk : kn = 0
  · have z0 : decide ((0 : Int) < (d.length : Int)) = true := decide_eq_true (by omega)
    have z1 : ((kn : Int) == 0) = true := by simp [hk]
    rw [if_neg he, if_pos hk]
    replace hk := Lib.hid hk
    rcases hpath with ⟨hf, rfl⟩ | ⟨e, hf, k3, l1, l2, hp⟩
    · rw [show ptrV Q t.f id = .pointer none from by rw [ptrV, hf]] at hlk
      replace hf := Lib.hid hf
      go_enter Try.func16, Try.ntmps16
      go_wp2_with fail
      go_quiet (fail)
      obtain ⟨S1, J2⟩ := drawn.out nq
      obtain ⟨S2, R2, q0, q1, q2, q3, q4⟩ := know.out _ _ _ S1 J2
      obtain ⟨a, rfl, q5⟩ := q4 (by omega)
      replace S1 := Lib.hid S1
      replace S2 := Lib.hid S2
      replace J2 := Lib.hid J2
      replace R2 := Lib.hid R2
      go_wp2_with fail
      refine (single_calls c c2 p mb Q V _ id _ d _ _ J2.out hw hte R2.out h2.out (by omega) hl).mono ?_
      rintro e w9 ⟨r, o9, rfl, s9, v9, rfl, r9, j9⟩
      have st9 := Lib.hid (S2.out.trans s9)
      replace r9 := Lib.hid r9
      replace j9 := Lib.hid j9
      clear s9
      go_wp2
      refine bodyPost_ret (results_tmp2 rfl _ _ _) rfl ?_
      exact Post.mk st9.out ⟨_, rfl, r9.out, Q, V, j9.out⟩
    · rw [show ptrV Q s.f id = .pointer (some ⟨Q id, 0, none⟩) from by rw [ptrV, hf]] at hlk
      replace hf := Lib.hid hf
      obtain ⟨last, hlast⟩ : ∃ last, e.last = last := ⟨_, rfl⟩
      rw [hlast] at k3 l1 l2 hp
      replace hlast := Lib.hid hlast
      rcases hp with ⟨p1, rfl⟩ | ⟨p1, p2, rfl⟩ | ⟨p1, p2, rfl⟩
      · replace p1 : decide (now < last) = true := decide_eq_true p1
        go_enter Try.func16, Try.ntmps16
        go_wp2_with fail
        go_quiet (fail)
        go_wp2_with fail
        refine (drops_calls c p mb Q V s id _ _ (drawn.out nq).2 hw (by omega)).mono ?_
        rintro e3 w3 ⟨r, o3, rfl, s3, rfl, J2⟩
        have S1 := (drawn.out nq).1.trans s3
        clear s3
        obtain ⟨S2, R2, q0, q1, q2, q3, q4⟩ := know.out _ _ _ S1 J2
        obtain ⟨a, rfl, q5⟩ := q4 (by omega)
        replace S1 := Lib.hid S1
        replace S2 := Lib.hid S2
        replace J2 := Lib.hid J2
        replace R2 := Lib.hid R2
        go_wp2_with fail
        refine (single_calls c c2 p mb Q V _ id _ d _ _ J2.out hw hte R2.out h2.out (by omega) hl).mono ?_
        rintro e w9 ⟨r, o9, rfl, s9, v9, rfl, r9, j9⟩
        have st9 := Lib.hid (S2.out.trans s9)
        replace r9 := Lib.hid r9
        replace j9 := Lib.hid j9
        clear s9
        go_wp2
        refine bodyPost_ret (results_tmp2 rfl _ _ _) rfl ?_
        exact Post.mk st9.out ⟨_, rfl, r9.out, Q, V, j9.out⟩
      · replace p1 : decide (now < last) = false := decide_eq_false p1
        replace p2 : decide (10 < now - last) = true := decide_eq_true p2
        go_enter Try.func16, Try.ntmps16
        go_wp2_with fail
        go_quiet (fail)
        go_wp2_with fail
        refine (drops_calls c p mb Q V s id _ _ (drawn.out nq).2 hw (by omega)).mono ?_
        rintro e3 w3 ⟨r, o3, rfl, s3, rfl, J2⟩
        have S1 := (drawn.out nq).1.trans s3
        clear s3
        obtain ⟨S2, R2, q0, q1, q2, q3, q4⟩ := know.out _ _ _ S1 J2
        obtain ⟨a, rfl, q5⟩ := q4 (by omega)
        replace S1 := Lib.hid S1
        replace S2 := Lib.hid S2
        replace J2 := Lib.hid J2
        replace R2 := Lib.hid R2
        go_wp2_with fail
        refine (single_calls c c2 p mb Q V _ id _ d _ _ J2.out hw hte R2.out h2.out (by omega) hl).mono ?_
        rintro e w9 ⟨r, o9, rfl, s9, v9, rfl, r9, j9⟩
        have st9 := Lib.hid (S2.out.trans s9)
        replace r9 := Lib.hid r9
        replace j9 := Lib.hid j9
        clear s9
        go_wp2
        refine bodyPost_ret (results_tmp2 rfl _ _ _) rfl ?_
        exact Post.mk st9.out ⟨_, rfl, r9.out, Q, V, j9.out⟩
      · replace p1 : decide (now < last) = false := decide_eq_false p1
        replace p2 : decide (10 < now - last) = false := decide_eq_false p2
        go_enter Try.func16, Try.ntmps16
        go_wp2_with fail
        go_quiet (fail)
        obtain ⟨S1, J2⟩ := drawn.out nq
        obtain ⟨S2, R2, q0, q1, q2, q3, q4⟩ := know.out _ _ _ S1 J2
        obtain ⟨a, rfl, q5⟩ := q4 (by omega)
        replace S1 := Lib.hid S1
        replace S2 := Lib.hid S2
        replace J2 := Lib.hid J2
        replace R2 := Lib.hid R2
        go_wp2_with fail
        refine (single_calls c c2 p mb Q V _ id _ d _ _ J2.out hw hte R2.out h2.out (by omega) hl).mono ?_
        rintro e w9 ⟨r, o9, rfl, s9, v9, rfl, r9, j9⟩
        have st9 := Lib.hid (S2.out.trans s9)
        replace r9 := Lib.hid r9
        replace j9 := Lib.hid j9
        clear s9
        go_wp2
        refine bodyPost_ret (results_tmp2 rfl _ _ _) rfl ?_
        exact Post.mk st9.out ⟨_, rfl, r9.out, Q, V, j9.out⟩
  have hk0 := hk
  clear hk
  by_cases hk : kn = 1
  · have z0 : decide ((0 : Int) < (d.length : Int)) = true := decide_eq_true (by omega)
    have z1 : ((kn : Int) == 0) = false := by simp [hk]
    have z2 : ((kn : Int) == 1) = true := by simp [hk]
    rw [if_neg he, if_neg hk0, if_pos hk]
    replace hk := Lib.hid hk
    rcases hpath with ⟨hf, rfl⟩ | ⟨e, hf, k3, l1, l2, hp⟩
    · rw [show ptrV Q t.f id = .pointer none from by rw [ptrV, hf]] at hlk
      replace hf := Lib.hid hf
      go_enter Try.func16, Try.ntmps16
      go_wp2_with fail
      go_quiet (fail)
      obtain ⟨S1, J2⟩ := drawn.out nq
      obtain ⟨S2, R2, q0, q1, q2, q3, q4⟩ := know.out _ _ _ S1 J2
      obtain ⟨a, rfl, q5⟩ := q4 (by omega)
      replace S1 := Lib.hid S1
      replace S2 := Lib.hid S2
      replace J2 := Lib.hid J2
      replace R2 := Lib.hid R2
      go_wp2_with fail
      refine (begins_calls c c2 p mb Q V _ id _ d now _ _ J2.out hw hte htc R2.out h2.out (by omega) hl).mono ?_
      rintro e w9 ⟨r, o9, rfl, s9, rfl, Q9, V9, j9⟩
      have st9 := Lib.hid (S2.out.trans s9)
      replace j9 := Lib.hid j9
      clear s9
      go_wp2
      refine bodyPost_ret (results_tmp2 rfl _ _ _) rfl ?_
      exact Post.mk st9.out ⟨_, rfl, RdB.nil _ _ _, Q9, V9, j9.out⟩
    · rw [show ptrV Q s.f id = .pointer (some ⟨Q id, 0, none⟩) from by rw [ptrV, hf]] at hlk
      replace hf := Lib.hid hf
      obtain ⟨last, hlast⟩ : ∃ last, e.last = last := ⟨_, rfl⟩
      rw [hlast] at k3 l1 l2 hp
      replace hlast := Lib.hid hlast
      rcases hp with ⟨p1, rfl⟩ | ⟨p1, p2, rfl⟩ | ⟨p1, p2, rfl⟩
      · replace p1 : decide (now < last) = true := decide_eq_true p1
        go_enter Try.func16, Try.ntmps16
        go_wp2_with fail
        go_quiet (fail)
        go_wp2_with fail
        refine (drops_calls c p mb Q V s id _ _ (drawn.out nq).2 hw (by omega)).mono ?_
        rintro e3 w3 ⟨r, o3, rfl, s3, rfl, J2⟩
        have S1 := (drawn.out nq).1.trans s3
        clear s3
        obtain ⟨S2, R2, q0, q1, q2, q3, q4⟩ := know.out _ _ _ S1 J2
        obtain ⟨a, rfl, q5⟩ := q4 (by omega)
        replace S1 := Lib.hid S1
        replace S2 := Lib.hid S2
        replace J2 := Lib.hid J2
        replace R2 := Lib.hid R2
        go_wp2_with fail
        refine (begins_calls c c2 p mb Q V _ id _ d now _ _ J2.out hw hte htc R2.out h2.out (by omega) hl).mono ?_
        rintro e w9 ⟨r, o9, rfl, s9, rfl, Q9, V9, j9⟩
        have st9 := Lib.hid (S2.out.trans s9)
        replace j9 := Lib.hid j9
        clear s9
        go_wp2
        refine bodyPost_ret (results_tmp2 rfl _ _ _) rfl ?_
        exact Post.mk st9.out ⟨_, rfl, RdB.nil _ _ _, Q9, V9, j9.out⟩
      · replace p1 : decide (now < last) = false := decide_eq_false p1
        replace p2 : decide (10 < now - last) = true := decide_eq_true p2
        go_enter Try.func16, Try.ntmps16
        go_wp2_with fail
        go_quiet (fail)
        go_wp2_with fail
        refine (drops_calls c p mb Q V s id _ _ (drawn.out nq).2 hw (by omega)).mono ?_
        rintro e3 w3 ⟨r, o3, rfl, s3, rfl, J2⟩
        have S1 := (drawn.out nq).1.trans s3
        clear s3
        obtain ⟨S2, R2, q0, q1, q2, q3, q4⟩ := know.out _ _ _ S1 J2
        obtain ⟨a, rfl, q5⟩ := q4 (by omega)
        replace S1 := Lib.hid S1
        replace S2 := Lib.hid S2
        replace J2 := Lib.hid J2
        replace R2 := Lib.hid R2
        go_wp2_with fail
        refine (begins_calls c c2 p mb Q V _ id _ d now _ _ J2.out hw hte htc R2.out h2.out (by omega) hl).mono ?_
        rintro e w9 ⟨r, o9, rfl, s9, rfl, Q9, V9, j9⟩
        have st9 := Lib.hid (S2.out.trans s9)
        replace j9 := Lib.hid j9
        clear s9
        go_wp2
        refine bodyPost_ret (results_tmp2 rfl _ _ _) rfl ?_
        exact Post.mk st9.out ⟨_, rfl, RdB.nil _ _ _, Q9, V9, j9.out⟩
      · replace p1 : decide (now < last) = false := decide_eq_false p1
        replace p2 : decide (10 < now - last) = false := decide_eq_false p2
        go_enter Try.func16, Try.ntmps16
        go_wp2_with fail
        go_quiet (fail)
        obtain ⟨S1, J2⟩ := drawn.out nq
        obtain ⟨S2, R2, q0, q1, q2, q3, q4⟩ := know.out _ _ _ S1 J2
        obtain ⟨a, rfl, q5⟩ := q4 (by omega)
        replace S1 := Lib.hid S1
        replace S2 := Lib.hid S2
        replace J2 := Lib.hid J2
        replace R2 := Lib.hid R2
        go_wp2_with fail
        refine (begins_calls c c2 p mb Q V _ id _ d now _ _ J2.out hw hte htc R2.out h2.out (by omega) hl).mono ?_
        rintro e w9 ⟨r, o9, rfl, s9, rfl, Q9, V9, j9⟩
        have st9 := Lib.hid (S2.out.trans s9)
        replace j9 := Lib.hid j9
        clear s9
        go_wp2
        refine bodyPost_ret (results_tmp2 rfl _ _ _) rfl ?_
        exact Post.mk st9.out ⟨_, rfl, RdB.nil _ _ _, Q9, V9, j9.out⟩
  have hk1 := hk
  clear hk
  by_cases hk : kn = 2
  · have z0 : decide ((0 : Int) < (d.length : Int)) = true := decide_eq_true (by omega)
    have z1 : ((kn : Int) == 0) = false := by simp [hk]
    have z2 : ((kn : Int) == 1) = false := by simp [hk]
    have z3 : ((kn : Int) == 2) = true := by simp [hk]
    rw [if_neg he, if_neg hk0, if_neg hk1, if_pos hk]
    replace hk := Lib.hid hk
    rcases hpath with ⟨hf, rfl⟩ | ⟨e, hf, k3, l1, l2, hp⟩
    · rw [show ptrV Q t.f id = .pointer none from by rw [ptrV, hf]] at hlk
      replace hf := Lib.hid hf
      go_enter Try.func16, Try.ntmps16
      go_wp2_with fail
      go_quiet (fail)
      obtain ⟨S1, J2⟩ := drawn.out nq
      obtain ⟨S2, R2, q0, q1, q2, q3, q4⟩ := know.out _ _ _ S1 J2
      obtain ⟨a, rfl, q5⟩ := q4 (by omega)
      replace S1 := Lib.hid S1
      replace S2 := Lib.hid S2
      replace J2 := Lib.hid J2
      replace R2 := Lib.hid R2
      go_wp2_with fail
      refine (goes_calls c c2 p mb Q V _ id _ d now _ _ J2.out hlo.out hw hte R2.out h2.out (by omega) hl).mono ?_
      rintro e w9 ⟨r, o9, rfl, s9, v9, rfl, r9, Q9, V9, j9⟩
      have st9 := Lib.hid (S2.out.trans s9)
      replace r9 := Lib.hid r9
      replace j9 := Lib.hid j9
      clear s9
      go_wp2
      refine bodyPost_ret (results_tmp2 rfl _ _ _) rfl ?_
      exact Post.mk st9.out ⟨_, rfl, r9.out, Q9, V9, j9.out⟩
    · rw [show ptrV Q s.f id = .pointer (some ⟨Q id, 0, none⟩) from by rw [ptrV, hf]] at hlk
      replace hf := Lib.hid hf
      obtain ⟨last, hlast⟩ : ∃ last, e.last = last := ⟨_, rfl⟩
      rw [hlast] at k3 l1 l2 hp
      replace hlast := Lib.hid hlast
      rcases hp with ⟨p1, rfl⟩ | ⟨p1, p2, rfl⟩ | ⟨p1, p2, rfl⟩
      · replace p1 : decide (now < last) = true := decide_eq_true p1
        go_enter Try.func16, Try.ntmps16
        go_wp2_with fail
        go_quiet (fail)
        go_wp2_with fail
        refine (drops_calls c p mb Q V s id _ _ (drawn.out nq).2 hw (by omega)).mono ?_
        rintro e3 w3 ⟨r, o3, rfl, s3, rfl, J2⟩
        have S1 := (drawn.out nq).1.trans s3
        clear s3
        obtain ⟨S2, R2, q0, q1, q2, q3, q4⟩ := know.out _ _ _ S1 J2
        obtain ⟨a, rfl, q5⟩ := q4 (by omega)
        replace S1 := Lib.hid S1
        replace S2 := Lib.hid S2
        replace J2 := Lib.hid J2
        replace R2 := Lib.hid R2
        go_wp2_with fail
        refine (goes_calls c c2 p mb Q V _ id _ d now _ _ J2.out hlo.out hw hte R2.out h2.out (by omega) hl).mono ?_
        rintro e w9 ⟨r, o9, rfl, s9, v9, rfl, r9, Q9, V9, j9⟩
        have st9 := Lib.hid (S2.out.trans s9)
        replace r9 := Lib.hid r9
        replace j9 := Lib.hid j9
        clear s9
        go_wp2
        refine bodyPost_ret (results_tmp2 rfl _ _ _) rfl ?_
        exact Post.mk st9.out ⟨_, rfl, r9.out, Q9, V9, j9.out⟩
      · replace p1 : decide (now < last) = false := decide_eq_false p1
        replace p2 : decide (10 < now - last) = true := decide_eq_true p2
        go_enter Try.func16, Try.ntmps16
        go_wp2_with fail
        go_quiet (fail)
        go_wp2_with fail
        refine (drops_calls c p mb Q V s id _ _ (drawn.out nq).2 hw (by omega)).mono ?_
        rintro e3 w3 ⟨r, o3, rfl, s3, rfl, J2⟩
        have S1 := (drawn.out nq).1.trans s3
        clear s3
        obtain ⟨S2, R2, q0, q1, q2, q3, q4⟩ := know.out _ _ _ S1 J2
        obtain ⟨a, rfl, q5⟩ := q4 (by omega)
        replace S1 := Lib.hid S1
        replace S2 := Lib.hid S2
        replace J2 := Lib.hid J2
        replace R2 := Lib.hid R2
        go_wp2_with fail
        refine (goes_calls c c2 p mb Q V _ id _ d now _ _ J2.out hlo.out hw hte R2.out h2.out (by omega) hl).mono ?_
        rintro e w9 ⟨r, o9, rfl, s9, v9, rfl, r9, Q9, V9, j9⟩
        have st9 := Lib.hid (S2.out.trans s9)
        replace r9 := Lib.hid r9
        replace j9 := Lib.hid j9
        clear s9
        go_wp2
        refine bodyPost_ret (results_tmp2 rfl _ _ _) rfl ?_
        exact Post.mk st9.out ⟨_, rfl, r9.out, Q9, V9, j9.out⟩
      · replace p1 : decide (now < last) = false := decide_eq_false p1
        replace p2 : decide (10 < now - last) = false := decide_eq_false p2
        go_enter Try.func16, Try.ntmps16
        go_wp2_with fail
        go_quiet (fail)
        obtain ⟨S1, J2⟩ := drawn.out nq
        obtain ⟨S2, R2, q0, q1, q2, q3, q4⟩ := know.out _ _ _ S1 J2
        obtain ⟨a, rfl, q5⟩ := q4 (by omega)
        replace S1 := Lib.hid S1
        replace S2 := Lib.hid S2
        replace J2 := Lib.hid J2
        replace R2 := Lib.hid R2
        go_wp2_with fail
        refine (goes_calls c c2 p mb Q V _ id _ d now _ _ J2.out hlo.out hw hte R2.out h2.out (by omega) hl).mono ?_
        rintro e w9 ⟨r, o9, rfl, s9, v9, rfl, r9, Q9, V9, j9⟩
        have st9 := Lib.hid (S2.out.trans s9)
        replace r9 := Lib.hid r9
        replace j9 := Lib.hid j9
        clear s9
        go_wp2
        refine bodyPost_ret (results_tmp2 rfl _ _ _) rfl ?_
        exact Post.mk st9.out ⟨_, rfl, r9.out, Q9, V9, j9.out⟩
  have hk2 := hk
  clear hk
  have z0 : decide ((0 : Int) < (d.length : Int)) = true := decide_eq_true (by omega)
  have z1 : ((kn : Int) == 0) = false := by simp; omega
  have z2 : ((kn : Int) == 1) = false := by simp; omega
  have z3 : ((kn : Int) == 2) = false := by simp; omega
  rw [if_neg he, if_neg hk0, if_neg hk1, if_neg hk2]
  rcases hpath with ⟨hf, rfl⟩ | ⟨e, hf, k3, l1, l2, hp⟩
  · rw [show ptrV Q t.f id = .pointer none from by rw [ptrV, hf]] at hlk
    replace hf := Lib.hid hf
    go_enter Try.func16, Try.ntmps16
    go_wp2_with fail
    go_quiet (fail)
    obtain ⟨S1, J2⟩ := drawn.out nq
    obtain ⟨S2, R2, q0, q1, q2, q3, q4⟩ := know.out _ _ _ S1 J2
    obtain ⟨a, rfl, q5⟩ := q4 (by omega)
    replace S1 := Lib.hid S1
    obtain ⟨J9, S9⟩ := J2.bad
    replace S2 := Lib.hid (S2.trans S9)
    replace J9 := Lib.hid J9
    replace J2 := Lib.hid J2
    clear S9 R2
    go_wp2
    refine bodyPost_ret (results_tmp2 rfl _ _ _) rfl ?_
    exact Post.mk S2.out ⟨_, rfl, RdB.nil _ _ _, Q, V, J9.out⟩
  · rw [show ptrV Q s.f id = .pointer (some ⟨Q id, 0, none⟩) from by rw [ptrV, hf]] at hlk
    replace hf := Lib.hid hf
    obtain ⟨last, hlast⟩ : ∃ last, e.last = last := ⟨_, rfl⟩
    rw [hlast] at k3 l1 l2 hp
    replace hlast := Lib.hid hlast
    rcases hp with ⟨p1, rfl⟩ | ⟨p1, p2, rfl⟩ | ⟨p1, p2, rfl⟩
    · replace p1 : decide (now < last) = true := decide_eq_true p1
      go_enter Try.func16, Try.ntmps16
      go_wp2_with fail
      go_quiet (fail)
      go_wp2_with fail
      refine (drops_calls c p mb Q V s id _ _ (drawn.out nq).2 hw (by omega)).mono ?_
      rintro e3 w3 ⟨r, o3, rfl, s3, rfl, J2⟩
      have S1 := (drawn.out nq).1.trans s3
      clear s3
      obtain ⟨S2, R2, q0, q1, q2, q3, q4⟩ := know.out _ _ _ S1 J2
      obtain ⟨a, rfl, q5⟩ := q4 (by omega)
      replace S1 := Lib.hid S1
      obtain ⟨J9, S9⟩ := J2.bad
      replace S2 := Lib.hid (S2.trans S9)
      replace J9 := Lib.hid J9
      replace J2 := Lib.hid J2
      clear S9 R2
      go_wp2
      refine bodyPost_ret (results_tmp2 rfl _ _ _) rfl ?_
      exact Post.mk S2.out ⟨_, rfl, RdB.nil _ _ _, Q, V, J9.out⟩
    · replace p1 : decide (now < last) = false := decide_eq_false p1
      replace p2 : decide (10 < now - last) = true := decide_eq_true p2
      go_enter Try.func16, Try.ntmps16
      go_wp2_with fail
      go_quiet (fail)
      go_wp2_with fail
      refine (drops_calls c p mb Q V s id _ _ (drawn.out nq).2 hw (by omega)).mono ?_
      rintro e3 w3 ⟨r, o3, rfl, s3, rfl, J2⟩
      have S1 := (drawn.out nq).1.trans s3
      clear s3
      obtain ⟨S2, R2, q0, q1, q2, q3, q4⟩ := know.out _ _ _ S1 J2
      obtain ⟨a, rfl, q5⟩ := q4 (by omega)
      replace S1 := Lib.hid S1
      obtain ⟨J9, S9⟩ := J2.bad
      replace S2 := Lib.hid (S2.trans S9)
      replace J9 := Lib.hid J9
      replace J2 := Lib.hid J2
      clear S9 R2
      go_wp2
      refine bodyPost_ret (results_tmp2 rfl _ _ _) rfl ?_
      exact Post.mk S2.out ⟨_, rfl, RdB.nil _ _ _, Q, V, J9.out⟩
    · replace p1 : decide (now < last) = false := decide_eq_false p1
      replace p2 : decide (10 < now - last) = false := decide_eq_false p2
      go_enter Try.func16, Try.ntmps16
      go_wp2_with fail
      go_quiet (fail)
      obtain ⟨S1, J2⟩ := drawn.out nq
      obtain ⟨S2, R2, q0, q1, q2, q3, q4⟩ := know.out _ _ _ S1 J2
      obtain ⟨a, rfl, q5⟩ := q4 (by omega)
      replace S1 := Lib.hid S1
      obtain ⟨J9, S9⟩ := J2.bad
      replace S2 := Lib.hid (S2.trans S9)
      replace J9 := Lib.hid J9
      replace J2 := Lib.hid J2
      clear S9 R2
      go_wp2
      refine bodyPost_ret (results_tmp2 rfl _ _ _) rfl ?_
      exact Post.mk S2.out ⟨_, rfl, RdB.nil _ _ _, Q, V, J9.out⟩

end Go.Proofs.Ytcbecidcfbhkfaa
