/- SegTakes: the walk. -/
import Derived.Test.YtcbecidcfbhkfaaKnown15
import Derived.Test.YtcbecidcfbhkfaaRead15
import Derived.Test.YtcbecidcfbhkfaaXJe
namespace Go.Proofs.Ytcbecidcfbhkfaa
set_option linter.unusedVariables false
set_option linter.unusedSimpArgs false
open Go.RowKit Go.ChangeMaps

theorem and31 (n : Int) : bits .and .i64 n 31 = n % 32 := by
  have hm : (BitVec.ofInt 64 31).toNat = 2 ^ 5 - 1 := by decide
  have key : (BitVec.ofInt 64 n &&& BitVec.ofInt 64 31).toNat = (n % ((2 ^ 64 : Nat) : Int)).toNat % 2 ^ 5 := by
    rw [BitVec.toNat_and, BitVec.toNat_ofInt, hm, Nat.and_two_pow_sub_one_eq_mod]
  show IntKind.i64.wrap ((BitVec.ofInt 64 n &&& BitVec.ofInt 64 31).toNat : Nat) = n % 32
  rw [key, IntKind.wrap_i64]
  omega
/-- A new Join of the document's. -/
theorem XJ.new (w : World) (o : Col) : XJ (w.alloc (.cells #[.slice none 0 0, .int .i64 0] 44)) (paint o w.heap.size 11) w.heap.size noJ :=
  ⟨_, [], ⟨heap_alloc_new _ _, paint_at _ _ _, Own.nil _ _ _ _ _, by simp⟩, XRel.nil⟩

/-- What the loop of SegTakes keeps. -/
def TkJ (w0 : World) (o0 : Col) (p mb q n : Nat) (x y : Value) (wr : World) : Prop :=
  ∃ (k : Nat) (now : Int) (o' : Col) (Q : Int → Nat) (V : Int → Value) (s : JS), x = .int .i64 now ∧ y = .int .i64 k ∧ k ≤ n ∧ k ≤ 200 ∧ 0 ≤ now ∧ now ≤ 31 * k ∧ Stp [1, 11, 12] w0 o0 wr o' ∧ JFl wr o' 1 p mb Q V s ∧ XJ wr o' q s ∧ s.ok ∧ s.err ≤ 2 * k ∧ s.cnt ≤ k

set_option maxHeartbeats 8000000 in
set_option maxRecDepth 100000 in
theorem segTakes_law (v : Value) (l : List ActF) (w : World) (h : Acts15 w (fun _ => 0) 0 v l) : Calls Try.prog 6 #[v] w (Post [] w (fun _ => 0) fun r _ _ => r = .bool true) := by
  obtain ⟨A, cap, rfl, hlc, hbig, hrow⟩ := h
  replace hrow := Lib.hid hrow
  go_enter Try.func6, Try.ntmps6
  go_wp2_with fail
  refine (newJ_calls 1 w (fun _ => 0)).mono ?_
  rintro e w1 ⟨r, o1, rfl, s1, p, mb, rfl, j1⟩
  have sx : Stp [] w1 o1 (w1.alloc (.cells #[.slice none 0 0, .int .i64 0] 44)) (paint o1 w1.heap.size 11) := (Stp.refl [] w1 o1).alloc _ 11
  have x1 := Lib.hid (XJ.new w1 o1)
  replace j1 := Lib.hid (j1.stp sx (by simp))
  replace s1 := Lib.hid (s1.trans sx)
  clear sx
  go_wp2_with fail
  go_loopw [5, 6] (TkJ (w1.alloc (.cells #[.slice none 0 0, .int .i64 0] 44)) (paint o1 w1.heap.size 11) p mb w1.heap.size l.length) (fun _ y _ => l.length - (intOf y).toNat)
  case atStart => exact ⟨0, 0, _, _, _, noJ, rfl, rfl, Nat.zero_le _, by omega, by omega, by omega, Stp.refl _ _ _, j1.out, x1.out, noJ_ok, by show 0 ≤ _; omega, by show 0 ≤ _; omega⟩
  case round =>
    obtain ⟨k, now, o2, Q, V, s, rfl, rfl, hk, hk2, hn1, hn2, hs, hj, hx, hok, he, hc⟩ := hrel
    have st := Lib.hid (s1.out.none.trans hs)
    have fin : Calls Try.prog 14 #[] wr (Post [] w (fun _ => 0) fun r _ _ => r = .bool true) := by
      refine (known15_calls wr o2).mono ?_
      rintro e w9 ⟨r, o9, rfl, s9, rfl⟩
      exact Post.mk ((st.out.trans s9.none).law (by simp)) rfl
    replace fin := Lib.hid fin
    by_cases hlt : k < l.length
    · have g1 : decide ((k : Int) < (l.length : Int)) = true := decide_eq_true (by omega)
      by_cases hk200 : k < 200
      · have g2 : decide ((k : Int) < 200) = true := decide_eq_true (by omega)
        have g3 : (0 : Int) ≤ (k : Int) ∧ (k : Int) < (l.length : Int) := by omega
        obtain ⟨x, hxl⟩ : ∃ x, l[k]? = some x := ⟨l[k], by simp [hlt]⟩
        obtain ⟨wi, wl, a, vd, rfl, ha, d0, d1, d2, hr⟩ := hrow.out k x hxl
        have c0 := st.out.cell d0 (by simp)
        have c1 := st.out.cell d1 (by simp)
        have c2 := st.out.cell d2 (by simp)
        have hr2 := hr.stp st.out (by simp)
        obtain ⟨Av, capv, rfl, _, _⟩ := hr2.shape
        rw [← add_add] at c1 c2
        change wr.cell? ⟨(a.add (k * 3)).block, (a.add (k * 3)).off + 1, none⟩ = _ at c1
        change wr.cell? ⟨(a.add (k * 3)).block, (a.add (k * 3)).off + 2, none⟩ = _ at c2
        have ha2 : o2 (a.add (k * 3)).block = 0 := st.out.colc d0
        clear d0 d1 d2
        replace hr := Lib.hid hr
        replace hr2 := Lib.hid hr2
        replace hs := Lib.hid hs
        replace hj := Lib.hid hj
        replace hx := Lib.hid hx
        replace hok := Lib.hid hok
        replace hxl := Lib.hid hxl
        replace ha := Lib.hid ha
        by_cases h30 : 30 < x.d.length
        · have g4 : decide ((30 : Int) < (x.d.length : Int)) = true := decide_eq_true (by omega)
          go_wp2
          go_roundw
          case rel => exact ⟨k + 1, now, o2, Q, V, s, rfl, by go_num, by omega, by omega, hn1, by omega, hs.out, hj.out, hx.out, hok.out, by omega, by omega⟩
          case measure => simp [intOf]; omega
        · have g4 : decide ((30 : Int) < (x.d.length : Int)) = false := decide_eq_false (by omega)
          have hla := and31 x.later
          obtain ⟨la, hla2⟩ : ∃ la, x.later % 32 = la := ⟨_, rfl⟩
          have hl32 : 0 ≤ la ∧ la < 32 := by omega
          rw [hla2] at hla
          replace hla2 := Lib.hid hla2
          -- printed
          go_wp2_with fail
          · obtain ⟨T, hT⟩ : ∃ T, takeJ s x.id x.d (now + la - 2) = T := ⟨_, rfl⟩
            have T1 := takeJ_ok hok.out x.id x.d (now + la - 2) (by omega) (by omega)
            have T2 := takeJ_err s x.id x.d (now + la - 2)
            have tk := take_calls 1 0 p mb Q V s x.id _ x.d (now + la - 2) _ _ hj.out hok.out wi (by omega) (by omega) (by omega) (by omega) hr2.out (by decide) (by omega)
            rw [hT] at T1 T2 tk
            refine tk.mono ?_
            rintro e w4 ⟨r, o4, rfl, s4, v4, rfl, r4, Q4, V4, j4⟩
            clear tk
            obtain ⟨A4, cap4, rfl, _, _⟩ := r4.shape
            have d0 := s4.cell c0 (by rw [ha2]; simp)
            have d1 := s4.cell c1 (by show o2 (a.add (k * 3)).block ∉ [1]; rw [ha2]; simp)
            have hr4 := hr2.out.stp s4 (by simp)
            have x4 := hx.out.stp s4 (by simp) (by simp) (by simp)
            replace r4 := Lib.hid r4
            replace j4 := Lib.hid j4
            replace x4 := Lib.hid x4
            replace hr4 := Lib.hid hr4
            replace s4 := Lib.hid s4
            replace T1 := Lib.hid T1
            clear c0 c1 c2
            go_wp2_with fail
            have tk := xtake_calls w1.heap.size s x.id _ x.d (now + la - 2) _ _ x4.out hok.out (by omega) (by omega) (by omega) (by omega) hr4.out (by omega)
            rw [hT] at tk
            replace hT := Lib.hid hT
            refine tk.mono ?_
            rintro e w5 ⟨r, o5, rfl, s5, v5, rfl, r5, x5⟩
            clear tk
            obtain ⟨A5, cap5, rfl, _, _⟩ := r5.shape
            obtain ⟨vL, L, jL, rL⟩ := x5
            have rr := r4.out.stp s5 (by simp)
            have j5 := j4.out.stp s5 (by simp)
            have st5 := hs.out.trans ((s4.out.mono (by simp) : Stp [1, 11, 12] _ _ _ _).trans (s5.mono (by simp)))
            obtain ⟨M, hM⟩ : ∃ M, T.2.getD [] = M := ⟨_, rfl⟩
            obtain ⟨bb, hbb⟩ : ∃ bb, T.2.isSome = bb := ⟨_, rfl⟩
            rw [hM] at rr r5
            rw [hM, hbb]
            have q1 : (bb != bb) = false := by cases bb <;> rfl
            have hjn := Lib.hid (fun n => j5.stp ((Stp.refl [] w5 o5).drewN n) (by simp))
            have hLn := Lib.hid (fun n => jL.stp ((Stp.refl [] w5 o5).drewN n) (by simp) (by simp) (by simp))
            have cv1 : ∀ n, (convert 22 9 (.slice A4 M.length cap4)).run Try.prog (w5.drewN n) = .ok (.string ⟨M.toArray⟩) (w5.drewN n) := fun n => convBS (rr.stp ((Stp.refl [] w5 o5).drewN n) (by simp)) rfl
            have cv2 : ∀ n, (convert 22 9 (.slice A5 M.length cap5)).run Try.prog (w5.drewN n) = .ok (.string ⟨M.toArray⟩) (w5.drewN n) := fun n => convBS (r5.stp ((Stp.refl [] w5 o5).drewN n) (by simp)) rfl
            have e1 : w5.cell? ⟨w1.heap.size, 1, none⟩ = some (.int .i64 T.1.err) := jL.c1
            have hLc := rL.2.1
            obtain ⟨E, hE⟩ : ∃ E, T.1.err = E := ⟨_, rfl⟩
            obtain ⟨N, hN⟩ : ∃ N, T.1.cnt = N := ⟨_, rfl⟩
            rw [hE] at e1 T2
            rw [hN] at hLc T2
            have q2 : ((E : Int) != (E : Int)) = false := by simp
            have q3 : ((N : Int) != (N : Int)) = false := by simp
            replace rL := Lib.hid rL
            replace jL := Lib.hid jL
            replace j5 := Lib.hid j5
            replace rr := Lib.hid rr
            replace r5 := Lib.hid r5
            replace st5 := Lib.hid st5
            replace s5 := Lib.hid s5
            replace hM := Lib.hid hM
            replace hbb := Lib.hid hbb
            replace hE := Lib.hid hE
            replace hN := Lib.hid hN
            replace hLc := Lib.hid hLc
            clear d0 d1
            go_wp2_with fail
            go_quiet (first
              | (go_at_call 18
                 exact Calls.quiet_of_same ((errors_calls 1 p mb Q4 V4 _ _ o5 (hjn.out _)).mono (fun _ _ h => ⟨h.1.trans (by rw [hE.out]), h.2.symm⟩)))
              | (go_at_call 19
                 exact Calls.quiet_of_same ((open_calls 1 p mb Q4 V4 _ _ o5 (hjn.out _)).mono (fun _ _ h => ⟨h.1.trans (by rw [hN.out]), h.2.symm⟩)))
              | (go_at_call 20
                 exact Calls.quiet_of_same ((xopen_calls _ _ _ _ _ o5 (hLn.out _)).mono (fun _ _ h => ⟨h.1.trans (by rw [← hLc.out]), h.2.symm⟩))))
            go_wp2
            go_roundw
            case rel => exact ⟨k + 1, (now + la - 2), o5, Q4, V4, T.1, rfl, by go_num, by omega, by omega, by omega, by omega, st5.out.drewN _, hjn.out _, ⟨vL, L, hLn.out _, rL.out⟩, T1.out, by rw [hE.out]; omega, by rw [hN.out]; omega⟩
            case measure => simp [intOf]; omega
          · obtain ⟨T, hT⟩ : ∃ T, takeJ s x.id x.d 0 = T := ⟨_, rfl⟩
            have T1 := takeJ_ok hok.out x.id x.d 0 (by omega) (by omega)
            have T2 := takeJ_err s x.id x.d 0
            have tk := take_calls 1 0 p mb Q V s x.id _ x.d 0 _ _ hj.out hok.out wi (by omega) (by omega) (by omega) (by omega) hr2.out (by decide) (by omega)
            rw [hT] at T1 T2 tk
            refine tk.mono ?_
            rintro e w4 ⟨r, o4, rfl, s4, v4, rfl, r4, Q4, V4, j4⟩
            clear tk
            obtain ⟨A4, cap4, rfl, _, _⟩ := r4.shape
            have d0 := s4.cell c0 (by rw [ha2]; simp)
            have d1 := s4.cell c1 (by show o2 (a.add (k * 3)).block ∉ [1]; rw [ha2]; simp)
            have hr4 := hr2.out.stp s4 (by simp)
            have x4 := hx.out.stp s4 (by simp) (by simp) (by simp)
            replace r4 := Lib.hid r4
            replace j4 := Lib.hid j4
            replace x4 := Lib.hid x4
            replace hr4 := Lib.hid hr4
            replace s4 := Lib.hid s4
            replace T1 := Lib.hid T1
            clear c0 c1 c2
            go_wp2_with fail
            have tk := xtake_calls w1.heap.size s x.id _ x.d 0 _ _ x4.out hok.out (by omega) (by omega) (by omega) (by omega) hr4.out (by omega)
            rw [hT] at tk
            replace hT := Lib.hid hT
            refine tk.mono ?_
            rintro e w5 ⟨r, o5, rfl, s5, v5, rfl, r5, x5⟩
            clear tk
            obtain ⟨A5, cap5, rfl, _, _⟩ := r5.shape
            obtain ⟨vL, L, jL, rL⟩ := x5
            have rr := r4.out.stp s5 (by simp)
            have j5 := j4.out.stp s5 (by simp)
            have st5 := hs.out.trans ((s4.out.mono (by simp) : Stp [1, 11, 12] _ _ _ _).trans (s5.mono (by simp)))
            obtain ⟨M, hM⟩ : ∃ M, T.2.getD [] = M := ⟨_, rfl⟩
            obtain ⟨bb, hbb⟩ : ∃ bb, T.2.isSome = bb := ⟨_, rfl⟩
            rw [hM] at rr r5
            rw [hM, hbb]
            have q1 : (bb != bb) = false := by cases bb <;> rfl
            have hjn := Lib.hid (fun n => j5.stp ((Stp.refl [] w5 o5).drewN n) (by simp))
            have hLn := Lib.hid (fun n => jL.stp ((Stp.refl [] w5 o5).drewN n) (by simp) (by simp) (by simp))
            have cv1 : ∀ n, (convert 22 9 (.slice A4 M.length cap4)).run Try.prog (w5.drewN n) = .ok (.string ⟨M.toArray⟩) (w5.drewN n) := fun n => convBS (rr.stp ((Stp.refl [] w5 o5).drewN n) (by simp)) rfl
            have cv2 : ∀ n, (convert 22 9 (.slice A5 M.length cap5)).run Try.prog (w5.drewN n) = .ok (.string ⟨M.toArray⟩) (w5.drewN n) := fun n => convBS (r5.stp ((Stp.refl [] w5 o5).drewN n) (by simp)) rfl
            have e1 : w5.cell? ⟨w1.heap.size, 1, none⟩ = some (.int .i64 T.1.err) := jL.c1
            have hLc := rL.2.1
            obtain ⟨E, hE⟩ : ∃ E, T.1.err = E := ⟨_, rfl⟩
            obtain ⟨N, hN⟩ : ∃ N, T.1.cnt = N := ⟨_, rfl⟩
            rw [hE] at e1 T2
            rw [hN] at hLc T2
            have q2 : ((E : Int) != (E : Int)) = false := by simp
            have q3 : ((N : Int) != (N : Int)) = false := by simp
            replace rL := Lib.hid rL
            replace jL := Lib.hid jL
            replace j5 := Lib.hid j5
            replace rr := Lib.hid rr
            replace r5 := Lib.hid r5
            replace st5 := Lib.hid st5
            replace s5 := Lib.hid s5
            replace hM := Lib.hid hM
            replace hbb := Lib.hid hbb
            replace hE := Lib.hid hE
            replace hN := Lib.hid hN
            replace hLc := Lib.hid hLc
            clear d0 d1
            go_wp2_with fail
            go_quiet (first
              | (go_at_call 18
                 exact Calls.quiet_of_same ((errors_calls 1 p mb Q4 V4 _ _ o5 (hjn.out _)).mono (fun _ _ h => ⟨h.1.trans (by rw [hE.out]), h.2.symm⟩)))
              | (go_at_call 19
                 exact Calls.quiet_of_same ((open_calls 1 p mb Q4 V4 _ _ o5 (hjn.out _)).mono (fun _ _ h => ⟨h.1.trans (by rw [hN.out]), h.2.symm⟩)))
              | (go_at_call 20
                 exact Calls.quiet_of_same ((xopen_calls _ _ _ _ _ o5 (hLn.out _)).mono (fun _ _ h => ⟨h.1.trans (by rw [← hLc.out]), h.2.symm⟩))))
            go_wp2
            go_roundw
            case rel => exact ⟨k + 1, 0, o5, Q4, V4, T.1, rfl, by go_num, by omega, by omega, by omega, by omega, st5.out.drewN _, hjn.out _, ⟨vL, L, hLn.out _, rL.out⟩, T1.out, by rw [hE.out]; omega, by rw [hN.out]; omega⟩
            case measure => simp [intOf]; omega
      · have g2 : decide ((k : Int) < 200) = false := decide_eq_false (by omega)
        replace hs := Lib.hid hs
        replace hj := Lib.hid hj
        replace hx := Lib.hid hx
        replace hok := Lib.hid hok
        go_wp2_with fail
        refine fin.out.mono ?_
        rintro e w9 ⟨r, o9, rfl, s9, rfl⟩
        replace s9 := Lib.hid s9
        go_wp2
        go_ret
        exact Post.mk s9.out rfl
    · have g1 : decide ((k : Int) < (l.length : Int)) = false := decide_eq_false (by omega)
      replace hs := Lib.hid hs
      replace hj := Lib.hid hj
      replace hx := Lib.hid hx
      replace hok := Lib.hid hok
      go_wp2_with fail
      refine fin.out.mono ?_
      rintro e w9 ⟨r, o9, rfl, s9, rfl⟩
      replace s9 := Lib.hid s9
      go_wp2
      go_ret
      exact Post.mk s9.out rfl
end Go.Proofs.Ytcbecidcfbhkfaa
