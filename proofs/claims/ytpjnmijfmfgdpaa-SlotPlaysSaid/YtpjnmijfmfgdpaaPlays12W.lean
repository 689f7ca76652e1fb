/- SlotPlays: the walk. Printed by wip/plays12gen.py. -/
import Derived.Test.YtpjnmijfmfgdpaaPlays12
import Derived.Deep.RegionHeld3
import Derived.StillTailTactics
namespace Go.Proofs.Ytpjnmijfmfgdpaa
set_option linter.unusedVariables false
set_option linter.unusedSimpArgs false
open Go.RowKit

/-- What an act makes of a flash. -/
def actM (s : FS) (x : ActM) : FS := if x.kind = 1 then (saveS s x.b).1 else if x.kind = 2 then fuseS s x.n x.tear else bootS s
/-- What the loop of SlotPlays keeps. -/
def PmR (w0 : World) (o0 : Col) (C : List Nat) (cx ex p g cap px : Nat) (vP : Value) (vs : List Value) (n : Nat) (x : Value) (wr : World) : Prop :=
  ∃ (k : Nat) (o' : Col) (s : FS), x = .int .i64 k ∧ k ≤ n ∧ Stp C w0 o0 wr o' ∧ Fl wr o' 1 p g cap s ∧ XFl wr o' cx ex px vP vs s
set_option maxHeartbeats 8000000 in
set_option maxRecDepth 100000 in
theorem plays12_law (n : Int) (v : Value) (l : List ActM) (w : World) (_hn : (Lit.int .i64 n).wf = true) (h : ActsM w (fun _ => 0) 0 v l) : Calls Try.prog 7 #[.int .i64 n, v] w (Post [] w (fun _ => 0) fun r _ _ => r = .bool true) := by
  obtain ⟨⟨A, cap0, rfl, hl, hb, hc⟩, hby⟩ := h
  have hA : ActsM w (fun _ => 0) 0 (.slice A l.length cap0) l := ⟨⟨A, cap0, rfl, hl, hb, hc⟩, hby⟩
  replace hc := Lib.hid hc
  go_enter Try.func7, Try.ntmps7
  go_wp2_with fail
  refine (long12_calls 0 _ l w _ hA).mono ?_
  rintro e w' ⟨b, rfl, rfl⟩
  cases b with
  | true =>
    go_wp2
    go_ret
    exact Post.mk (Stp.refl _ _ _) rfl
  | false =>
    by_cases hn30 : 90 < n
    · have g1 : decide (90 < n) = true := decide_eq_true hn30
      go_wp2
      go_ret
      exact Post.mk (Stp.refl _ _ _) rfl
    · have g1 : decide (90 < n) = false := decide_eq_false hn30
      obtain ⟨N, hN⟩ : ∃ N : Nat, (N : Int) = min (max n 1) 256 := ⟨(min (max n 1) 256).toNat, by omega⟩
      go_wp2_with fail
      refine (new_calls 1 n w (fun _ => 0) N hN).mono ?_
      rintro e w1 ⟨r, o1, rfl, s1, p, g, cap, rfl, f1⟩
      obtain ⟨cx, hx1, hx2, hx3⟩ := fresh o1 w1.heap.size [0, 1]
      obtain ⟨ex, he1, he2, he3⟩ := fresh o1 w1.heap.size [0, 1, cx]
      simp only [List.mem_cons, List.not_mem_nil, or_false, not_or] at hx1 he1
      obtain ⟨S0, hS0⟩ : ∃ S0, (⟨List.replicate N blankPage, -1, 0, false⟩ : FS) = S0 := ⟨_, rfl⟩
      rw [hS0] at f1
      replace f1 := Lib.hid f1
      go_wp2_with fail
      refine (xnew_calls cx ex n w1 o1 N hN hx3 he3 (fun e => he1.2.2 e.symm)).mono ?_
      rintro e w2 ⟨r, o2, rfl, s2, px, vP, vs, rfl, x2⟩
      rw [hS0] at x2
      have f2 := Lib.hid (f1.out.stp s2 (by simp))
      have st := Lib.hid (s1.trans s2)
      have A2 := Lib.hid (hA.stp (s1.trans s2) (by simp))
      replace x2 := Lib.hid x2
      replace hx1 := Lib.hid hx1
      replace he1 := Lib.hid he1
      replace hN := Lib.hid hN
      clear s1 s2 hS0 f1 hx3 he3 hn30
      go_wp2_with fail
      go_loopw [7] (PmR w2 o2 [1, cx, ex] cx ex p g cap px vP vs l.length) (fun x _ => l.length - (intOf x).toNat)
      case atStart => exact ⟨0, o2, S0, rfl, Nat.zero_le _, Stp.refl _ _ _, f2.out, x2.out⟩
      case round =>
        obtain ⟨k, o3, s, rfl, hk, hs, f3, x3⟩ := hrel
        have hC0 : ¬ 0 ∈ [1, cx, ex] := by simp; exact ⟨fun e => hx2 e.symm, fun e => he2 e.symm⟩
        have A3 := A2.out.stp hs hC0
        replace hs := Lib.hid hs
        have last : (¬ k < l.length ∨ ¬ k < 20) → Calls Try.prog 20 #[] wr (Post [] w (fun _ => 0) fun r _ _ => r = .bool true) := by
          intro _
          refine (known12_calls wr o3).mono ?_
          rintro e w9 ⟨r, o9, rfl, s9, rfl⟩
          have t := st.out.none.trans (hs.out.trans s9.none)
          exact Post.mk (t.law hC0) rfl
        replace last := Lib.hid last
        by_cases hlt : k < l.length
        · have g2 : decide ((k : Int) < (l.length : Int)) = true := decide_eq_true (by omega)
          by_cases hk80 : k < 20
          · have g3 : decide ((k : Int) < 20) = true := decide_eq_true (by omega)
            have g4 : (0 : Int) ≤ (k : Int) ∧ (k : Int) < (l.length : Int) := by omega
            obtain ⟨⟨A', cap', e1, _, _, hc3⟩, hby3⟩ := A3
            injection e1 with e1 _ cap_eq
            subst e1
            obtain ⟨a, rfl, hab, hcell⟩ := hc3 (by omega)
            obtain ⟨x, hx⟩ : ∃ x, l[k]? = some x := ⟨l[k], by simp [hlt]⟩
            have hcx := hcell k x hx
            obtain ⟨hbx, hnx⟩ := hby3 x (List.mem_of_getElem? hx)
            obtain ⟨kind, vb, b, nn, tear⟩ := x
            dsimp only at hbx hnx
            have q0 : wr.cell? ((a.add (k * 4)).add 0) = some (.int .i64 kind) := by rw [add_add]; exact hcx 0 _ rfl
            have q1 : wr.cell? ((a.add (k * 4)).add 1) = some vb := by rw [add_add]; exact hcx 1 _ rfl
            have q2 : wr.cell? ((a.add (k * 4)).add 2) = some (.int .i64 nn) := by rw [add_add]; exact hcx 2 _ rfl
            have q3 : wr.cell? ((a.add (k * 4)).add 3) = some (.int .i64 tear) := by rw [add_add]; exact hcx 3 _ rfl
            have qb : o3 (a.add (k * 4)).block = 0 := by rw [add_block]; exact hab
            rw [Addr.add_zero'] at q0
            replace q1 : wr.cell? ⟨(a.add (k * 4)).block, (a.add (k * 4)).off + 1, none⟩ = some vb := q1
            replace q2 : wr.cell? ⟨(a.add (k * 4)).block, (a.add (k * 4)).off + 2, none⟩ = some (.int .i64 nn) := q2
            replace q3 : wr.cell? ⟨(a.add (k * 4)).block, (a.add (k * 4)).off + 3, none⟩ = some (.int .i64 tear) := q3
            obtain ⟨A5, cap5, rfl, _, _⟩ := hbx.shape
            have n1 : ¬ (0 : Nat) ∈ [1] := by simp
            have n2 : ¬ (0 : Nat) ∈ [cx, ex] := by simp; exact ⟨fun e => hx2 e.symm, fun e => he2 e.symm⟩
            have n3 : ¬ 1 ∈ [cx, ex] := by simp; exact ⟨fun e => hx1.out.2 e.symm, fun e => he1.out.2.1 e.symm⟩
            have n4 : ¬ cx ∈ [1] := by simpa using hx1.out.2
            have n5 : ¬ ex ∈ [1] := by simpa using he1.out.2.1
            have n7 : ¬ 1 ∈ [ex] := by simpa using fun e => he1.out.2.1 e.symm
            have hce : cx ≠ ex := fun e => he1.out.2.2 e.symm
            have hce := Lib.hid hce
            replace n2 := Lib.hid n2
            replace n3 := Lib.hid n3
            replace n4 := Lib.hid n4
            replace n5 := Lib.hid n5
            replace n7 := Lib.hid n7
            replace qb := Lib.hid qb
            replace hab := Lib.hid hab
            replace hbx := Lib.hid hbx
            replace hcx := Lib.hid hcx
            replace hx := Lib.hid hx
            replace hby := Lib.hid hby
            replace f3 := Lib.hid f3
            replace x3 := Lib.hid x3
            clear hcell hc3 hby3 cap_eq
            have Q1 := Lib.hid q1
            have Q2 := Lib.hid q2
            have Q3 := Lib.hid q3
            by_cases k1 : kind = 1
            · subst k1
              obtain ⟨S', hS'⟩ : ∃ S', (saveS s b).1 = S' := ⟨_, rfl⟩
              obtain ⟨EE, hEE⟩ : ∃ EE, (saveS s b).2 = EE := ⟨_, rfl⟩
              have fd := f3.out.stp (Stp.refl [] wr o3).drew (by simp)
              have xd := x3.out.stp (Stp.refl [] wr o3).drew (by simp) (by simp)
              have bd := hbx.out.stp (Stp.refl [] wr o3).drew (by simp)
              have d1 : wr.drew.cell? ⟨(a.add (k * 4)).block, (a.add (k * 4)).off + 1, none⟩ = some (.slice A5 b.length cap5) := q1
              have sd : Stp [] wr o3 wr.drew o3 := (Stp.refl [] wr o3).drew
              have hcF := fun w' o' (h' : Fl w' o' 1 p g cap s) (h'' : RdB w' o' 0 (.slice A5 b.length cap5) b) => save_any 1 0 p g cap s _ b w' o' h' h'' (by decide)
              have hcX := fun w' o' (h' : XFl w' o' cx ex px vP vs s) (h'' : RdB w' o' 0 (.slice A5 b.length cap5) b) => xsave_calls cx ex 0 px vP vs s _ b w' o' h' h'' (fun e => hx2 e.symm) (fun e => he2 e.symm) hce.out
              rw [hS', hEE] at hcF hcX
              replace fd := Lib.hid fd
              replace xd := Lib.hid xd
              replace bd := Lib.hid bd
              replace sd := Lib.hid sd
              replace hcF := Lib.hid hcF
              replace hcX := Lib.hid hcX
              replace hS' := Lib.hid hS'
              replace hEE := Lib.hid hEE
              go_wp2_with fail
              go_region_held3 (fun w' => w'.cell? ⟨(a.add (k * 4)).block, (a.add (k * 4)).off + 1, none⟩ = some (.slice A5 b.length cap5)) (first | with_reducible exact d1 | with_reducible exact q1 | with_reducible exact e1 | with_reducible exact e4)
                (first
                  | (go_at_call 16
                     refine (hcF.out _ _ fd.out bd.out).mono ?_
                     rintro e wa ⟨ra, oa, rfl, sa, rfl, fN⟩
                     have xC := Lib.hid (xd.out.stp sa n4.out n5.out)
                     have st1 := Lib.hid (sd.out.none.trans (sa.mono (D := [1, cx, ex]) (by simp)))
                     have qq1 : oa (⟨(a.add (k * 4)).block, (a.add (k * 4)).off + 1, none⟩ : Addr).block = 0 := (sa.colc d1).trans qb.out
                     have e1 := sa.cell d1 (by rw [qb.out]; exact n1)
                     have bC := Lib.hid (bd.out.stp sa n1)
                     replace fN := Lib.hid fN
                     replace sa := Lib.hid sa)
                  | (go_at_call 29
                     refine (hcX.out _ _ xC.out bC.out).mono ?_
                     rintro e w4 ⟨rb, o4, rfl, sb, rfl, x4⟩
                     have f4 := Lib.hid (fN.out.stp sb n3.out)
                     have s5 := Lib.hid (hs.out.trans (st1.out.trans (sb.mono (D := [1, cx, ex]) (by simp))))
                     have e4 := sb.cell e1 (by rw [qq1]; exact n2.out)
                     replace x4 := Lib.hid x4
                     replace sb := Lib.hid sb))
              clear d1 e1 e4 q1 q2 q3
              clear q0 Q1 Q2 Q3
              obtain ⟨LD, hLD⟩ : ∃ LD, loadS S' = LD := ⟨_, rfl⟩
              obtain ⟨B, NN, E⟩ := LD
              have hld := load_calls 1 0 p g cap S' w4 o4 f4.out
              rw [hLD] at hld
              dsimp only at hld
              replace hLD := Lib.hid hLD
              go_wp2_with fail
              refine hld.mono ?_
              clear hld
              rintro e w5 ⟨r, o5, rfl, s6, v5, rfl, h5⟩
              have f5 := Lib.hid (f4.out.stp s6 (by simp))
              have x5 := Lib.hid (x4.out.stp s6 (by simp) (by simp))
              have s7 := Lib.hid (s5.out.trans s6.none)
              obtain ⟨A6, cap6, rfl⟩ := Own.shape h5
              have h5' : OwnB w5 o5 0 (.slice A6 B.length cap6) B := h5
              have hld := xload_calls cx ex 0 px vP vs S' w5 o5 x5.out
              rw [hLD.out] at hld
              dsimp only at hld
              replace h5 := Lib.hid h5
              replace h5' := Lib.hid h5'
              clear s6
              go_wp2_with fail
              refine hld.mono ?_
              clear hld
              rintro e w6 ⟨r, o6, rfl, s6, v6, rfl, h6⟩
              have f6 := Lib.hid (f5.out.stp s6 (by simp))
              have x6 := Lib.hid (x5.out.stp s6 (by simp) (by simp))
              have s8 := Lib.hid (s7.out.trans s6.none)
              obtain ⟨A7, cap7, rfl⟩ := Own.shape h6
              have h6' : OwnB w6 o6 0 (.slice A7 B.length cap7) B := h6
              have cv1 := convBS (OwnB.rd (OwnB.stp h5'.out s6 (by simp))) rfl
              have cv2 := convBS (OwnB.rd h6') rfl
              have hal := alike12_calls 1 p g cap cx ex px vP vs S' w6 o6 f6.out x6.out
              replace h6 := Lib.hid h6
              replace h6' := Lib.hid h6'
              clear s6
              go_wp2_with fail
              refine hal.mono ?_
              clear hal
              rintro e w7 ⟨r, o7, rfl, s9, rfl⟩
              have f7 := Lib.hid (f6.out.stp s9 (by simp))
              have x7 := Lib.hid (x6.out.stp s9 (by simp) (by simp))
              have s10 := Lib.hid (s8.out.trans s9.none)
              clear s9 cv1 cv2
              go_wp2
              go_roundw
              case rel => exact ⟨k + 1, o7, S', by go_num, by omega, s10.out, f7.out, x7.out⟩
              case measure => simp [intOf]; omega
            have j1 : (kind == 1) = false := by simpa using k1
            by_cases k2 : kind = 2
            · subst k2
              obtain ⟨S', hS'⟩ : ∃ S', fuseS s nn tear = S' := ⟨_, rfl⟩
              have hcF := fun w' o' (h' : Fl w' o' 1 p g cap s) => fuse_calls 1 p g cap s nn tear w' o' h' hnx
              have hcX := fun w' o' (h' : XFl w' o' cx ex px vP vs s) => xfuse_calls cx ex px vP vs s nn tear w' o' h' hnx
              rw [hS'] at hcF hcX
              replace hcF := Lib.hid hcF
              replace hcX := Lib.hid hcX
              replace hS' := Lib.hid hS'
              have fd := Lib.hid (f3.out.stp (Stp.refl [] wr o3).drew (by simp))
              have xd := Lib.hid (x3.out.stp (Stp.refl [] wr o3).drew (by simp) (by simp))
              have sd : Hid (Stp [1, cx, ex] w2 o2 wr.drew o3) := Lib.hid hs.out.drew
              replace hs := Lib.hid hs
              go_wp2_with fail
              refine wp_region_still_tail 11 (by kernel_rfl) (by kernel_rfl) ?_
              simp only [List.take_succ_cons, List.take_zero, List.drop_succ_cons, List.drop_zero]
              repeat still_step
              refine wpStill_nil ?_
              change wpList _ _ _ _ _ wr.drew
              have q2d : wr.drew.cell? ⟨(a.add (k * 4)).block, (a.add (k * 4)).off + 2, none⟩ = some (.int .i64 nn) := q2
              have q3d : wr.drew.cell? ⟨(a.add (k * 4)).block, (a.add (k * 4)).off + 3, none⟩ = some (.int .i64 tear) := q3
              clear q0 q1 q2 q3 Q1 Q2 Q3
              generalize wr.drew = wd at *
              go_wp2_with fail
              refine (hcF.out _ _ fd.out).mono ?_
              rintro e wa ⟨ra, oa, rfl, sa, rfl, fN⟩
              have q2 := sa.cell q2d (by rw [qb.out]; exact n1)
              have q3 := sa.cell q3d (by rw [qb.out]; exact n1)
              have xC := Lib.hid (xd.out.stp sa n4.out n5.out)
              have s4 := Lib.hid (sd.out.trans (sa.mono (by simp)))
              have fd2 := Lib.hid (fN.stp (Stp.refl [] wa oa).drew (by simp))
              have xd2 := Lib.hid (xC.out.stp (Stp.refl [] wa oa).drew (by simp) (by simp))
              replace fN := Lib.hid fN
              clear sa q2d q3d
              go_wp2_with fail
              refine wp_region_still_tail 11 (by kernel_rfl) (by kernel_rfl) ?_
              simp only [List.take_succ_cons, List.take_zero, List.drop_succ_cons, List.drop_zero]
              repeat still_step
              refine wpStill_nil ?_
              change wpList _ _ _ _ _ wa.drew
              have s4d : Hid (Stp [1, cx, ex] w2 o2 wa.drew oa) := Lib.hid s4.out.drew
              clear q2 q3 s4
              generalize wa.drew = wd2 at *
              go_wp2_with fail
              refine (hcX.out _ _ xd2.out).mono ?_
              rintro e w4 ⟨rb, o4, rfl, sb, rfl, x4⟩
              have f4 := Lib.hid (fd2.out.stp sb n7.out)
              have s5 := Lib.hid (s4d.out.trans (sb.mono (by simp)))
              replace x4 := Lib.hid x4
              clear sb
              obtain ⟨LD, hLD⟩ : ∃ LD, loadS S' = LD := ⟨_, rfl⟩
              obtain ⟨B, NN, E⟩ := LD
              have hld := load_calls 1 0 p g cap S' w4 o4 f4.out
              rw [hLD] at hld
              dsimp only at hld
              replace hLD := Lib.hid hLD
              go_wp2_with fail
              refine hld.mono ?_
              clear hld
              rintro e w5 ⟨r, o5, rfl, s6, v5, rfl, h5⟩
              have f5 := Lib.hid (f4.out.stp s6 (by simp))
              have x5 := Lib.hid (x4.out.stp s6 (by simp) (by simp))
              have s7 := Lib.hid (s5.out.trans s6.none)
              obtain ⟨A6, cap6, rfl⟩ := Own.shape h5
              have h5' : OwnB w5 o5 0 (.slice A6 B.length cap6) B := h5
              have hld := xload_calls cx ex 0 px vP vs S' w5 o5 x5.out
              rw [hLD.out] at hld
              dsimp only at hld
              replace h5 := Lib.hid h5
              replace h5' := Lib.hid h5'
              clear s6
              go_wp2_with fail
              refine hld.mono ?_
              clear hld
              rintro e w6 ⟨r, o6, rfl, s6, v6, rfl, h6⟩
              have f6 := Lib.hid (f5.out.stp s6 (by simp))
              have x6 := Lib.hid (x5.out.stp s6 (by simp) (by simp))
              have s8 := Lib.hid (s7.out.trans s6.none)
              obtain ⟨A7, cap7, rfl⟩ := Own.shape h6
              have h6' : OwnB w6 o6 0 (.slice A7 B.length cap7) B := h6
              have cv1 := convBS (OwnB.rd (OwnB.stp h5'.out s6 (by simp))) rfl
              have cv2 := convBS (OwnB.rd h6') rfl
              have hal := alike12_calls 1 p g cap cx ex px vP vs S' w6 o6 f6.out x6.out
              replace h6 := Lib.hid h6
              replace h6' := Lib.hid h6'
              clear s6
              go_wp2_with fail
              refine hal.mono ?_
              clear hal
              rintro e w7 ⟨r, o7, rfl, s9, rfl⟩
              have f7 := Lib.hid (f6.out.stp s9 (by simp))
              have x7 := Lib.hid (x6.out.stp s9 (by simp) (by simp))
              have s10 := Lib.hid (s8.out.trans s9.none)
              clear s9 cv1 cv2
              go_wp2
              go_roundw
              case rel => exact ⟨k + 1, o7, S', by go_num, by omega, s10.out, f7.out, x7.out⟩
              case measure => simp [intOf]; omega
            · have j2 : (kind == 2) = false := by simpa using k2
              obtain ⟨S', hS'⟩ : ∃ S', bootS s = S' := ⟨_, rfl⟩
              have hcF := fun w' o' (h' : Fl w' o' 1 p g cap s) => boot_calls 1 p g cap s w' o' h'
              have hcX := fun w' o' (h' : XFl w' o' cx ex px vP vs s) => xboot_calls cx ex px vP vs s w' o' h'
              rw [hS'] at hcF hcX
              replace hcF := Lib.hid hcF
              replace hcX := Lib.hid hcX
              replace hS' := Lib.hid hS'
              go_wp2_with fail
              refine (hcF.out _ _ f3.out).mono ?_
              rintro e wa ⟨ra, oa, rfl, sa, rfl, fN⟩
              have xC := Lib.hid (x3.out.stp sa n4.out n5.out)
              have s4 := Lib.hid (hs.out.trans (sa.mono (D := [1, cx, ex]) (by simp)))
              replace fN := Lib.hid fN
              clear sa q1 q2 q3 Q1 Q2 Q3
              go_wp2_with fail
              refine (hcX.out _ _ xC.out).mono ?_
              rintro e w4 ⟨rb, o4, rfl, sb, rfl, x4⟩
              have f4 := Lib.hid (fN.out.stp sb n7.out)
              have s5 := Lib.hid (s4.out.trans (sb.mono (by simp)))
              replace x4 := Lib.hid x4
              clear sb
              clear q0
              obtain ⟨LD, hLD⟩ : ∃ LD, loadS S' = LD := ⟨_, rfl⟩
              obtain ⟨B, NN, E⟩ := LD
              have hld := load_calls 1 0 p g cap S' w4 o4 f4.out
              rw [hLD] at hld
              dsimp only at hld
              replace hLD := Lib.hid hLD
              go_wp2_with fail
              refine hld.mono ?_
              clear hld
              rintro e w5 ⟨r, o5, rfl, s6, v5, rfl, h5⟩
              have f5 := Lib.hid (f4.out.stp s6 (by simp))
              have x5 := Lib.hid (x4.out.stp s6 (by simp) (by simp))
              have s7 := Lib.hid (s5.out.trans s6.none)
              obtain ⟨A6, cap6, rfl⟩ := Own.shape h5
              have h5' : OwnB w5 o5 0 (.slice A6 B.length cap6) B := h5
              have hld := xload_calls cx ex 0 px vP vs S' w5 o5 x5.out
              rw [hLD.out] at hld
              dsimp only at hld
              replace h5 := Lib.hid h5
              replace h5' := Lib.hid h5'
              clear s6
              go_wp2_with fail
              refine hld.mono ?_
              clear hld
              rintro e w6 ⟨r, o6, rfl, s6, v6, rfl, h6⟩
              have f6 := Lib.hid (f5.out.stp s6 (by simp))
              have x6 := Lib.hid (x5.out.stp s6 (by simp) (by simp))
              have s8 := Lib.hid (s7.out.trans s6.none)
              obtain ⟨A7, cap7, rfl⟩ := Own.shape h6
              have h6' : OwnB w6 o6 0 (.slice A7 B.length cap7) B := h6
              have cv1 := convBS (OwnB.rd (OwnB.stp h5'.out s6 (by simp))) rfl
              have cv2 := convBS (OwnB.rd h6') rfl
              have hal := alike12_calls 1 p g cap cx ex px vP vs S' w6 o6 f6.out x6.out
              replace h6 := Lib.hid h6
              replace h6' := Lib.hid h6'
              clear s6
              go_wp2_with fail
              refine hal.mono ?_
              clear hal
              rintro e w7 ⟨r, o7, rfl, s9, rfl⟩
              have f7 := Lib.hid (f6.out.stp s9 (by simp))
              have x7 := Lib.hid (x6.out.stp s9 (by simp) (by simp))
              have s10 := Lib.hid (s8.out.trans s9.none)
              clear s9 cv1 cv2
              go_wp2
              go_roundw
              case rel => exact ⟨k + 1, o7, S', by go_num, by omega, s10.out, f7.out, x7.out⟩
              case measure => simp [intOf]; omega
          · have g3 : decide ((k : Int) < 20) = false := decide_eq_false (by omega)
            clear A3
            replace f3 := Lib.hid f3
            replace x3 := Lib.hid x3
            go_wp2_with fail
            refine (last.out (by omega)).mono ?_
            rintro e w9 ⟨r, o9, rfl, s9, rfl⟩
            replace s9 := Lib.hid s9
            go_wp2
            go_ret
            exact Post.mk s9.out rfl
        · have g2 : decide ((k : Int) < (l.length : Int)) = false := decide_eq_false (by omega)
          clear A3
          replace f3 := Lib.hid f3
          replace x3 := Lib.hid x3
          go_wp2_with fail
          refine (last.out (by omega)).mono ?_
          rintro e w9 ⟨r, o9, rfl, s9, rfl⟩
          replace s9 := Lib.hid s9
          go_wp2
          go_ret
          exact Post.mk s9.out rfl

end Go.Proofs.Ytpjnmijfmfgdpaa
