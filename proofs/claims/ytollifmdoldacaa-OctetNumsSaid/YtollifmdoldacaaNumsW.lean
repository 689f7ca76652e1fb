/- OctetNums: the walk. -/
import Derived.Test.YtollifmdoldacaaKnown1
import Derived.Test.YtollifmdoldacaaRef1
import Derived.Deep.RegionHeld3
namespace Go.Proofs.Ytollifmdoldacaa
set_option linter.unusedVariables false
set_option linter.unusedSimpArgs false
open Go.RowKit

abbrev c8 : List Nat := [1, 2, 3, 4, 5, 6, 7, 8]
def ONin (w0 : World) (ns : List Int) (p : Nat) (x : Value) (wr : World) : Prop := ∃ (k : Nat) (o' : Col) (v' : Value), x = .int .i64 k ∧ k ≤ ns.length ∧ Stp c8 w0 (fun _ => 0) wr o' ∧ Rr wr o' 7 8 p v' (encs (ns.drop k)) false
set_option maxHeartbeats 1000000 in
set_option maxRecDepth 100000 in
theorem nums_law (v : Value) (ns : List Int) (w : World) (hr : Rd w (fun _ => 0) 0 1 v ns.length (ns.map (.int .i64))) :
    Calls Try.prog 4 #[v] w (Post [] w (fun _ => 0) fun r _ _ => r = .bool true) := by
  obtain ⟨A, cap, rfl, hnc, hA, _⟩ := hr.is
  by_cases hbig : 500 < ns.length
  · go_enter Try.func4, Try.ntmps4
    go_wp2
    go_ret
    exact Post.mk (Stp.refl _ _ _) rfl
  have hel := encs_len ns
  have hsz : (encs ns).length + 1 ≤ 140737488355328 := by omega
  have hsz2 : (encs ns).length ≤ 140737488355328 := by omega
  have hsz3 : 9 * ns.length ≤ 140737488355328 := by omega
  have Hsz := Lib.hid hsz
  have Hsz2 := Lib.hid hsz2
  have Hsz3 := Lib.hid hsz3
  clear hel hsz hsz2 hsz3
  go_enter Try.func4, Try.ntmps4
  go_wp2_with fail
  have s0 : Stp c8 w (fun _ => 0) _ _ := (Stp.refl c8 w (fun _ => 0)).alloc (.cells #[.slice none 0 0] 25) 1
  have a0 : Stp [] w (fun _ => 0) _ _ := (Stp.refl [] w (fun _ => 0)).alloc (.cells #[.slice none 0 0] 25) 1
  refine (wnums_calls 1 0 _ _ _ [] ns _ _ (Wr.new w (fun _ => 0) 1) (hr.stp a0 (by simp)) (by omega) (by have := Hsz3.out; simpa using this)).mono ?_
  rintro e w1 ⟨r, o1, rfl, s1, rfl, v1, hw1⟩
  rw [List.nil_append] at hw1
  have t1 : Stp c8 w (fun _ => 0) w1 o1 := s0.trans (s1.mono (by simp))
  clear s0 a0 s1
  go_wp2_with fail
  refine (wout_calls 1 2 _ _ _ w1 o1 hw1 Hsz2.out).mono ?_
  rintro e w2 ⟨r2, o2, rfl, s2, hb⟩
  have t2 := t1.trans s2.none
  have hw2 := hw1.stp s2 (by simp)
  obtain ⟨A2, cap2, rfl⟩ := Own.shape hb
  clear t1 s2 hw1
  go_wp2_with fail
  refine (rfnums_calls 0 3 _ ns w2 o2 (hr.stp t2 (by simp)) Hsz3.out).mono ?_
  rintro e w3 ⟨r3, o3, rfl, s3, hb3⟩
  have t3 := t2.trans s3.none
  have hw3 := hw2.stp s3 (by simp)
  have hb2 := hb.stp s3 (by simp)
  clear t2 s3 hw2 hb
  go_wp2_with fail
  refine (same_calls 2 3 _ _ _ _ _ _ (OwnB.rd hb2) (OwnB.rd hb3)).mono ?_
  rintro e w4 ⟨r4, o4, rfl, s4, rfl⟩
  rw [beq_self_eq_true]
  have t4 := t3.trans s4.none
  have hw4 := hw3.stp s4 (by simp)
  have hb4 := hb2.stp s4 (by simp)
  clear t3 s4 hw3 hb2 hb3
  go_wp2_with fail
  refine (newreader_calls 2 4 5 (by omega) _ _ w4 o4 (OwnB.rd hb4) Hsz2.out).mono ?_
  rintro e w5 ⟨r5, o5, rfl, s5, p5, v5, rfl, _⟩
  have t5 := t4.trans s5.none
  have hw5 := hw4.stp s5 (by simp)
  have hb5 := hb4.stp s5 (by simp)
  clear t4 s5 hw4 hb4
  go_wp2_with fail
  refine (spoil_calls 2 _ _ w5 o5 hb5 Hsz.out).mono ?_
  rintro e w6 ⟨r6, o6, rfl, s6, rfl⟩
  have t6 : Stp c8 w (fun _ => 0) w6 o6 := t5.trans (s6.mono (by simp))
  have hw6 := hw5.stp s6 (by simp)
  clear t5 s6 hw5 hb5
  go_wp2_with fail
  refine (wout_calls 1 6 _ _ _ w6 o6 hw6 Hsz2.out).mono ?_
  rintro e w7 ⟨r7, o7, rfl, s7, hb7⟩
  have t7 := t6.trans s7.none
  clear t6 s7 hw6
  go_wp2_with fail
  refine (newreader_calls 6 7 8 (by omega) _ _ w7 o7 (OwnB.rd hb7) Hsz2.out).mono ?_
  rintro e w8 ⟨r8, o8, rfl, s8, p8, v8, rfl, hrd⟩
  have t8 := t7.trans s8.none
  clear t7 s8 hb7
  go_wp2_with fail
  go_loopw [6] (ONin w ns p8) (fun i _ => ns.length - (intOf i).toNat)
  case atStart => exact ⟨0, o8, v8, rfl, Nat.zero_le _, t8, hrd⟩
  case round =>
    clear t8 hrd
    obtain ⟨k, o9, v9, rfl, hk, t9, hr9⟩ := hrel
    by_cases hlt : k < ns.length
    · obtain ⟨a, rfl, hcol, hcell⟩ := (hr.stp t9 (by simp)).get' hlt
      have Hcol := Lib.hid hcol
      clear hcol
      have hdrop := List.drop_eq_getElem_cons hlt
      obtain ⟨x, hx⟩ : ∃ x, ns[k] = x := ⟨_, rfl⟩
      rw [hx] at hcell hdrop
      have e1 : encs (ns.drop k) = enc (clamp x) ++ encs (ns.drop (k + 1)) := by rw [hdrop]; simp [encs]
      rw [e1] at hr9
      have E2 := Lib.hid (nNum_enc x (encs (ns.drop (k + 1))) false)
      have Hb9 := Lib.hid (show (enc (clamp x) ++ encs (ns.drop (k + 1))).length ≤ 140737488355328 by
        rw [← e1]
        have h1 := encs_len (ns.drop k)
        have h2 := Hsz3.out
        simp only [List.length_drop] at h1
        omega)
      clear hx hdrop e1
      have hcase : ((x ≤ 0 ∧ ((0 : Int) != if 0 < x then x else 0) = false) ∧ ((clamp x : Nat) : Int) = 0) ∨ (0 < x ∧ x ≤ 4611686018427387904 ∧ ((clamp x : Nat) : Int) = x) ∨ (4611686018427387904 < x ∧ ((clamp x : Nat) : Int) = 4611686018427387904) := by
        by_cases hx0 : 0 < x
        · right; unfold clamp; omega
        · left
          rw [if_neg hx0]
          exact ⟨⟨by omega, rfl⟩, by unfold clamp; omega⟩
      rcases hcase with ⟨⟨hx1, hx0⟩, hx2⟩ | ⟨hx0, hx1, hx2⟩ | ⟨hx1, hx2⟩
      all_goals
        have Hx2 := Lib.hid hx2
        clear hx2
        go_wp2_with fail
        go_region_held3 (fun w' => w'.cell? (a.add k) = some (.int .i64 x)) (first | exact hcella | exact hcell) ((go_at_call 18; refine (rnum_calls 7 8 p8 v9 _ false _ o9 (hr9.stp ((Stp.refl [] wr o9).drew) (by simp) (by simp)) Hb9.out).mono ?_; rintro e wa ⟨ra, oa, rfl, sa, rfl, va, ha⟩; rw [E2.out] at ha ⊢; rw [Hx2.out]; have hcella := sa.cell hcell (by rw [Hcol.out]; decide)))
        all_goals
          clear hcell
          go_wp2
          go_roundw
          case rel => exact ⟨k + 1, _, _, by go_num, hlt, t9.trans ((Stp.refl c8 wr o9).drew.trans (sa.mono (by simp))), ha⟩
          case measure => simp [intOf]; omega
    · have hk' : k = ns.length := by omega
      subst hk'
      have e1 : encs (ns.drop ns.length) = [] := by simp [encs]
      rw [e1] at hr9
      go_wp2_with fail
      refine (rgood_calls 7 8 p8 v9 [] false wr o9 hr9).mono ?_
      rintro e wa ⟨rfl, rfl⟩
      go_wp2_with fail
      refine (rwhole_calls 7 8 p8 v9 [] false wr o9 hr9).mono ?_
      rintro e wa ⟨rfl, rfl⟩
      go_wp2_with fail
      refine (known1_calls wr o9).mono ?_
      rintro e wa ⟨ra, oa, rfl, sa, rfl⟩
      go_wp2
      go_ret
      exact Post.mk ((t9.trans sa.none).law (by simp)) rfl
end Go.Proofs.Ytollifmdoldacaa
