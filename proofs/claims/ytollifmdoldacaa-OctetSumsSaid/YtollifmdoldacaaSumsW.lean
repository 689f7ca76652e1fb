/- OctetSums: the walk. -/
import Derived.Test.YtollifmdoldacaaKnown1
import Derived.Test.YtollifmdoldacaaLaw1b
import Derived.Test.YtollifmdoldacaaJoin
namespace Go.Proofs.Ytollifmdoldacaa
set_option linter.unusedVariables false
set_option linter.unusedSimpArgs false
open Go.RowKit

def SwIn (w0 : World) (o0 : Col) (ls : List (List UInt8)) (y x : Value) (wr : World) : Prop := ∃ (k : Nat) (o' : Col), x = .int .i64 k ∧ k ≤ ls.length ∧ Stp [2] w0 o0 wr o' ∧ OwnB wr o' 2 y (ls.take k).flatten
set_option maxHeartbeats 2000000 in
set_option maxRecDepth 100000 in
theorem sums_law (v : Value) (ls : List (List UInt8)) (at_ : Int) (by_ : UInt8) (w : World) (hr : RdRows w (fun _ => 0) 0 0 v ls) (hat : (Lit.int .i64 at_).wf = true) :
    Calls Try.prog 5 #[v, .int .i64 at_, .int .u8 (by_.toNat : Int)] w (Post [] w (fun _ => 0) fun r _ _ => r = .bool true) := by
  obtain ⟨A, cap, rfl, hnc, hA⟩ := hr.shape
  have hbn : ls.length ≤ 9223372036854775807 := by obtain ⟨_, _, h, _⟩ := hr; exact h.big
  cases hv : heavyGo 0 ls with
  | true =>
    go_enter Try.func5, Try.ntmps5
    go_wp2_with fail
    refine (heavy_calls 0 0 _ ls w _ hr).mono ?_
    rintro e w1 ⟨rfl, rfl⟩
    rw [hv]
    go_wp2
    go_ret
    exact Post.mk (Stp.refl _ _ _) rfl
  | false =>
  have hsum := heavy_sum ls 0 (by omega) hv
  have hlen : lens ls ≤ 4000 ∧ ls.length ≤ 4000 := by
    have : ∀ l : List (List UInt8), lens l ≤ (l.map fun l => l.length + 3).sum ∧ l.length ≤ (l.map fun l => l.length + 3).sum := by
      intro l
      induction l with
      | nil => simp [lens]
      | cons a l ih => simp only [lens, List.map_cons, List.sum_cons, List.length_cons] at *; omega
    have := this ls
    omega
  obtain ⟨hl1, hl2⟩ := hlen
  have Hl1 := Lib.hid hl1
  clear hsum hbn hl1
  go_enter Try.func5, Try.ntmps5
  go_wp2_with fail
  refine (heavy_calls 0 0 _ ls w _ hr).mono ?_
  rintro e w1 ⟨rfl, rfl⟩
  rw [hv]
  clear hv
  go_wp2_with fail
  refine (join_calls 0 0 1 _ ls w _ hr (by have := Hl1.out; omega) (by omega)).mono ?_
  rintro e w1 ⟨r, o1, rfl, s1, h1⟩
  have hr1 := hr.stp s1 (by simp) (by simp)
  obtain ⟨L, hL⟩ : ∃ L, ls.flatten = L := ⟨_, rfl⟩
  rw [hL] at h1
  have HL := Lib.hid hL
  have hLl : L.length ≤ 4000 := by have := Hl1.out; rw [← hL, lens_flat]; exact this
  clear hL
  obtain ⟨A1, cap1, rfl⟩ := Own.shape h1
  go_wp2_with fail
  go_loopw [8, 9] (SwIn w1 o1 ls) (fun _ i _ => ls.length - (intOf i).toNat)
  case atStart => exact ⟨0, o1, rfl, Nat.zero_le _, Stp.refl _ _ _, OwnB.nil _ _ _⟩
  case round =>
    obtain ⟨k, o2, rfl, hk, s2, h2⟩ := hrel
    obtain ⟨P, hP⟩ : ∃ P, (ls.take k).flatten = P := ⟨_, rfl⟩
    rw [hP] at h2
    have HP := Lib.hid hP
    clear hP
    obtain ⟨A2, cap2, rfl⟩ := Own.shape h2
    by_cases hlt : k < ls.length
    · have hr2 := hr1.stp s2 (by simp) (by simp)
      obtain ⟨a, uv, r, rfl, hcell, hrd, Hr⟩ := hr2.get hlt
      have e1 : ls.take (k + 1) = ls.take k ++ [r] := by rw [List.take_succ_eq_append_getElem hlt, Hr.out]
      have E1 := Lib.hid (show (ls.take (k + 1)).flatten = P ++ r by rw [e1, ← HP.out]; simp)
      have Hbd := Lib.hid (show P.length + r.length ≤ 140737488355328 by
        have h1 := lens_take ls (k + 1)
        rw [e1, lens_snoc] at h1
        rw [← HP.out, lens_flat]
        have := Hl1.out
        omega)
      clear e1
      go_wp2_with (refine holdAt 26 ?_)
      apply Hold.mk
      refine appB _ _ rfl rfl h2 hrd rfl rfl Hbd.out fun A' cap' w' o' h3 h4 _ h5 => ?_
      clear hcell
      go_wp2
      go_roundw
      case rel => exact ⟨k + 1, _, by go_num, hlt, s2.trans h3, by rw [E1.out]; exact h4⟩
      case measure => simp [intOf]; omega
    · have hk' : k = ls.length := by omega
      subst hk'
      have hP2 : P = L := by rw [← HP.out, List.take_length, HL.out]
      subst hP2
      clear HP
      have hr2 := hr1.stp s2 (by simp) (by simp)
      have h12 := h1.stp s2 (by simp)
      have s3 : Stp [1, 2] w (fun _ => 0) wr o2 := (s1.none).trans (s2.mono (by simp))
      clear s1 s2 hr1 h1
      go_wp2_with fail
      refine (sum_calls 0 0 _ ls wr o2 hr2).mono ?_
      rintro e w2 ⟨rfl, rfl⟩
      rw [HL.out]
      obtain ⟨cr, hcr⟩ : ∃ cr, crc P = cr := ⟨_, rfl⟩
      rw [hcr]
      have Hcr := Lib.hid hcr
      clear hcr
      go_wp2_with fail
      refine (same_calls 1 2 _ _ _ _ _ _ (OwnB.rd h12) (OwnB.rd h2)).mono ?_
      rintro e w3 ⟨r, o3, rfl, s4, rfl⟩
      rw [beq_self_eq_true]
      have h3 := h2.stp s4 (by simp)
      have s5 := s3.trans s4.none
      clear s3 s4 h12 h2 hr2
      go_wp2_with fail
      refine (rsum_calls 2 _ _ w3 o3 (OwnB.rd h3)).mono ?_
      rintro e w4 ⟨rfl, rfl⟩
      rw [Hcr.out]
      go_wp2_with fail
      have b1 := RdRows.new1 w3 o3 3 2 _ _ 23 _ rfl (OwnB.rd h3)
      refine (sum_calls 3 2 _ [P] _ _ b1).mono ?_
      rintro e w5 ⟨rfl, rfl⟩
      rw [show ([P] : List (List UInt8)).flatten = P by simp, Hcr.out]
      obtain ⟨o4, s6, h4⟩ : ∃ o4, Stp [1, 2] w (fun _ => 0) (w3.alloc (.cells #[.slice A2 P.length cap2] 23)) o4 ∧ OwnB (w3.alloc (.cells #[.slice A2 P.length cap2] 23)) o4 2 (.slice A2 P.length cap2) P := ⟨_, s5.alloc _ 3, h3.stp ((Stp.refl [] w3 o3).alloc _ 3) (by simp)⟩
      generalize w3.alloc (.cells #[.slice A2 P.length cap2] 23) = w5 at *
      clear s5 h3 b1
      have fin : ∀ W O, Stp [1, 2] w (fun _ => 0) W O → Post [] w (fun _ => 0) (fun r _ _ => r = .bool true) (.returned (.bool true)) W := fun W O s => Post.mk (s.law (by simp)) rfl
      by_cases hpos : 0 < P.length ∧ by_ ≠ 0
      · obtain ⟨hp, hby⟩ := hpos
        have hb0 : ((by_.toNat : Int) != 0) = true := by
          rw [bne_iff_ne]
          intro e
          exact hby (UInt8.toNat_inj.1 (by simp; omega))
        obtain ⟨q, hq, hrem⟩ := place30 at_ P.length hp
        obtain ⟨g, rfl, hc, hf, hst⟩ := h4.store hq
        obtain ⟨h5, s7⟩ := hst (P[q] ^^^ by_)
        have hne := xor8_ne P[q] by_ hby
        have hxor := xor8 P[q] by_
        have hcrc : crc (P.set q (P[q] ^^^ by_)) ≠ cr := by
          intro e
          rw [← Hcr.out] at e
          have e1 : P = P.take q ++ P[q] :: P.drop (q + 1) := by rw [List.getElem_cons_drop]; simp
          rw [List.set_eq_take_append_cons_drop, if_pos hq] at e
          have e2 : crc (P.take q ++ (P[q] ^^^ by_) :: P.drop (q + 1)) = crc (P.take q ++ P[q] :: P.drop (q + 1)) := by rw [← e1]; exact e
          exact hne (crc_one _ _ _ _ e2)
        obtain ⟨cr2, hcr2⟩ : ∃ x, crc (P.set q (P[q] ^^^ by_)) = x := ⟨_, rfl⟩
        rw [hcr2] at hcrc
        have hcne : ((cr2 : Int) == (cr : Int)) = false := by rw [beq_eq_false_iff_ne]; omega
        obtain ⟨y, hy⟩ : ∃ y, P[q] ^^^ by_ = y := ⟨_, rfl⟩
        obtain ⟨x, hx⟩ : ∃ x, P[q] = x := ⟨_, rfl⟩
        rw [hy] at h5 s7 hcr2 hxor
        rw [hx] at hxor hc
        have Hcr2 := Lib.hid hcr2
        have Hcne := Lib.hid hcne
        have Fin := Lib.hid fin
        clear hst hne hcrc hcr2 hy hx hcne fin
        have hi0 : (0 : Int) ≤ (q : Int) := by omega
        have hi1 : (q : Int) < (P.length : Int) := by omega
        go_wp2_with fail
        have b2 := RdRows.new1 _ o4 3 2 _ _ 23 w5.heap.size (by simp) (OwnB.rd h5)
        obtain ⟨o6, s8⟩ : ∃ o6, Stp [1, 2] w (fun _ => 0) ((w5.setCell ⟨g, q, none⟩ (.int .u8 (y.toNat : Int))).alloc (.cells #[.slice (some ⟨g, 0, none⟩) P.length cap2] 23)) o6 := ⟨_, (s6.trans (s7.mono (by simp))).alloc (.cells #[.slice (some ⟨g, 0, none⟩) P.length cap2] 23) 3⟩
        refine (sum_calls 3 2 _ [P.set q y] _ _ b2).mono ?_
        rintro e w6 ⟨rfl, rfl⟩
        rw [show ([P.set q y] : List (List UInt8)).flatten = P.set q y by simp, Hcr2.out]
        have hcq := Hcne.out
        clear hc hf hxor hrem h5 s7 b2
        go_wp2_with fail
        refine (known1_calls _ o6).mono ?_
        rintro e w7 ⟨r7, o7, rfl, s9, rfl⟩
        clear hcq
        go_wp2
        go_ret
        exact Fin.out _ _ (s8.trans s9.none)
      · have hcase : P.length = 0 ∨ (0 < P.length ∧ ((by_.toNat : Int) != 0) = false) := by
          by_cases hp : 0 < P.length
          · right
            have : by_ = 0 := by
              apply Classical.byContradiction
              intro hb
              exact hpos ⟨hp, hb⟩
            subst this
            exact ⟨hp, rfl⟩
          · left; omega
        clear hpos
        rcases hcase with h0 | ⟨hp, hb0⟩
        all_goals
          have Fin := Lib.hid fin
          clear fin
          go_wp2_with fail
          refine (known1_calls w5 o4).mono ?_
          rintro e w6 ⟨r6, o6, rfl, s7, rfl⟩
          go_wp2
          go_ret
          exact Fin.out _ _ (s6.trans s7.none)
end Go.Proofs.Ytollifmdoldacaa
