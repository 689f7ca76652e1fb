/- OctetSmall: the walk. -/
import Derived.Test.YtollifmdoldacaaKnown1
namespace Go.Proofs.Ytollifmdoldacaa
set_option linter.unusedVariables false
set_option linter.unusedSimpArgs false
open Go.RowKit

def OsIn (u : Nat) (x y : Value) : Prop := ∃ n t : Nat, x = .int .i64 n ∧ y = .int .i64 t ∧ (enc u).length = n + (if t = 0 then 0 else (enc t).length) ∧ t ≤ 4611686018427387904
set_option maxHeartbeats 1000000 in
set_option maxRecDepth 100000 in
theorem small_calls (x : Int) (w : World) (o : Col) : Calls Try.prog 3 #[.int .i64 x] w (Post [] w o fun r _ _ => r = .bool true) := by
  by_cases h0 : x < 0
  · go_enter Try.func3, Try.ntmps3
    go_wp2_with fail
    refine (known1_calls w o).mono ?_
    rintro e w1 ⟨r, o1, rfl, s1, rfl⟩
    go_wp2
    go_ret
    exact Post.mk s1 rfl
  obtain ⟨u, rfl⟩ := Int.eq_ofNat_of_zero_le (show 0 ≤ x by omega)
  clear h0
  by_cases h1 : (4611686018427387904 : Int) < (u : Int)
  · go_enter Try.func3, Try.ntmps3
    go_wp2_with fail
    refine (known1_calls w o).mono ?_
    rintro e w1 ⟨r, o1, rfl, s1, rfl⟩
    go_wp2
    go_ret
    exact Post.mk s1 rfl
  obtain ⟨c, _, _, hd⟩ := fresh o w.heap.size []
  have hcl : clamp (u : Int) = u := by unfold clamp; omega
  have h9 := enc_len9 (u : Int)
  rw [hcl] at h9
  have Hcl := Lib.hid hcl
  have H9 := Lib.hid h9
  clear hcl h9
  go_enter Try.func3, Try.ntmps3
  go_wp2_with fail
  have s0 : Stp [c] w o _ _ := (Stp.refl [c] w o).alloc (.cells #[.slice none 0 0] 25) c
  have a1 := (Stp.refl [] (w.alloc (.cells #[.slice none 0 0] 25)) (paint o w.heap.size c)).alloc (.cells #[.int .i64 (u : Int)] 3) (c + 1)
  refine (wnums_calls c (c + 1) _ _ _ [] [(u : Int)] _ _ ((Wr.new w o c).stp a1 (by simp)) (Rd.new _ _ (c + 1) #[.int .i64 (u : Int)] _ rfl 1 rfl (by omega) (by simp [Value.oneCell']) 3 _ (by simp)) (by omega) (by simp)).mono ?_
  rintro e w1 ⟨r, o1, rfl, s1, rfl, v1, hw1⟩
  have s2 := (s0.trans a1.none).trans s1
  rw [List.nil_append, encs_one, Hcl.out] at hw1
  clear s0 a1 s1
  go_wp2_with fail
  refine (wout_calls c (c + 1) _ _ _ w1 o1 hw1 (by have := H9.out; omega)).mono ?_
  rintro e w2 ⟨r, o2, rfl, s3, hb⟩
  have s4 := s2.trans s3.none
  clear s2 s3 hw1
  obtain ⟨A, cap, rfl⟩ := Own.shape hb
  have hb := OwnB.rd hb
  have hlt : u ≤ 4611686018427387904 := by omega
  have Hlt := Lib.hid hlt
  clear h1 hlt
  obtain ⟨L, hL⟩ : ∃ L, enc u = L := ⟨_, rfl⟩
  rw [hL] at hb
  rw [hL]
  have HL := Lib.hid hL
  clear hL
  go_wp2_with fail
  go_loop [5, 6] (OsIn u) (fun _ y => (intOf y).toNat)
  case atStart =>
    refine ⟨1, u / 128, rfl, by go_num, ?_, by have := Hlt.out; omega⟩
    by_cases hu : u = 0
    · subst hu; simp [enc_small]
    · exact enc_count u (by omega)
  case round =>
    obtain ⟨n, t, rfl, rfl, hn, ht⟩ := hrel
    have Hn := Lib.hid hn
    have Ht := Lib.hid ht
    have h9 := H9.out
    have hn9 : n ≤ 9 := by omega
    clear hn ht h9
    by_cases hgt : 0 < t
    · go_wp2
      go_round
      case rel =>
        refine ⟨n + 1, t / 128, by go_num, by go_num, ?_, by have := Ht.out; omega⟩
        have h1 := Hn.out
        rw [if_neg (by omega), enc_count t hgt] at h1
        omega
      case measure => simp [intOf]; omega
    · have hn2 : n = L.length := by have h1 := Hn.out; rw [HL.out, if_pos (by omega)] at h1; omega
      subst hn2
      clear Hn Ht
      have hpos : 0 < L.length := by rw [← HL.out]; exact enc_pos u
      have hcc := hb.at_ hpos
      by_cases hu : u < 128
      · have h1 : L.length = 1 := by rw [← HL.out, enc_small hu]; rfl
        have h2 : L[0] = UInt8.ofNat u := by have := HL.out; rw [enc_small hu] at this; subst this; rfl
        have h3 : (L[0]).toNat < 128 := by rw [h2, UInt8.toNat_ofNat']; omega
        obtain ⟨b0, hb0⟩ : ∃ b, L[0] = b := ⟨_, rfl⟩
        rw [hb0] at hcc h3
        obtain ⟨a, rfl, hc0⟩ := hcc
        rw [show a.add 0 = a from rfl] at hc0
        have h4 : ((L.length : Int) == 1) = true := by rw [h1]; rfl
        clear h1 h2 hb0
        go_wp2_with fail
        refine (known1_calls w2 o2).mono ?_
        rintro e w3 ⟨r, o3, rfl, s5, rfl⟩
        clear hc0 h4
        go_wp2
        go_ret
        exact Post.mk ((s4.trans s5.none).drop hd) rfl
      · have h1 : 1 < L.length := by rw [← HL.out, enc_big (by omega), List.length_cons]; have := enc_pos (u / 128); omega
        have h2 : L[0] = UInt8.ofNat (u % 128 + 128) := by have := HL.out; rw [enc_big (by omega)] at this; subst this; rfl
        have h3 : 128 ≤ (L[0]).toNat := by rw [h2, UInt8.toNat_ofNat']; omega
        obtain ⟨b0, hb0⟩ : ∃ b, L[0] = b := ⟨_, rfl⟩
        rw [hb0] at hcc h3
        obtain ⟨a, rfl, hc0⟩ := hcc
        rw [show a.add 0 = a from rfl] at hc0
        have hcl := hb.at_ (show L.length - 1 < L.length by omega)
        have h6 : L[L.length - 1] ≠ 0 := by
          intro e
          refine enc_last u (by omega) ?_
          rw [HL.out, List.getLast?_eq_getElem?, List.getElem?_eq_getElem (by omega), e]
        obtain ⟨bl, hbl⟩ : ∃ b, L[L.length - 1] = b := ⟨_, rfl⟩
        rw [hbl] at hcl h6
        obtain ⟨a', ea, hcl⟩ := hcl
        injection ea with ea
        subst ea
        have h7 : ((bl.toNat : Int) != 0) = true := by rw [bne_iff_ne]; intro e; exact h6 (UInt8.toNat_inj.1 (by simp; omega))
        have h4 : ((L.length : Int) == 1) = false := by rw [beq_eq_false_iff_ne]; omega
        have h8 : ((L.length : Int) - 1).toNat = L.length - 1 := by omega
        clear h2 hb0 h6 hbl
        go_wp2_with fail
        refine (known1_calls w2 o2).mono ?_
        rintro e w3 ⟨r, o3, rfl, s5, rfl⟩
        clear hc0 hcl h4 h7 h8
        go_wp2
        go_ret
        exact Post.mk ((s4.trans s5.none).drop hd) rfl
theorem small_law (x : Int) (w : World) (_ : (Lit.int .i64 x).wf = true) : Calls Try.prog 3 #[.int .i64 x] w (Post [] w (fun _ => 0) fun r _ _ => r = .bool true) := small_calls x w _
end Go.Proofs.Ytollifmdoldacaa
