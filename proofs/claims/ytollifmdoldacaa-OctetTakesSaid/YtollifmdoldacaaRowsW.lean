/- OctetRows: the walk. -/
import Derived.Test.YtollifmdoldacaaKnown1
import Derived.Test.YtollifmdoldacaaLaw1b
import Derived.Test.YtollifmdoldacaaRef1
import Derived.Test.YtollifmdoldacaaJoinsW
namespace Go.Proofs.Ytollifmdoldacaa
set_option linter.unusedVariables false
set_option linter.unusedSimpArgs false
open Go.RowKit

theorem wide_eq (ls : List (List UInt8)) : wide ls = lens ls + 9 * ls.length := by
  induction ls with
  | nil => simp [wide, lens]
  | cons l ls ih =>
    have e1 : wide (l :: ls) = (l.length + 9) + wide ls := by simp [wide]
    have e2 : lens (l :: ls) = l.length + lens ls := by simp [lens]
    rw [e1, e2, List.length_cons]
    omega
abbrev cR : List Nat := [1, 2, 3, 4, 9, 11]
def OR1 (w0 : World) (ls : List (List UInt8)) (p1 p2 : Nat) (y x : Value) (wr : World) : Prop := ∃ (k : Nat) (o' : Col) (v1 v2 : Value), x = .int .i64 k ∧ k ≤ ls.length ∧ Stp cR w0 (fun _ => 0) wr o' ∧ Wr wr o' 1 p1 (encRows (ls.take k)) v1 ∧ Wr wr o' 2 p2 [] v2 ∧ OwnB wr o' 3 y (encRows (ls.take k))
def OR2 (w0 : World) (ls : List (List UInt8)) (raw : List UInt8) (p : Nat) (x : Value) (wr : World) : Prop := ∃ (k : Nat) (o' : Col) (v' : Value), x = .int .i64 k ∧ k ≤ ls.length ∧ Stp cR w0 (fun _ => 0) wr o' ∧ Rr wr o' 9 10 p v' (encRows (ls.drop k) ++ raw) false

set_option maxHeartbeats 4000000 in
set_option maxRecDepth 100000 in
theorem rows_law (v : Value) (ls : List (List UInt8)) (vr : Value) (raw : List UInt8) (w : World) (hl : RdRows w (fun _ => 0) 0 0 v ls) (hraw : RdB w (fun _ => 0) 0 vr raw) :
    Calls Try.prog 7 #[v, vr] w (Post [] w (fun _ => 0) fun r _ _ => r = .bool true) := by
  obtain ⟨A, cap, rfl, hnc, hA⟩ := hl.shape
  obtain ⟨B, capb, rfl, hncb, hB⟩ := hraw.shape
  have easy : ∀ w', w = w' → Post [] w (fun _ => 0) (fun r _ _ => r = .bool true) (.returned (.bool true)) w' := fun w' e => by subst e; exact Post.mk (Stp.refl _ _ _) rfl
  have Easy := Lib.hid easy
  clear easy
  cases hva : heavyGo 0 ls with
  | true =>
    go_enter Try.func7, Try.ntmps7
    go_wp2_with fail
    refine (heavy_calls 0 0 _ ls w _ hl).mono ?_
    rintro e w1 ⟨rfl, rfl⟩
    rw [hva]
    go_wp2
    go_ret
    exact Easy.out _ rfl
  | false =>
  by_cases hbig : 4000 < raw.length
  · go_enter Try.func7, Try.ntmps7
    go_wp2_with fail
    refine (heavy_calls 0 0 _ ls w _ hl).mono ?_
    rintro e w1 ⟨rfl, rfl⟩
    rw [hva]
    clear hva
    go_wp2
    go_ret
    exact Easy.out _ rfl
  obtain ⟨la, na⟩ := heavy_len ls hva
  have La := Lib.hid la
  have Lw := Lib.hid (show wide ls ≤ 40000 by rw [wide_eq]; omega)
  clear la Easy
  go_enter Try.func7, Try.ntmps7
  go_wp2_with fail
  refine (heavy_calls 0 0 _ ls w _ hl).mono ?_
  rintro e w1 ⟨rfl, rfl⟩
  rw [hva]
  clear hva
  go_wp2_with fail
  obtain ⟨o1, s1, wr1, wr2⟩ : ∃ o1, Stp cR w (fun _ => 0) ((w.alloc (.cells #[.slice none 0 0] 25)).alloc (.cells #[.slice none 0 0] 25)) o1 ∧
      Wr ((w.alloc (.cells #[.slice none 0 0] 25)).alloc (.cells #[.slice none 0 0] 25)) o1 1 w.heap.size [] (.slice none 0 0) ∧
      Wr ((w.alloc (.cells #[.slice none 0 0] 25)).alloc (.cells #[.slice none 0 0] 25)) o1 2 (w.heap.size + 1) [] (.slice none 0 0) := by
    have h1 := Wr.new w (fun _ => 0) 1
    have h2 := Wr.new (w.alloc (.cells #[.slice none 0 0] 25)) (paint (fun _ => 0) w.heap.size 1) 2
    rw [World.size_alloc] at h2
    refine ⟨_, ((Stp.refl cR w (fun _ => 0)).alloc (.cells #[.slice none 0 0] 25) 1).alloc (.cells #[.slice none 0 0] 25) 2, h1.stp ((Stp.refl [] _ _).alloc _ 2) (by simp), ?_⟩
    rw [World.size_alloc]
    exact h2
  generalize (w.alloc (.cells #[.slice none 0 0] 25)).alloc (.cells #[.slice none 0 0] 25) = w1 at *
  generalize w.heap.size = p1 at *
  generalize p1 + 1 = p2 at *
  go_loopw [7, 8] (OR1 w ls p1 p2) (fun _ i _ => ls.length - (intOf i).toNat)
  case atStart => exact ⟨0, o1, _, _, rfl, Nat.zero_le _, s1, wr1, wr2, OwnB.nil _ _ _⟩
  case round =>
    clear s1 wr1 wr2
    obtain ⟨k, o2, v1, v2, rfl, hk, s2, hw1, hw2, hy⟩ := hrel
    obtain ⟨P, hP⟩ : ∃ P, encRows (ls.take k) = P := ⟨_, rfl⟩
    rw [hP] at hy hw1
    have hPl : P.length ≤ 40000 := by
      rw [← hP]
      refine Nat.le_trans (encRows_le _) (Nat.le_trans ?_ Lw.out)
      by_cases hkk : k < ls.length
      · have := wide_take ls k hkk; omega
      · rw [List.take_of_length_le (by omega)]; exact Nat.le_refl _
    obtain ⟨A3, cap3, rfl⟩ := Own.shape hy
    by_cases hlt : k < ls.length
    · obtain ⟨a, uv, r, rfl, hcell0, hrd0, Hr⟩ := hl.get hlt
      have hcell := s2.cell hcell0 (by simp)
      have hrd := hrd0.stp s2 (by simp)
      have e1 : ls.take (k + 1) = ls.take k ++ [r] := by rw [List.take_succ_eq_append_getElem hlt, Hr.out]
      have hrl : r.length ≤ 4000 := by
        have h1 := lens_take ls (k + 1)
        rw [e1, lens_snoc] at h1
        have := La.out
        omega
      have E1 := Lib.hid (show encRows (ls.take (k + 1)) = P ++ (enc (clamp r.length) ++ r) by rw [e1, encRows_snoc, hP])
      have h9 := enc_len9 r.length
      have Hn := Lib.hid (show wide [r] = r.length + 9 by simp [wide])
      have Er := Lib.hid (show encRows [r] = enc (clamp r.length) ++ r by simp [encRows])
      clear hP e1
      obtain ⟨A1, cap1, rfl, hcap1, hA1⟩ := hrd0.shape
      have Hcell0 := Lib.hid hcell0
      clear hcell0
      go_wp2_with fail
      refine (roomy_calls 0 4 _ r wr o2 hrd (by omega)).mono ?_
      rintro e w3 ⟨r3, o3, rfl, s3, hroom⟩
      have hcell3 := s3.cell hcell (by simp)
      have s4 := s2.trans s3.none
      have hrd3 := hrd.stp s3 (by simp)
      have hw13 := hw1.stp s3 (by simp)
      have hw23 := hw2.stp s3 (by simp)
      have hy3 := hy.stp s3 (by simp)
      clear s2 s3 hcell hrd hw1 hw2 hy
      have hroomr := OwnB.rd hroom
      have hrl1 : (r ++ [171]).length = r.length + 1 := by simp
      have hrt : (r ++ [171]).take r.length = r := by simp
      obtain ⟨R, hR⟩ : ∃ R, r ++ [171] = R := ⟨_, rfl⟩
      rw [hR] at hroom hroomr hrl1 hrt
      obtain ⟨A4, cap4, rfl⟩ := Own.shape hroom
      have HR := Lib.hid hR
      have Hrt := Lib.hid hrt
      have hrR : r.length ≤ R.length := by omega
      have hRl : R.length ≤ 4001 := by omega
      clear hR hrt hrl1
      go_wp2_with (refine holdAt 37 ?_)
      apply Hold.mk
      refine slcBH (c := 4) (l := R) _ _ rfl rfl hroomr r.length rfl rfl hrR fun A5 hr5 => ?_
      rw [Hrt.out] at hr5
      go_wp2_with fail
      have b1 := RdRows.new1 w3 o3 5 4 _ r 23 _ rfl hr5
      obtain ⟨o4, s5, hrd4, hw14, hw24, hy4, hroom4, b2⟩ : ∃ o4, Stp cR w (fun _ => 0) (w3.alloc (.cells #[.slice A5 r.length cap4] 23)) o4 ∧ RdB (w3.alloc (.cells #[.slice A5 r.length cap4] 23)) o4 0 _ r ∧ Wr (w3.alloc (.cells #[.slice A5 r.length cap4] 23)) o4 1 p1 P v1 ∧ Wr (w3.alloc (.cells #[.slice A5 r.length cap4] 23)) o4 2 p2 [] v2 ∧ OwnB (w3.alloc (.cells #[.slice A5 r.length cap4] 23)) o4 3 _ P ∧ OwnB (w3.alloc (.cells #[.slice A5 r.length cap4] 23)) o4 4 _ R ∧ RdRows (w3.alloc (.cells #[.slice A5 r.length cap4] 23)) o4 5 4 _ [r] :=
        have q := (Stp.refl [] w3 o3).alloc (.cells #[.slice A5 r.length cap4] 23) 5
        ⟨_, s4.alloc _ 5, hrd3.stp q (by simp), hw13.stp q (by simp), hw23.stp q (by simp), hy3.stp q (by simp), hroom.stp q (by simp), b1⟩
      have hcell4 := ((Stp.refl [] w3 o3).alloc (.cells #[.slice A5 r.length cap4] 23) 5).cell hcell3 (by simp)
      clear hcell3
      generalize w3.alloc (.cells #[.slice A5 r.length cap4] 23) = w4 at *
      clear b1 s4 hrd3 hw13 hw23 hy3 hroom hroomr hr5
      refine (wbytes_calls 1 5 4 p1 _ v1 P [r] w4 o4 hw14 b2 (by omega) (by omega) (by rw [Hn.out]; omega)).mono ?_
      rintro e w5 ⟨r5, o5, rfl, s6, rfl, v1', hw15⟩
      rw [Er.out, ← E1.out] at hw15
      have s7 : Stp cR w (fun _ => 0) w5 o5 := s5.trans (s6.mono (by simp))
      have hcell5 := s7.cell Hcell0.out (by simp)
      have hrd5 := hrd4.stp s6 (by simp)
      have hw25 := hw24.stp s6 (by simp)
      have hy5 := hy4.stp s6 (by simp)
      have hroom5 := hroom4.stp s6 (by simp)
      clear s5 s6 hcell4 hrd4 hw14 hw24 hy4 hroom4 b2
      go_wp2_with fail
      refine (stands_calls 4 0 _ _ r w5 o5 (by rw [HR.out]; exact OwnB.rd hroom5) hrd5 (by omega)).mono ?_
      rintro e w6 ⟨r6, o6, rfl, s8, rfl⟩
      have hcell6 := s8.cell hcell5 (by simp)
      have s9 := s7.trans s8.none
      have hrd6 := hrd5.stp s8 (by simp)
      have hw16 := hw15.stp s8 (by simp)
      have hw26 := hw25.stp s8 (by simp)
      have hy6 := hy5.stp s8 (by simp)
      have hroom6 := hroom5.stp s8 (by simp)
      clear s7 s8 hcell5 hrd5 hw15 hw25 hy5 hroom5
      go_wp2_with fail
      refine (spoil_calls 4 _ R w6 o6 hroom6 (by omega)).mono ?_
      rintro e w7 ⟨r7, o7, rfl, s10, rfl⟩
      have s11 : Stp cR w (fun _ => 0) w7 o7 := s9.trans (s10.mono (by simp))
      have hcell7 := s11.cell Hcell0.out (by simp)
      have hrd7 := hrd6.stp s10 (by simp)
      have hw17 := hw16.stp s10 (by simp)
      have hw27 := hw26.stp s10 (by simp)
      have hy7 := hy6.stp s10 (by simp)
      clear s9 s10 hcell6 hrd6 hw16 hw26 hy6 hroom6
      go_wp2_with fail
      refine (rfbytes_calls 0 6 _ r w7 o7 hrd7 (by omega)).mono ?_
      rintro e w8 ⟨r8, o8, rfl, s12, h8⟩
      obtain ⟨E, hE⟩ : ∃ E, enc (clamp r.length) ++ r = E := ⟨_, rfl⟩
      have hEl : E.length ≤ r.length + 9 := by rw [← hE, List.length_append]; omega
      rw [hE] at h8
      have HE := Lib.hid hE
      clear hE
      obtain ⟨A8, cap8, rfl⟩ := Own.shape h8
      have s13 := s11.trans s12.none
      have hw18 := hw17.stp s12 (by simp)
      have hw28 := hw27.stp s12 (by simp)
      have hy8 := hy7.stp s12 (by simp)
      clear s11 s12 hcell7 hrd7 hw17 hw27 hy7
      go_wp2_with (refine holdAt 55 ?_)
      apply Hold.mk
      refine appB _ _ rfl rfl hy8 (OwnB.rd h8) rfl rfl (by omega) fun A9 cap9 w9 o9 s14 h9 _ _ => ?_
      have hw19 := hw18.stp s14 (by simp)
      have hw29 := hw28.stp s14 (by simp)
      have s15 : Stp cR w (fun _ => 0) w9 o9 := s13.trans (s14.mono (by simp))
      clear s13 s14 hw18 hw28 hy8 h8
      go_wp2
      go_roundw
      case rel =>
        rw [HE.out] at E1
        exact ⟨k + 1, o9, v1', v2, by go_num, hlt, s15, hw19, hw29, by rw [E1.out]; exact h9⟩
      case measure => simp [intOf]; omega
    · have hk' : k = ls.length := by omega
      subst hk'
      have hP2 : P = encRows ls := by rw [← hP, List.take_length]
      have HP2 := Lib.hid hP2
      have Hwl := Lib.hid (show ([] : List UInt8).length + wide ls ≤ 140737488355328 by have := Lw.out; simp; omega)
      clear hP hP2
      go_wp2_with fail
      refine (wbytes_calls 2 0 0 p2 _ v2 [] ls wr o2 hw2 (hl.stp s2 (by simp) (by simp)) (by omega) (by omega) Hwl.out).mono ?_
      rintro e w3 ⟨r3, o3, rfl, s3, rfl, v3, hw3⟩
      rw [List.nil_append, ← HP2.out] at hw3
      have s4 : Stp cR w (fun _ => 0) w3 o3 := s2.trans (s3.mono (by simp))
      have hw13 := hw1.stp s3 (by simp)
      have hy3 := hy.stp s3 (by simp)
      clear s2 s3 hw1 hw2 hy
      go_wp2_with fail
      refine (wraw_calls 1 0 p1 v1 _ P raw w3 o3 hw13 (hraw.stp s4 (by simp)) (by omega)).mono ?_
      rintro e w4 ⟨r4, o4, rfl, s5, rfl, v4, hw4⟩
      have s6 : Stp cR w (fun _ => 0) w4 o4 := s4.trans (s5.mono (by simp))
      have hw34 := hw3.stp s5 (by simp)
      have hy4 := hy3.stp s5 (by simp)
      clear s4 s5 hw13 hw3 hy3
      go_wp2_with fail
      refine (wraw_calls 2 0 p2 v3 _ P raw w4 o4 hw34 (hraw.stp s6 (by simp)) (by omega)).mono ?_
      rintro e w5 ⟨r5, o5, rfl, s7, rfl, v5, hw5⟩
      have s8 : Stp cR w (fun _ => 0) w5 o5 := s6.trans (s7.mono (by simp))
      have hw45 := hw4.stp s7 (by simp)
      have hy5 := hy4.stp s7 (by simp)
      clear s6 s7 hw34 hw4 hy4
      go_wp2_with (refine holdAt 64 ?_)
      apply Hold.mk
      refine appB _ _ rfl rfl hy5 (hraw.stp s8 (by simp)) rfl rfl (by omega) fun A6 cap6 w6 o6 s9 hy6 _ _ => ?_
      have s10 : Stp cR w (fun _ => 0) w6 o6 := s8.trans (s9.mono (by simp))
      have hw46 := hw45.stp s9 (by simp)
      have hw56 := hw5.stp s9 (by simp)
      clear s8 s9 hw45 hw5 hy5
      obtain ⟨Q, hQ⟩ : ∃ Q, P ++ raw = Q := ⟨_, rfl⟩
      have hQl : P.length + raw.length = Q.length := by rw [← hQ, List.length_append]
      rw [hQ] at hw46 hw56 hy6
      rw [hQl] at hy6 ⊢
      have HQ := Lib.hid hQ
      have hQ4 : Q.length ≤ 44000 := by omega
      clear hQ hQl
      go_wp2_with fail
      refine (wout_calls 1 7 p1 v4 Q w6 o6 hw46 (by omega)).mono ?_
      rintro e w7 ⟨r7, o7, rfl, s11, x7⟩
      have s12 := s10.trans s11.none
      have hw57 := hw56.stp s11 (by simp)
      have hy7 := hy6.stp s11 (by simp)
      clear s10 s11 hw46 hw56 hy6
      go_wp2_with fail
      refine (same_calls 7 3 _ _ Q Q w7 o7 (OwnB.rd x7) (OwnB.rd hy7)).mono ?_
      rintro e w8 ⟨r8, o8, rfl, s13, rfl⟩
      rw [beq_self_eq_true]
      have s14 := s12.trans s13.none
      have hw58 := hw57.stp s13 (by simp)
      have hy8 := hy7.stp s13 (by simp)
      clear s12 s13 hw57 hy7 x7
      go_wp2_with fail
      refine (wout_calls 2 8 p2 v5 Q w8 o8 hw58 (by omega)).mono ?_
      rintro e w9 ⟨r9, o9, rfl, s15, x9⟩
      have s16 := s14.trans s15.none
      have hy9 := hy8.stp s15 (by simp)
      clear s14 s15 hw58 hy8
      go_wp2_with fail
      refine (same_calls 8 3 _ _ Q Q w9 o9 (OwnB.rd x9) (OwnB.rd hy9)).mono ?_
      rintro e w10 ⟨r10, o10, rfl, s17, rfl⟩
      rw [beq_self_eq_true]
      have s18 := s16.trans s17.none
      have hy10 := hy9.stp s17 (by simp)
      clear s16 s17 hy9 x9
      go_wp2_with fail
      refine (newreader_calls 3 9 10 (by omega) _ Q w10 o10 (OwnB.rd hy10) (by omega)).mono ?_
      rintro e w11 ⟨r11, o11, rfl, s19, p, v11, rfl, hrd11⟩
      have s20 := s18.trans s19.none
      clear s18 s19 hy10
      have hQ0 : Q = encRows (ls.drop 0) ++ raw := by rw [← HQ.out, HP2.out, List.drop_zero]
      rw [hQ0] at hrd11
      clear hQ0
      go_wp2_with fail
      go_loopw [11] (OR2 w ls raw p) (fun i _ => ls.length - (intOf i).toNat)
      case atStart => exact ⟨0, o11, v11, rfl, Nat.zero_le _, s20, hrd11⟩
      case round =>
        clear s20 hrd11
        obtain ⟨j, o12, v12, rfl, hj, s21, hr12⟩ := hrel
        by_cases hjl : j < ls.length
        · obtain ⟨a, uv, r, rfl, hcell0, hrd0, Hr⟩ := hl.get hjl
          obtain ⟨A1, cap1, rfl, hcap1, hA1⟩ := hrd0.shape
          have Hcell0 := Lib.hid hcell0
          clear hcell0
          have e1 : encRows (ls.drop j) ++ raw = enc (clamp r.length) ++ r ++ (encRows (ls.drop (j + 1)) ++ raw) := by
            rw [List.drop_eq_getElem_cons hjl, Hr.out]
            simp [encRows]
          have hrl : r.length ≤ 4000 := by
            have h1 := lens_take ls (j + 1)
            rw [List.take_succ_eq_append_getElem hjl, Hr.out, lens_snoc] at h1
            have := La.out
            omega
          have hrest : (enc (clamp r.length) ++ r ++ (encRows (ls.drop (j + 1)) ++ raw)).length ≤ 50000 := by
            rw [← e1, List.length_append]
            have h1 := encRows_le (ls.drop j)
            have h2 : wide (ls.drop j) ≤ wide ls := by
              have e : wide ls = wide (ls.take j) + wide (ls.drop j) := by
                conv => lhs; rw [← List.take_append_drop j ls]
                unfold wide
                rw [List.map_append, List.sum_append]
              omega
            have := Lw.out
            omega
          rw [e1] at hr12
          have Enb := Lib.hid (nBytes_enc r (encRows (ls.drop (j + 1)) ++ raw) false (by omega))
          have Hrest := Lib.hid hrest
          clear e1 hrest
          go_wp2_with fail
          refine (rbytes_calls 9 10 11 p v12 _ false _ o12 hr12 (by have := Hrest.out; omega)).mono ?_
          rintro e w13 ⟨r13, o13, rfl, s22, hp, v13, hr13⟩
          rw [Enb.out] at hp hr13
          have s23 : Stp cR w (fun _ => 0) w13 o13 := s21.trans (s22.mono (by simp))
          have hcell13 := s23.cell Hcell0.out (by simp)
          have hrd13 := hrd0.stp s23 (by simp)
          obtain ⟨A13, cap13, rfl⟩ := Own.shape hp
          clear s21 s22 hr12
          go_wp2_with fail
          refine (same_calls 11 0 _ _ r r w13 o13 (OwnB.rd hp) hrd13).mono ?_
          rintro e w14 ⟨r14, o14, rfl, s24, rfl⟩
          rw [beq_self_eq_true]
          have s25 := s23.trans s24.none
          have hp14 := hp.stp s24 (by simp)
          have hr14 := hr13.stp s24 (by simp) (by simp)
          clear s23 s24 hp hr13 hcell13 hrd13
          go_wp2_with fail
          refine (spoil_calls 11 _ r w14 o14 hp14 (by omega)).mono ?_
          rintro e w15 ⟨r15, o15, rfl, s26, rfl⟩
          have s27 : Stp cR w (fun _ => 0) w15 o15 := s25.trans (s26.mono (by simp))
          have hr15 := hr14.stp s26 (by simp) (by simp)
          clear s25 s26 hp14 hr14
          go_wp2
          go_roundw
          case rel => exact ⟨j + 1, o15, v13, by go_num, hjl, s27, hr15⟩
          case measure => simp [intOf]; omega
        · have e1 : encRows (ls.drop j) ++ raw = raw := by rw [List.drop_of_length_le (by omega)]; simp [encRows]
          rw [e1] at hr12
          clear e1
          have Er := Lib.hid (show nRaw (raw.length : Int) raw false = (raw, [], false) by
            have := nRaw_app raw [] false
            rw [List.append_nil] at this
            exact this)
          go_wp2_with fail
          refine (rleft_calls 9 10 p v12 raw false _ o12 hr12).mono ?_
          rintro e w13 ⟨rfl, rfl⟩
          go_wp2_with fail
          refine (rraw_calls 9 10 11 p v12 raw false (raw.length : Int) _ o12 hr12 (by omega)).mono ?_
          rintro e w13 ⟨r13, o13, rfl, s22, hp, v13, hr13⟩
          rw [Er.out] at hp hr13
          have s23 : Stp cR w (fun _ => 0) w13 o13 := s21.trans (s22.mono (by simp))
          clear s21 s22 hr12
          go_wp2_with fail
          refine (same_calls 11 0 _ _ raw raw w13 o13 (OwnB.rd hp) (hraw.stp s23 (by simp))).mono ?_
          rintro e w14 ⟨r14, o14, rfl, s24, rfl⟩
          rw [beq_self_eq_true]
          have s25 := s23.trans s24.none
          have hr14 := hr13.stp s24 (by simp) (by simp)
          clear s23 s24 hp hr13
          go_wp2_with fail
          refine (rwhole_calls 9 10 p v13 [] false w14 o14 hr14).mono ?_
          rintro e w15 ⟨rfl, rfl⟩
          go_wp2_with fail
          refine (known1_calls w14 o14).mono ?_
          rintro e w16 ⟨r16, o16, rfl, s26, rfl⟩
          go_wp2
          go_ret
          exact Post.mk ((s25.trans s26.none).law (by simp)) rfl
end Go.Proofs.Ytollifmdoldacaa
