/- OctetCuts: the walk. -/
import Derived.Test.YtollifmdoldacaaCutsP
namespace Go.Proofs.Ytollifmdoldacaa
set_option linter.unusedVariables false
set_option linter.unusedSimpArgs false
open Go.RowKit

/-- What the first loop of OctetCuts keeps. -/
def CtR1 (w0 : World) (ls : List (List UInt8)) (x y z : Value) (wr : World) : Prop := ∃ (k : Nat) (o' : Col), z = .int .i64 k ∧ k ≤ ls.length ∧ Stp [1, 2] w0 (fun _ => 0) wr o' ∧ OwnB wr o' 1 x (encRows (ls.take k)) ∧ Own wr o' 2 3 1 y k (endsV ls k)
/-- .. the second one. -/
def CtR2 (w0 : World) (o0 : Col) (ls : List (List UInt8)) (cut p : Nat) (x : Value) (wr : World) : Prop := ∃ (j : Nat) (o' : Col) (v' : Value), x = .int .i64 j ∧ j ≤ ls.length ∧ Stp [9] w0 o0 wr o' ∧ Rr wr o' 9 10 p v' (cutL ls cut j) (cutE ls cut j)

set_option maxHeartbeats 4000000 in
set_option maxRecDepth 100000 in
theorem cuts_law (v : Value) (ls : List (List UInt8)) (at_ : Int) (w : World) (hl : RdRows w (fun _ => 0) 0 0 v ls) (hat : (Lit.int .i64 at_).wf = true) :
    Calls Try.prog 8 #[v, .int .i64 at_] w (Post [] w (fun _ => 0) fun r _ _ => r = .bool true) := by
  obtain ⟨A, cap, rfl, hnc, hA⟩ := hl.shape
  have Hl := Lib.hid hl
  cases hva : heavyGo 0 ls with
  | true =>
    clear hl
    go_enter Try.func8, Try.ntmps8
    go_wp2_with fail
    refine (heavy_calls 0 0 _ ls w _ Hl.out).mono ?_
    rintro e w1 ⟨rfl, rfl⟩
    rw [hva]
    go_wp2
    go_ret
    exact Post.mk (Stp.refl _ _ _) rfl
  | false =>
  by_cases h0 : ls.length = 0
  · have z0 : ((ls.length : Int) == 0) = true := by simp [h0]
    clear hl h0
    go_enter Try.func8, Try.ntmps8
    go_wp2_with fail
    refine (heavy_calls 0 0 _ ls w _ Hl.out).mono ?_
    rintro e w1 ⟨rfl, rfl⟩
    rw [hva]
    go_wp2
    go_ret
    exact Post.mk (Stp.refl _ _ _) rfl
  have z0 : ((ls.length : Int) == 0) = false := by simp [h0]
  have hpos : 0 < ls.length := by omega
  replace hpos := Lib.hid hpos
  clear h0
  obtain ⟨la, na⟩ := heavy_len ls hva
  have La := Lib.hid la
  have Lw := Lib.hid (show wide ls ≤ 40000 by rw [wide_eq]; omega)
  have hEnd : ∀ k, endAt ls k ≤ 40000 := fun k => by
    refine Nat.le_trans (encRows_le _) (Nat.le_trans ?_ Lw.out)
    by_cases hkk : k < ls.length
    · have := wide_take ls k hkk; omega
    · rw [List.take_of_length_le (by omega)]; exact Nat.le_refl _
  replace hEnd := Lib.hid hEnd
  have hrow4 : ∀ (j : Nat) (h : j < ls.length), ls[j].length ≤ 4000 := fun j h => by
    have h1 := lens_take ls (j + 1)
    rw [List.take_succ_eq_append_getElem h, lens_snoc] at h1
    have := La.out
    omega
  replace hrow4 := Lib.hid hrow4
  clear la hl
  go_enter Try.func8, Try.ntmps8
  go_wp2_with fail
  refine (heavy_calls 0 0 _ ls w _ Hl.out).mono ?_
  rintro e w1 ⟨rfl, rfl⟩
  rw [hva]
  clear hva
  go_wp2_with fail
  go_loopw [5, 6, 7] (CtR1 w ls) (fun _ _ i _ => ls.length - (intOf i).toNat)
  case atStart => exact ⟨0, _, rfl, Nat.zero_le _, Stp.refl _ _ _, OwnB.nil _ _ _, Own.nil _ _ _ _ _⟩
  case round =>
    obtain ⟨k, o2, rfl, hk, s2, hx, hy⟩ := hrel
    have hEk := hEnd.out k
    have hlenk : (encRows (ls.take k)).length = endAt ls k := rfl
    obtain ⟨A3, cap3, rfl⟩ := Own.shape hx
    obtain ⟨A4, cap4, rfl⟩ := Own.shape hy
    rw [hlenk] at hx ⊢
    have Hlenk := Lib.hid hlenk
    clear hlenk
    by_cases hlt : k < ls.length
    · obtain ⟨a, uv, r, rfl, hcell0, hrd0, Hr⟩ := Hl.out.get hlt
      have hcell := s2.cell hcell0 (by simp)
      have hrd := hrd0.stp s2 (by simp)
      have hrl : r.length ≤ 4000 := by have := hrow4.out k hlt; rw [Hr.out] at this; exact this
      have h9 := enc_len9 r.length
      have E1 := Lib.hid (show encRows (ls.take (k + 1)) = encRows (ls.take k) ++ (enc (clamp r.length) ++ r) by rw [List.take_succ_eq_append_getElem hlt, Hr.out, encRows_snoc])
      have E2 := endAt_succ ls k hlt
      rw [Hr.out] at E2
      have hE1k := hEnd.out (k + 1)
      obtain ⟨A1, cap1, rfl, hcap1, hA1⟩ := hrd0.shape
      have z1 : (0 : Int) ≤ (k : Int) ∧ (k : Int) < (ls.length : Int) := by omega
      replace hx := Lib.hid hx
      replace hy := Lib.hid hy
      replace s2 := Lib.hid s2
      replace hrd := Lib.hid hrd
      clear hcell0 hrd0
      go_wp2_with fail
      refine (rfbytes_calls 0 6 _ r wr o2 hrd.out (by omega)).mono ?_
      rintro e w8 ⟨r8, o8, rfl, s12, h8⟩
      obtain ⟨E, hE⟩ : ∃ E, enc (clamp r.length) ++ r = E := ⟨_, rfl⟩
      rw [hE] at h8 E1 E2
      replace hE := Lib.hid hE
      obtain ⟨A8, cap8, rfl⟩ := Own.shape h8
      have hx8 := hx.out.stp s12 (by simp)
      have hy8 := Lib.hid (hy.out.stp s12 (by simp))
      have s13 := Lib.hid (s2.out.trans s12.none)
      clear s12
      go_wp2_with (refine holdAt 31 ?_)
      apply Hold.mk
      refine appB _ _ rfl rfl hx8 (OwnB.rd h8) rfl rfl (by rw [Hlenk.out]; omega) fun A9 cap9 w9 o9 s14 h9x _ _ => ?_
      rw [← E1.out] at h9x
      rw [Hlenk.out, ← E2] at h9x ⊢
      replace E2 := Lib.hid E2
      have hy9 := hy8.out.stp s14 (by simp)
      have s15 := s13.out.trans (s14.mono (D := [1, 2]) (by simp))
      have sa : ∀ C : List Nat, Stp C w9 o9 _ _ := fun C => (Stp.refl C w9 o9).alloc (.cells #[.int .i64 (endAt ls (k + 1))] 3) 2
      have hy10 := hy9.stp (sa []) (by simp)
      have hx10 := Lib.hid (OwnB.stp h9x (sa []) (by simp))
      have hrd2 := Lib.hid (Rd.new w9 o9 2 #[.int .i64 (endAt ls (k + 1))] _ rfl 1 rfl (by omega) (by simp [Value.oneCell']) 3 _ rfl)
      have s16 := Lib.hid (s15.trans (sa [1, 2]))
      replace hy10 := Lib.hid hy10
      clear hx8 h8 s14 h9x hy9 s15 sa hy8
      go_wp2_with (refine holdAt 36 ?_)
      apply Hold.mk
      refine app slI _ _ rfl rfl hy10.out hrd2.out rfl rfl (by omega) (by simp only [maxLen]; omega) fun A5 cap5 w5 o5 q1 q2 _ _ _ => ?_
      rw [← endsV_succ] at q2
      have hx5 := Lib.hid (OwnB.stp hx10.out q1 (by simp))
      have s17 := Lib.hid (s16.out.trans (q1.mono (D := [1, 2]) (by simp)))
      replace q2 := Lib.hid q2
      clear q1
      go_wp2
      go_roundw
      case rel => exact ⟨k + 1, o5, by go_num, hlt, s17.out, hx5.out, q2.out⟩
      case measure => simp [intOf]; omega
    · have hkl : k = ls.length := by omega
      have hall : encRows (ls.take k) = encRows ls := by rw [hkl, List.take_length]
      have hNpos : 0 < endAt ls k := by
        obtain ⟨r0, rs, e0⟩ : ∃ r0 rs, ls = r0 :: rs := by
          cases hls : ls with
          | nil => have := hpos.out; rw [hls] at this; simp at this
          | cons r0 rs => exact ⟨r0, rs, rfl⟩
        show 0 < (encRows (ls.take k)).length
        rw [hall, e0]
        have := enc_pos (clamp r0.length)
        simp only [encRows, List.flatMap_cons, List.length_append]
        omega
      obtain ⟨L, hL⟩ : ∃ L, encRows (ls.take k) = L := ⟨_, rfl⟩
      have hLN : endAt ls k = L.length := by rw [← hL]; rfl
      rw [hLN] at hEk hNpos ⊢
      rw [hL, hLN] at hx
      obtain ⟨cut, hcut, hpl⟩ := place30 at_ L.length hNpos
      have hcl : cutL ls cut 0 = L.take cut ∧ cutE ls cut 0 = false := by
        have e0 : endAt ls 0 = 0 := rfl
        refine ⟨?_, decide_eq_false (by omega)⟩
        rw [cutL, if_pos (by omega), e0, List.drop_zero, ← hall, hL, Nat.sub_zero]
      have hce : cutE ls cut ls.length = true := decide_eq_true (by rw [← hkl, hLN]; exact hcut)
      have hcl2 : cutL ls cut ls.length = [] := by rw [cutL, if_neg (by rw [← hkl, hLN]; omega)]
      have hyr := Own.rd hy
      rw [hkl] at hyr
      rw [hkl]
      have z1 : ¬ ls.length < ls.length := by omega
      replace hx := Lib.hid hx
      replace hy := Lib.hid hy
      replace hyr := Lib.hid hyr
      replace s2 := Lib.hid s2
      replace hcl := Lib.hid hcl
      replace hce := Lib.hid hce
      replace hcl2 := Lib.hid hcl2
      replace hall := Lib.hid hall
      replace hL := Lib.hid hL
      replace hLN := Lib.hid hLN
      clear hkl hk hlt
      go_wp2_with (refine holdAt 44 ?_)
      apply Hold.mk
      refine slcBH _ _ rfl rfl (OwnB.rd hx.out) cut rfl rfl (by omega) fun A6 h6 => ?_
      rw [← hcl.out.1] at h6
      replace h6 := Lib.hid h6
      go_wp2_with fail
      refine (newreader_calls 1 9 10 (by omega) _ _ wr o2 h6.out (by have := cutL_le ls cut 0; omega)).mono ?_
      rintro e w3 ⟨r3, o3, rfl, s3, p, v3, rfl, hrr⟩
      rw [← hcl.out.2] at hrr
      have hyr3 := hyr.out.stp s3 (by simp)
      obtain ⟨_, _, _, A7, cap7, e7, _, _, hc7⟩ := hyr3
      injection e7 with e7 _ _
      subst e7
      obtain ⟨ay, rfl, hay, _, hcy⟩ := hc7 hpos.out
      replace hcy := Lib.hid hcy
      replace s3 := Lib.hid (s2.out.trans s3.none)
      replace hrr := Lib.hid hrr
      go_wp2_with fail
      go_loopw [10] (CtR2 w3 o3 ls cut p) (fun x _ => ls.length - (intOf x).toNat)
      case atStart => exact ⟨0, o3, v3, rfl, Nat.zero_le _, Stp.refl _ _ _, hrr.out⟩
      case round =>
        obtain ⟨j, o4, v4, rfl, hj, s4, hr4⟩ := hrel
        have st := Lib.hid ((s3.out.mono (D := [1, 2, 9]) (by simp)).trans (s4.mono (D := [1, 2, 9]) (by simp)))
        by_cases hjl : j < ls.length
        · obtain ⟨a, uv, r, rfl, hcell0, hrd0, Hr⟩ := Hl.out.get hjl
          obtain ⟨A1, cap1, rfl, hcap1, hA1⟩ := hrd0.shape
          have hrl : r.length ≤ 4000 := by have := hrow4.out j hjl; rw [Hr.out] at this; exact this
          obtain ⟨stA, stB⟩ := cut_step ls cut j hjl r Hr.out hrl
          have hye := s4.cell (hcy.out j _ (endsV_at ls ls.length j hjl)) (by rw [add_block, hay]; simp)
          have hle2 := cutL_le ls cut j
          have z2 : (0 : Int) ≤ (j : Int) ∧ (j : Int) < (ls.length : Int) := by omega
          replace hr4 := Lib.hid hr4
          replace s4 := Lib.hid s4
          have Hcell0 := Lib.hid hcell0
          have Hrd0 := Lib.hid hrd0
          have hEj := hEnd.out (j + 1)
          obtain ⟨ej, hej⟩ : ∃ ej, endAt ls (j + 1) = ej := ⟨_, rfl⟩
          rw [hej] at hye stA stB hEj
          replace hej := Lib.hid hej
          clear hcell0 hrd0
          by_cases hin : ej ≤ cut
          · obtain ⟨hB, hbf⟩ := stA hin
            replace hbf := Lib.hid hbf
            replace hB := Lib.hid hB
            clear stA stB
            go_wp2_with fail
            refine (rbytes_calls 9 10 11 p v4 _ _ wr o4 hr4.out (by omega)).mono ?_
            rintro e w13 ⟨r13, o13, rfl, s22, hp, v13, hr13⟩
            rw [hB.out] at hp hr13
            obtain ⟨A13, cap13, rfl⟩ := Own.shape hp
            have hye2 := s22.cell hye (by rw [s4.out.colc (hcy.out j _ (endsV_at ls ls.length j hjl)), add_block, hay]; simp)
            have s23 := st.out.trans (s22.mono (D := [1, 2, 9]) (by simp))
            have hcell13 := s23.cell Hcell0.out (by simp)
            have hrd13 := Hrd0.out.stp s23 (by simp)
            replace hr13 := Lib.hid hr13
            replace hp := Lib.hid hp
            replace s23 := Lib.hid s23
            replace hrd13 := Lib.hid hrd13
            have s24 := Lib.hid (s4.out.trans s22)
            clear s22
            go_wp2_with fail
            refine (same_calls 11 0 _ _ r r w13 o13 (OwnB.rd hp.out) hrd13.out).mono ?_
            rintro e w14 ⟨r14, o14, rfl, s25, rfl⟩
            rw [beq_self_eq_true]
            have hr14 := hr13.out.stp s25 (by simp) (by simp)
            have s26 := Lib.hid (s24.out.trans s25.none)
            clear s25
            go_wp2_with fail
            refine (rgood_calls 9 10 p v13 _ _ w14 o14 hr14).mono ?_
            rintro e w15 ⟨rfl, rfl⟩
            rw [hbf.out]
            rw [hbf.out] at hr14
            have hfin := Lib.hid (show CtR2 w3 o3 ls cut p (.int .i64 ((j : Int) + 1)) w14 from ⟨j + 1, o14, v13, by go_num, hjl, s26.out, by rw [hbf.out]; exact hr14⟩)
            replace hr14 := Lib.hid hr14
            go_wp2
            go_roundw
            case rel => exact hfin.out
            case measure => simp [intOf]; omega
          · obtain ⟨hB, hbl, hbf⟩ := stB hin
            replace hbf := Lib.hid hbf
            replace hbl := Lib.hid hbl
            replace hB := Lib.hid hB
            clear stA stB
            go_wp2_with fail
            refine (rbytes_calls 9 10 11 p v4 _ _ wr o4 hr4.out (by omega)).mono ?_
            rintro e w13 ⟨r13, o13, rfl, s22, hp, v13, hr13⟩
            rw [hB.out] at hp hr13
            obtain ⟨A13, cap13, rfl⟩ := Own.shape hp
            have hye2 := s22.cell hye (by rw [s4.out.colc (hcy.out j _ (endsV_at ls ls.length j hjl)), add_block, hay]; simp)
            have s24 := s4.out.trans s22
            have hfin := Lib.hid (show CtR2 w3 o3 ls cut p (.int .i64 ((j : Int) + 1)) w13 from ⟨j + 1, o13, v13, by go_num, hjl, s24, by rw [hbf.out, hbl.out]; exact hr13⟩)
            replace hp := Lib.hid hp
            replace s24 := Lib.hid s24
            clear s22
            go_wp2_with fail
            refine (rgood_calls 9 10 p v13 _ _ w13 o13 hr13).mono ?_
            rintro e w15 ⟨rfl, rfl⟩
            go_wp2_with fail
            refine (rleft_calls 9 10 p v13 _ _ w13 o13 hr13).mono ?_
            rintro e w15 ⟨rfl, rfl⟩
            replace hr13 := Lib.hid hr13
            go_wp2
            go_roundw
            case rel => exact hfin.out
            case measure => simp [intOf]; omega
        · have hjl2 : j = ls.length := by omega
          rw [hjl2, hce.out, hcl2.out] at hr4
          replace s4 := Lib.hid s4
          go_wp2_with fail
          refine (rwhole_calls 9 10 p v4 _ _ wr o4 hr4).mono ?_
          rintro e w15 ⟨rfl, rfl⟩
          go_wp2_with fail
          refine (rnum_calls 9 10 p v4 _ _ wr o4 hr4 (by simp)).mono ?_
          rintro e w16 ⟨r16, o16, rfl, s16, rfl, v16, hr16⟩
          rw [show (nNum [] true).1 = 0 from rfl]
          have s17 := Lib.hid (st.out.trans (s16.mono (D := [1, 2, 9]) (by simp)))
          replace hr16 := Lib.hid hr16
          clear s16
          go_wp2_with fail
          refine (known1_calls w16 o16).mono ?_
          rintro e w18 ⟨r18, o18, rfl, s18, rfl⟩
          have s19 := Lib.hid (s17.out.trans s18.none)
          clear s18
          go_wp2
          go_ret
          exact Post.mk (s19.out.law (by simp)) rfl

end Go.Proofs.Ytollifmdoldacaa
