/- OctetTakes: the walk. Printed by wip/takesgen.py. -/
import Derived.Test.YtollifmdoldacaaTakesP
import Derived.Deep.RegionHeld3
namespace Go.Proofs.Ytollifmdoldacaa
set_option linter.unusedVariables false
set_option linter.unusedSimpArgs false
open Go.RowKit

theorem Xr.new {w : World} {o : Col} {d : Nat} {v : Value} {l : List UInt8} (c : Nat) (h : RdB w o d v l) (hne : d ≠ c) : Xr (w.alloc (.cells #[v, .bool false] 57)) (paint o w.heap.size c) c d w.heap.size v l false :=
  ⟨heap_alloc_new _ _, paint_at _ _ _, hne, h.stp ((Stp.refl [] w o).alloc _ c) (by simp)⟩
theorem xnumk_calls (c d p k : Nat) (v : Value) (l : List UInt8) (bad : Bool) (w : World) (o : Col) (h : Xr w o c d p v (numsL l bad k).1 (numsL l bad k).2) (hbl : bad = true → l = []) (hb : l.length ≤ 140737488355328) :
    Calls Try.prog 35 #[.pointer (some ⟨p, 0, none⟩)] w (Post [c] w o fun r w' o' => r = .int .i64 ((numsN l bad k : Nat) : Int) ∧ ∃ v', Xr w' o' c d p v' (numsL l bad (k + 1)).1 (numsL l bad (k + 1)).2) :=
  xnum_calls c d p v _ _ w o h (numsL_bad hbl k) (Nat.le_trans (numsL_le l bad k) hb)

/-- Two numbers and a row of where they lie, new. -/
theorem threeNew (w : World) (o : Col) (t : Nat) : ∃ O, Stp [] w o (((w.alloc (.cells #[.int .i64 7] 3)).alloc (.cells #[.int .i64 7] 3)).alloc (.cells #[.pointer (some ⟨w.heap.size, 0, none⟩), .pointer none, .pointer (some ⟨w.heap.size + 1, 0, none⟩)] t)) O ∧
    (((w.alloc (.cells #[.int .i64 7] 3)).alloc (.cells #[.int .i64 7] 3)).alloc (.cells #[.pointer (some ⟨w.heap.size, 0, none⟩), .pointer none, .pointer (some ⟨w.heap.size + 1, 0, none⟩)] t)).heap[w.heap.size]? = some (.cells #[.int .i64 7] 3 (0, 0)) ∧
    (((w.alloc (.cells #[.int .i64 7] 3)).alloc (.cells #[.int .i64 7] 3)).alloc (.cells #[.pointer (some ⟨w.heap.size, 0, none⟩), .pointer none, .pointer (some ⟨w.heap.size + 1, 0, none⟩)] t)).heap[w.heap.size + 1]? = some (.cells #[.int .i64 7] 3 (0, 0)) ∧
    (((w.alloc (.cells #[.int .i64 7] 3)).alloc (.cells #[.int .i64 7] 3)).alloc (.cells #[.pointer (some ⟨w.heap.size, 0, none⟩), .pointer none, .pointer (some ⟨w.heap.size + 1, 0, none⟩)] t)).heap[w.heap.size + 1 + 1]? = some (.cells #[.pointer (some ⟨w.heap.size, 0, none⟩), .pointer none, .pointer (some ⟨w.heap.size + 1, 0, none⟩)] t (0, 0)) ∧
    O w.heap.size = 5 ∧ O (w.heap.size + 1) = 5 ∧ O (w.heap.size + 1 + 1) = 7 := by
  have s1 := (Stp.refl [] w o).alloc (.cells #[.int .i64 7] 3) 5
  have h1 := heap_alloc_new w (.cells #[.int .i64 7] 3)
  obtain ⟨w1, e1⟩ : ∃ w1, w.alloc (.cells #[.int .i64 7] 3) = w1 := ⟨_, rfl⟩
  have z1 : w1.heap.size = w.heap.size + 1 := by rw [← e1, World.size_alloc]
  have c1 := paint_at o w.heap.size 5
  rw [e1] at s1 h1 ⊢
  have s2 := (Stp.refl [] w1 (paint o w.heap.size 5)).alloc (.cells #[.int .i64 7] 3) 5
  have h2 := heap_alloc_new w1 (.cells #[.int .i64 7] 3)
  have c2 := paint_at (paint o w.heap.size 5) w1.heap.size 5
  have h1b := s2.blk h1 (by simp)
  have c1b := (s2.colb h1).trans c1
  obtain ⟨w2, e2⟩ : ∃ w2, w1.alloc (.cells #[.int .i64 7] 3) = w2 := ⟨_, rfl⟩
  have z2 : w2.heap.size = w.heap.size + 1 + 1 := by rw [← e2, World.size_alloc, z1]
  rw [e2] at s2 h2 h1b ⊢
  have s3 := (Stp.refl [] w2 (paint (paint o w.heap.size 5) w1.heap.size 5)).alloc (.cells #[.pointer (some ⟨w.heap.size, 0, none⟩), .pointer none, .pointer (some ⟨w.heap.size + 1, 0, none⟩)] t) 7
  have h3 := heap_alloc_new w2 (.cells #[.pointer (some ⟨w.heap.size, 0, none⟩), .pointer none, .pointer (some ⟨w.heap.size + 1, 0, none⟩)] t)
  have c3 := paint_at (paint (paint o w.heap.size 5) w1.heap.size 5) w2.heap.size 7
  have k1 := s3.blk h1b (by simp)
  have k2 := s3.blk h2 (by simp)
  have c1c := (s3.colb h1b).trans c1b
  have c2c := (s3.colb h2).trans c2
  simp only [z1, z2] at h3 c3 k2 c1c c2c
  exact ⟨_, (s1.trans s2).trans s3, k1, k2, h3, by simpa only [z1, z2] using c1c, by simpa only [z1, z2] using c2c, by simpa only [z1, z2] using c3⟩

/-- What the loop of OctetTakes keeps. -/
def TkR (w0 : World) (o0 : Col) (p q n : Nat) (y : Value) (wr : World) : Prop := ∃ (k : Nat) (o' : Col) (v v2 : Value) (l : List UInt8) (bad : Bool), y = .int .i64 k ∧ k ≤ n ∧ Stp [1, 3, 5, 8] w0 o0 wr o' ∧ Rr wr o' 1 2 p v l bad ∧ Xr wr o' 3 4 q v2 l bad ∧ (bad = true → l = []) ∧ l.length ≤ 4000

set_option maxHeartbeats 8000000 in
set_option maxRecDepth 100000 in
theorem takes_law (vb : Value) (b : List UInt8) (vk : Value) (ks : List Int) (vn : Value) (ns : List Int) (w : World) (hb : RdB w (fun _ => 0) 0 vb b) (hks : Rd w (fun _ => 0) 0 1 vk ks.length (ks.map (.int .i64))) (hns : Rd w (fun _ => 0) 0 1 vn ns.length (ns.map (.int .i64))) :
    Calls Try.prog 10 #[vb, vk, vn] w (Post [] w (fun _ => 0) fun r _ _ => r = .bool true) := by
  obtain ⟨A, cap, rfl, hnc, hA⟩ := hb.shape
  obtain ⟨Ak, capk, rfl, hnck, hAk, _⟩ := hks.is
  obtain ⟨An, capn, rfl, hncn, hAn, _⟩ := hns.is
  by_cases g1 : 4000 < b.length
  · clear hb hks hns
    go_enter Try.func10, Try.ntmps10
    go_wp2
    go_ret
    exact Post.mk (Stp.refl _ _ _) rfl
  by_cases g2 : 200 < ks.length
  · clear hb hks hns
    go_enter Try.func10, Try.ntmps10
    go_wp2
    go_ret
    exact Post.mk (Stp.refl _ _ _) rfl
  by_cases g3 : ns.length < ks.length
  · clear hb hks hns
    go_enter Try.func10, Try.ntmps10
    go_wp2
    go_ret
    exact Post.mk (Stp.refl _ _ _) rfl
  have Hks := Lib.hid hks
  have Hns := Lib.hid hns
  have Hb := Lib.hid hb
  clear hks hns hb
  go_enter Try.func10, Try.ntmps10
  go_wp2_with fail
  refine (roomy_calls 0 6 _ b w _ Hb.out (by omega)).mono ?_
  rintro e w1 ⟨r1, o1, rfl, s1, hroom⟩
  obtain ⟨R, hR⟩ : ∃ R, b ++ [171] = R := ⟨_, rfl⟩
  have hRl : R.length = b.length + 1 := by rw [← hR]; simp
  have hRt : R.take b.length = b := by rw [← hR]; simp
  rw [hR] at hroom
  obtain ⟨A1, cap1, rfl⟩ := Own.shape hroom
  replace hR := Lib.hid hR
  replace hRt := Lib.hid hRt
  replace s1 := Lib.hid s1
  have Hroom := Lib.hid hroom
  have hroomr := OwnB.rd hroom
  clear hroom
  have zb : b.length ≤ R.length := by omega
  replace hRl := Lib.hid hRl
  replace hroomr := Lib.hid hroomr
  go_wp2_with (refine holdAt 36 ?_)
  apply Hold.mk
  refine slcBH (c := 6) (l := R) _ _ rfl rfl hroomr.out b.length rfl rfl zb fun A2 r2 => ?_
  rw [hRt.out] at r2
  replace r2 := Lib.hid r2
  go_wp2_with fail
  refine (newreader_calls 6 1 2 (by omega) _ b w1 o1 r2.out (by omega)).mono ?_
  rintro e w2 ⟨r3, o2, rfl, s2, p, v2, rfl, hrr⟩
  have hroom2 := Lib.hid (Hroom.out.stp s2 (by simp))
  have s3 : Stp [] w (fun _ => 0) w2 o2 := s1.out.trans s2
  have hb2 := Lib.hid (Hb.out.stp s3 (by simp))
  obtain ⟨e4, he4, _, he4d⟩ := fresh o2 w2.heap.size [0, 1, 2, 6]
  have sa : Stp [] w2 o2 (w2.alloc (.cells #[] 5)) (paint o2 w2.heap.size e4) := (Stp.refl [] w2 o2).alloc _ e4
  have hb3 := Lib.hid (hb2.out.stp sa (by simp))
  have hv3 := Lib.hid (OwnB.new w2 o2 e4 #[] [] rfl 0 rfl (by omega) _ rfl)
  replace s3 := Lib.hid s3
  replace hrr := Lib.hid hrr
  replace sa := Lib.hid sa
  replace he4 := Lib.hid he4
  replace s2 := Lib.hid s2
  go_wp2_with (refine holdAt 42 ?_)
  apply Hold.mk
  refine appB (l := []) _ _ rfl rfl hv3.out hb3.out rfl rfl (by simp; omega) fun A4 cap4 w4 o4 j1 j2 _ _ => ?_
  simp only [List.nil_append, List.length_nil, Nat.zero_add] at j2
  have j3 : Stp [e4] w2 o2 w4 o4 := sa.out.none.trans j1
  obtain ⟨o5, rc, s5⟩ := (⟨_, Own.fresh j2 j3 he4d 4, (j3.drop he4d).repaint 4⟩ : ∃ oc, OwnB w4 oc 4 (.slice A4 b.length cap4) b ∧ Stp [] w2 o2 w4 oc)
  have hrr5 := hrr.out.stp s5 (by simp) (by simp)
  have hroom5 := hroom2.out.stp s5 (by simp)
  have s6 : Stp [] w (fun _ => 0) w4 o5 := s3.out.trans s5
  have sb : Stp [] w4 o5 (w4.alloc (.cells #[.slice A4 b.length cap4, .bool false] 57)) (paint o5 w4.heap.size 3) := (Stp.refl [] w4 o5).alloc _ 3
  have hrr6 := Lib.hid (hrr5.stp sb (by simp) (by simp))
  have hxr6 := Lib.hid (Xr.new 3 (OwnB.rd rc) (by omega))
  have hroom6 := Lib.hid (hroom5.stp sb (by simp))
  have s7 := Lib.hid (s6.trans sb)
  clear j1 j2 j3 rc s5 hrr5 hroom5 s6 sb
  have e0 : ([] : List UInt8).length + b.length = b.length := by simp
  go_wp2_with fail
  generalize w4.heap.size = q at *
  go_loopw [10] (TkR _ _ p q ks.length) (fun x _ => ks.length - (intOf x).toNat)
  case atStart => exact ⟨0, _, v2, _, b, false, rfl, Nat.zero_le _, Stp.refl _ _ _, hrr6.out, hxr6.out, by simp, by omega⟩
  case round =>
    obtain ⟨k, ow, v, vx, l, bad, rfl, hk, hs, hr, hx, hbl, hle⟩ := hrel
    have st := Lib.hid (s7.out.none.trans hs)
    by_cases hlt : k < ks.length
    · obtain ⟨ak, rfl, hck⟩ := (Hks.out.stp st.out (by simp)).get hlt
      obtain ⟨an, rfl, hcol, hcn⟩ := (Hns.out.stp st.out (by simp)).get' (show k < ns.length by omega)
      obtain ⟨z, hz⟩ : ∃ z, ks[k] = z := ⟨_, rfl⟩
      obtain ⟨n, hn⟩ : ∃ n, ns[k]'(by omega) = n := ⟨_, rfl⟩
      rw [hz] at hck
      rw [hn] at hcn
      replace hcol := Lib.hid hcol
      have g4 : (0 : Int) ≤ (k : Int) ∧ (k : Int) < (ks.length : Int) := by omega
      have g5 : (0 : Int) ≤ (k : Int) ∧ (k : Int) < (ns.length : Int) := by omega
      clear hz hn
      have Hcn := Lib.hid hcn
      clear hcn
      have Hbl := Lib.hid hbl
      clear hbl
      replace hr := Lib.hid hr
      replace hx := Lib.hid hx
      replace hs := Lib.hid hs
      by_cases z1 : z = 1
      · subst z1
        have n3 := nNum_bad Hbl.out
        go_wp2_with fail
        refine (rnum_calls 1 2 p v l bad wr ow hr.out (by omega)).mono ?_
        rintro e wa ⟨ra, oa, rfl, sa, rfl, va, hra⟩
        have hxa := hx.out.stp sa (by simp) (by simp)
        replace hra := Lib.hid hra
        go_wp2_with fail
        refine (xnum_calls 3 4 q vx l bad wa oa hxa Hbl.out (by omega)).mono ?_
        rintro e wb ⟨rb, ob, rfl, sb, rfl, vxa, hxb⟩
        have hrb := hra.out.stp sb (by simp) (by simp)
        have sc := Lib.hid ((hs.out.trans (sa.mono (D := [1, 3, 5, 8]) (by simp))).trans (sb.mono (D := [1, 3, 5, 8]) (by simp)))
        have hnl := Nat.le_trans (nNum_le l bad).1 hle

        obtain ⟨W, O, lF, badF, vF, vxF, hW, hrT, hxT, stT, hblF, hleF⟩ : ∃ W O lF badF vF vxF, wb = W ∧ Rr W O 1 2 p vF lF badF ∧ Xr W O 3 4 q vxF lF badF ∧ Stp [1, 3, 5, 8] _ _ W O ∧ (badF = true → lF = []) ∧ lF.length ≤ 4000 := ⟨_, ob, _, _, va, vxa, rfl, hrb, hxb, sc.out, n3, hnl⟩
        rw [hW]
        clear hW sa sb hra hxa hrb hxb n3 hnl sc hr hx hs st Hcn
        have hrn := Lib.hid (fun m => hrT.stp ((Stp.refl [] W O).drewN m) (by simp) (by simp))
        have hxn := Lib.hid (fun m => hxT.stp ((Stp.refl [] W O).drewN m) (by simp) (by simp))
        have cx0 := hxT.c0
        have cx1 := hxT.c1
        obtain ⟨AF, capF, rfl, _, _⟩ := hxT.rd.shape
        obtain ⟨gd, hgd⟩ : ∃ gd, (!badF) = gd := ⟨_, rfl⟩
        have hgd2 : (gd == badF) = false := by rw [← hgd]; cases badF <;> rfl
        replace hrT := Lib.hid hrT
        replace hxT := Lib.hid hxT
        replace stT := Lib.hid stT
        replace hblF := Lib.hid hblF
        replace hleF := Lib.hid hleF
        replace hgd := Lib.hid hgd
        go_wp2_with fail
        go_quiet (first
          | (go_at_call 31
             exact Calls.quiet_of_same ((rleft_calls 1 2 p _ _ _ _ O (hrn.out _)).mono (fun _ _ h => ⟨h.1, h.2.symm⟩)))
          | (go_at_call 19
             exact Calls.quiet_of_same ((rgood_calls 1 2 p _ _ _ _ O (hrn.out _)).mono (fun _ _ h => ⟨h.1.trans (by rw [hgd.out]), h.2.symm⟩)))
          | (go_at_call 20
             exact Calls.quiet_of_same ((rwhole_calls 1 2 p _ _ _ _ O (hrn.out _)).mono (fun _ _ h => ⟨h.1, h.2.symm⟩)))
          | (go_at_call 39
             exact Calls.quiet_of_same ((xwhole_calls 3 4 q _ _ _ _ O (hxn.out _)).mono (fun _ _ h => ⟨h.1, h.2.symm⟩))))
        go_wp2
        go_roundw
        case rel => exact ⟨k + 1, O, _, _, lF, badF, by go_num, hlt, stT.out.drewN _, hrn.out _, hxn.out _, hblF.out, hleF.out⟩
        case measure => simp [intOf]; omega

      by_cases z2 : z = 2
      · subst z2
        have n3 := nBytes_bad Hbl.out
        have hnl := Nat.le_trans (nBytes_le l bad).2 hle
        have hml := Nat.le_trans (nBytes_le l bad).1 hle
        go_wp2_with fail
        refine (rbytes_calls 1 2 8 p v l bad wr ow hr.out (by omega)).mono ?_
        rintro e wa ⟨ra, oa, rfl, sa, hva, va, hra⟩
        obtain ⟨L, hL⟩ : ∃ L, (nBytes l bad).1 = L := ⟨_, rfl⟩
        rw [hL] at hva hml
        obtain ⟨Aa, capa, rfl⟩ := Own.shape hva
        have hxa := hx.out.stp sa (by simp) (by simp)
        replace hra := Lib.hid hra
        replace hva := Lib.hid hva
        go_wp2_with fail
        refine (xbytes_calls 3 4 9 q vx l bad wa oa hxa Hbl.out (by omega)).mono ?_
        rintro e wb ⟨rb, ob, rfl, sb, hvb, vxa, hxb⟩
        rw [hL] at hvb
        replace hL := Lib.hid hL
        obtain ⟨Ab, capb, rfl⟩ := Own.shape hvb
        have hrb := hra.out.stp sb (by simp) (by simp)
        have hvab := hva.out.stp sb (by simp)
        have sc := (hs.out.trans (sa.mono (D := [1, 3, 5, 8]) (by simp))).trans (sb.mono (D := [1, 3, 5, 8]) (by simp))
        replace hvb := Lib.hid hvb
        replace hrb := Lib.hid hrb
        replace hxb := Lib.hid hxb
        replace sc := Lib.hid sc
        clear sa sb hxa
        go_wp2_with fail
        refine (same_calls 8 9 _ _ L L wb ob (OwnB.rd hvab) (OwnB.rd hvb.out)).mono ?_
        rintro e wc ⟨rc, oc, rfl, s9, rfl⟩
        rw [beq_self_eq_true]
        have hvac := hvab.stp s9 (by simp)
        have hrc := hrb.out.stp s9 (by simp) (by simp)
        have hxc := hxb.out.stp s9 (by simp) (by simp)
        have sd := sc.out.trans s9.none
        replace hrc := Lib.hid hrc
        replace hxc := Lib.hid hxc
        replace sd := Lib.hid sd
        clear s9 hvab
        go_wp2_with fail
        refine (spoil_calls 8 _ L wc oc hvac (by omega)).mono ?_
        rintro e we ⟨re, oe, rfl, s10, rfl⟩
        have hre := hrc.out.stp s10 (by simp) (by simp)
        have hxe := hxc.out.stp s10 (by simp) (by simp)
        have sf := Lib.hid (sd.out.trans (s10.mono (by simp)))

        obtain ⟨W, O, lF, badF, vF, vxF, hW, hrT, hxT, stT, hblF, hleF⟩ : ∃ W O lF badF vF vxF, we = W ∧ Rr W O 1 2 p vF lF badF ∧ Xr W O 3 4 q vxF lF badF ∧ Stp [1, 3, 5, 8] _ _ W O ∧ (badF = true → lF = []) ∧ lF.length ≤ 4000 := ⟨_, oe, _, _, va, vxa, rfl, hre, hxe, sf.out, n3, hnl⟩
        rw [hW]
        clear hW s10 hre hxe n3 hnl sf hr hx hs st Hcn hvac hrc hxc sd hvb hva hra hrb hxb sc
        have hrn := Lib.hid (fun m => hrT.stp ((Stp.refl [] W O).drewN m) (by simp) (by simp))
        have hxn := Lib.hid (fun m => hxT.stp ((Stp.refl [] W O).drewN m) (by simp) (by simp))
        have cx0 := hxT.c0
        have cx1 := hxT.c1
        obtain ⟨AF, capF, rfl, _, _⟩ := hxT.rd.shape
        obtain ⟨gd, hgd⟩ : ∃ gd, (!badF) = gd := ⟨_, rfl⟩
        have hgd2 : (gd == badF) = false := by rw [← hgd]; cases badF <;> rfl
        replace hrT := Lib.hid hrT
        replace hxT := Lib.hid hxT
        replace stT := Lib.hid stT
        replace hblF := Lib.hid hblF
        replace hleF := Lib.hid hleF
        replace hgd := Lib.hid hgd
        go_wp2_with fail
        go_quiet (first
          | (go_at_call 31
             exact Calls.quiet_of_same ((rleft_calls 1 2 p _ _ _ _ O (hrn.out _)).mono (fun _ _ h => ⟨h.1, h.2.symm⟩)))
          | (go_at_call 19
             exact Calls.quiet_of_same ((rgood_calls 1 2 p _ _ _ _ O (hrn.out _)).mono (fun _ _ h => ⟨h.1.trans (by rw [hgd.out]), h.2.symm⟩)))
          | (go_at_call 20
             exact Calls.quiet_of_same ((rwhole_calls 1 2 p _ _ _ _ O (hrn.out _)).mono (fun _ _ h => ⟨h.1, h.2.symm⟩)))
          | (go_at_call 39
             exact Calls.quiet_of_same ((xwhole_calls 3 4 q _ _ _ _ O (hxn.out _)).mono (fun _ _ h => ⟨h.1, h.2.symm⟩))))
        go_wp2
        go_roundw
        case rel => exact ⟨k + 1, O, _, _, lF, badF, by go_num, hlt, stT.out.drewN _, hrn.out _, hxn.out _, hblF.out, hleF.out⟩
        case measure => simp [intOf]; omega

      by_cases z3 : z = 3
      · subst z3
        have n3 := nRaw_bad (n := n) Hbl.out
        have hnl := Nat.le_trans (nRaw_le n l bad).2 hle
        obtain ⟨L, hL⟩ : ∃ L, (nRaw n l bad).1 = L := ⟨_, rfl⟩
        have d1 : wr.drew.cell? (an.add k) = some (.int .i64 n) := Hcn.out
        have hrd := Lib.hid (hr.out.stp (Stp.refl [] wr ow).drew (by simp) (by simp))
        have hxd := Lib.hid (hx.out.stp (Stp.refl [] wr ow).drew (by simp) (by simp))
        have sd := Lib.hid hs.out.drew
        have hcn := Hcn.out
        replace n3 := Lib.hid n3
        replace hnl := Lib.hid hnl
        replace hL := Lib.hid hL
        have hlb : l.length ≤ 140737488355328 := by omega
        go_wp2_with fail
        go_region_held3 (fun w' => w'.cell? (an.add k) = some (.int .i64 n)) (first | with_reducible exact d1 | with_reducible exact e1 | with_reducible exact f1 | with_reducible exact k1 | with_reducible exact m1)
          (first
            | (go_at_call 32
               first | refine (rraw_calls 1 2 8 p _ l bad n _ _ hrC.out hlb).mono ?_ | refine (rraw_calls 1 2 8 p _ l bad n _ _ hrd.out hlb).mono ?_
               rintro e wa ⟨ra, oa, rfl, sa, hva, va, hrN⟩
               rw [hL.out] at hva
               obtain ⟨Aa, capa, rfl⟩ := Own.shape hva
               first
                 | (have hxF := Lib.hid (hxN.out.stp sa (by simp) (by simp)); have hvF := Lib.hid (hvb.out.stp sa (by simp)); have st1 := Lib.hid (st0.out.trans (sa.mono (D := [1, 3, 5, 8]) (by simp))); have k1 := sa.cell e1 (by rw [q1]; decide); have hrF := Lib.hid hrN; have hvE := Lib.hid hva)
                 | (have hxC := Lib.hid (hxd.out.stp sa (by simp) (by simp)); have st0 := Lib.hid (sd.out.trans (sa.mono (D := [1, 3, 5, 8]) (by simp))); have q1 : oa (an.add k).block = 0 := (sa.colc d1).trans hcol.out; have f1 := sa.cell d1 (by rw [hcol.out]; decide); skip)
               replace hrN := Lib.hid hrN
               replace hva := Lib.hid hva
               replace sa := Lib.hid sa)
            | (go_at_call 37
               first | refine (xraw_calls 3 4 9 q _ l bad n _ _ hxC.out Hbl.out hlb).mono ?_ | refine (xraw_calls 3 4 9 q _ l bad n _ _ hxd.out Hbl.out hlb).mono ?_
               rintro e wb ⟨rb, ob, rfl, sb, hvb, vxa, hxN⟩
               rw [hL.out] at hvb
               obtain ⟨Ab, capb, rfl⟩ := Own.shape hvb
               first
                 | (have hrF := Lib.hid (hrN.out.stp sb (by simp) (by simp)); have hvE := Lib.hid (hva.out.stp sb (by simp)); have st1 := Lib.hid (st0.out.trans (sb.mono (D := [1, 3, 5, 8]) (by simp))); have k1 := sb.cell f1 (by rw [q1]; decide); have hxF := Lib.hid hxN; have hvF := Lib.hid hvb)
                 | (have hrC := Lib.hid (hrd.out.stp sb (by simp) (by simp)); have st0 := Lib.hid (sd.out.trans (sb.mono (D := [1, 3, 5, 8]) (by simp))); have q1 : ob (an.add k).block = 0 := (sb.colc d1).trans hcol.out; have e1 := sb.cell d1 (by rw [hcol.out]; decide); skip)
               replace hxN := Lib.hid hxN
               replace hvb := Lib.hid hvb
               replace sb := Lib.hid sb)
            | (go_at_call 14
               refine (same_calls 8 9 _ _ L L _ _ (OwnB.rd hvE.out) (OwnB.rd hvF.out)).mono ?_
               rintro e wc ⟨rc, oc, rfl, s9, rfl⟩
               rw [beq_self_eq_true]
               have m1 := s9.cell k1 (by simp)
               have hrG := Lib.hid (hrF.out.stp s9 (by simp) (by simp))
               have hxG := Lib.hid (hxF.out.stp s9 (by simp) (by simp))
               have st2 := Lib.hid (st1.out.trans s9.none)
               replace s9 := Lib.hid s9))
        all_goals
          obtain ⟨W, O, lF, badF, vF, vxF, hW, hrT, hxT, stT, hblF, hleF⟩ : ∃ W O lF badF vF vxF, wc = W ∧ Rr W O 1 2 p vF lF badF ∧ Xr W O 3 4 q vxF lF badF ∧ Stp [1, 3, 5, 8] _ _ W O ∧ (badF = true → lF = []) ∧ lF.length ≤ 4000 := ⟨_, oc, _, _, va, vxa, rfl, hrG.out, hxG.out, st2.out, n3.out, hnl.out⟩
          rw [hW]
          clear hW s9 hrG hxG st2 n3 hnl hrF hxF hrN hxN hvE hvF hva hvb d1 hrd hxd sd hcn hr hx hs st Hcn
          have hrn := Lib.hid (fun m => hrT.stp ((Stp.refl [] W O).drewN m) (by simp) (by simp))
          have hxn := Lib.hid (fun m => hxT.stp ((Stp.refl [] W O).drewN m) (by simp) (by simp))
          have cx0 := hxT.c0
          have cx1 := hxT.c1
          obtain ⟨AF, capF, rfl, _, _⟩ := hxT.rd.shape
          obtain ⟨gd, hgd⟩ : ∃ gd, (!badF) = gd := ⟨_, rfl⟩
          have hgd2 : (gd == badF) = false := by rw [← hgd]; cases badF <;> rfl
          replace hrT := Lib.hid hrT
          replace hxT := Lib.hid hxT
          replace stT := Lib.hid stT
          replace hblF := Lib.hid hblF
          replace hleF := Lib.hid hleF
          replace hgd := Lib.hid hgd
          go_wp2_with fail
          go_quiet (first
            | (go_at_call 31
               exact Calls.quiet_of_same ((rleft_calls 1 2 p _ _ _ _ O (hrn.out _)).mono (fun _ _ h => ⟨h.1, h.2.symm⟩)))
            | (go_at_call 19
               exact Calls.quiet_of_same ((rgood_calls 1 2 p _ _ _ _ O (hrn.out _)).mono (fun _ _ h => ⟨h.1.trans (by rw [hgd.out]), h.2.symm⟩)))
            | (go_at_call 20
               exact Calls.quiet_of_same ((rwhole_calls 1 2 p _ _ _ _ O (hrn.out _)).mono (fun _ _ h => ⟨h.1, h.2.symm⟩)))
            | (go_at_call 39
               exact Calls.quiet_of_same ((xwhole_calls 3 4 q _ _ _ _ O (hxn.out _)).mono (fun _ _ h => ⟨h.1, h.2.symm⟩))))
          go_wp2
          go_roundw
          case rel => exact ⟨k + 1, O, _, _, lF, badF, by go_num, hlt, stT.out.drewN _, hrn.out _, hxn.out _, hblF.out, hleF.out⟩
          case measure => simp [intOf]; omega

      by_cases z4 : z = 4
      · subst z4
        go_wp2_with fail
        refine (rbad_calls 1 2 p v l bad wr ow hr.out).mono ?_
        rintro e wa ⟨ra, oa, rfl, sa, rfl, hra⟩
        have hxa := hx.out.stp sa (by simp) (by simp)
        replace hra := Lib.hid hra
        go_wp2_with fail
        refine (xbad_calls 3 4 q vx l bad wa oa hxa).mono ?_
        rintro e wb ⟨rb, ob, rfl, sb, rfl, hxb⟩
        have hrb := hra.out.stp sb (by simp) (by simp)
        have sc := Lib.hid ((hs.out.trans (sa.mono (D := [1, 3, 5, 8]) (by simp))).trans (sb.mono (D := [1, 3, 5, 8]) (by simp)))

        obtain ⟨W, O, lF, badF, vF, vxF, hW, hrT, hxT, stT, hblF, hleF⟩ : ∃ W O lF badF vF vxF, wb = W ∧ Rr W O 1 2 p vF lF badF ∧ Xr W O 3 4 q vxF lF badF ∧ Stp [1, 3, 5, 8] _ _ W O ∧ (badF = true → lF = []) ∧ lF.length ≤ 4000 := ⟨_, ob, _, _, _, _, rfl, hrb, hxb, sc.out, fun _ => rfl, by simp⟩
        rw [hW]
        clear hW sa sb hra hxa hrb hxb sc hr hx hs st Hcn
        have hrn := Lib.hid (fun m => hrT.stp ((Stp.refl [] W O).drewN m) (by simp) (by simp))
        have hxn := Lib.hid (fun m => hxT.stp ((Stp.refl [] W O).drewN m) (by simp) (by simp))
        have cx0 := hxT.c0
        have cx1 := hxT.c1
        obtain ⟨AF, capF, rfl, _, _⟩ := hxT.rd.shape
        obtain ⟨gd, hgd⟩ : ∃ gd, (!badF) = gd := ⟨_, rfl⟩
        have hgd2 : (gd == badF) = false := by rw [← hgd]; cases badF <;> rfl
        replace hrT := Lib.hid hrT
        replace hxT := Lib.hid hxT
        replace stT := Lib.hid stT
        replace hblF := Lib.hid hblF
        replace hleF := Lib.hid hleF
        replace hgd := Lib.hid hgd
        go_wp2_with fail
        go_quiet (first
          | (go_at_call 31
             exact Calls.quiet_of_same ((rleft_calls 1 2 p _ _ _ _ O (hrn.out _)).mono (fun _ _ h => ⟨h.1, h.2.symm⟩)))
          | (go_at_call 19
             exact Calls.quiet_of_same ((rgood_calls 1 2 p _ _ _ _ O (hrn.out _)).mono (fun _ _ h => ⟨h.1.trans (by rw [hgd.out]), h.2.symm⟩)))
          | (go_at_call 20
             exact Calls.quiet_of_same ((rwhole_calls 1 2 p _ _ _ _ O (hrn.out _)).mono (fun _ _ h => ⟨h.1, h.2.symm⟩)))
          | (go_at_call 39
             exact Calls.quiet_of_same ((xwhole_calls 3 4 q _ _ _ _ O (hxn.out _)).mono (fun _ _ h => ⟨h.1, h.2.symm⟩))))
        go_wp2
        go_roundw
        case rel => exact ⟨k + 1, O, _, _, lF, badF, by go_num, hlt, stT.out.drewN _, hrn.out _, hxn.out _, hblF.out, hleF.out⟩
        case measure => simp [intOf]; omega

      replace z1 : (z == 1) = false := by simp [z1]
      replace z2 : (z == 2) = false := by simp [z2]
      replace z3 : (z == 3) = false := by simp [z3]
      replace z4 : (z == 4) = false := by simp [z4]
      obtain ⟨O3, st3, pa, pb, pg, oa, ob, og⟩ := threeNew wr ow 58
      have hr3 := Lib.hid (hr.out.stp st3 (by simp) (by simp))
      have hx3 := Lib.hid (hx.out.stp st3 (by simp) (by simp))
      have sA := Lib.hid (hs.out.trans st3.none)
      replace st3 := Lib.hid st3
      replace pa := Lib.hid pa
      replace pb := Lib.hid pb
      replace pg := Lib.hid pg
      have hlb : l.length ≤ 140737488355328 := by omega
      go_wp2_with fail
      refine (rnums_calls 1 2 5 p wr.heap.size (wr.heap.size + 1) (wr.heap.size + 1 + 1) 58 v l bad _ _ _ _ O3 hr3.out hlb pa.out pb.out (by omega) oa ob (by omega) (by omega) pg.out (by rw [og]; decide) (by rw [og]; decide)).mono ?_
      rintro e wa ⟨ra, o1, rfl, sa, rfl, va, hra, ca, cb⟩
      have hxa := hx3.out.stp sa (by simp) (by simp)
      have oa1 : o1 wr.heap.size = 5 := (sa.colc (blk_cell pa.out 0)).trans oa
      have ob1 : o1 (wr.heap.size + 1) = 5 := (sa.colc (blk_cell pb.out 0)).trans ob
      have sB := Lib.hid (sA.out.trans (sa.mono (D := [1, 3, 5, 8]) (by simp)))
      replace hra := Lib.hid hra
      replace sa := Lib.hid sa
      generalize wr.heap.size = pA at *
      generalize pA + 1 = pB at *
      clear pa pb pg oa ob og st3 sA hr3 hx3
      go_wp2_with fail
      refine (xnumk_calls 3 4 q 0 vx l bad wa o1 hxa Hbl.out hlb).mono ?_
      rintro e wb ⟨rb, o2, rfl, sb, rfl, vxb, hxb⟩
      have hrb := hra.out.stp sb (by simp) (by simp)
      have ca2 := sb.cell ca (by show o1 pA ∉ [3]; rw [oa1]; decide)
      have cb2 := sb.cell cb (by show o1 pB ∉ [3]; rw [ob1]; decide)
      have oa2 : o2 pA = 5 := (sb.colc ca).trans oa1
      have ob2 : o2 pB = 5 := (sb.colc cb).trans ob1
      have sC := Lib.hid (sB.out.trans (sb.mono (D := [1, 3, 5, 8]) (by simp)))
      replace hrb := Lib.hid hrb
      replace sb := Lib.hid sb
      clear ca cb oa1 ob1 sB hxa hra
      go_wp2_with fail
      refine (xnumk_calls 3 4 q 1 vxb l bad wb o2 hxb Hbl.out hlb).mono ?_
      rintro e wc ⟨rc, o3, rfl, sc, rfl, vxc, hxc⟩
      have hrc := hrb.out.stp sc (by simp) (by simp)
      have ca3 := sc.cell ca2 (by show o2 pA ∉ [3]; rw [oa2]; decide)
      have cb3 := sc.cell cb2 (by show o2 pB ∉ [3]; rw [ob2]; decide)
      have oa3 : o3 pA = 5 := (sc.colc ca2).trans oa2
      have ob3 : o3 pB = 5 := (sc.colc cb2).trans ob2
      have sD := Lib.hid (sC.out.trans (sc.mono (D := [1, 3, 5, 8]) (by simp)))
      have hxd := Lib.hid (hxc.stp (Stp.refl [] wc o3).drew (by simp) (by simp))
      have da : wc.drew.cell? ⟨pA, 0, none⟩ = some (.int .i64 ((numsN l bad 0 : Nat) : Int)) := ca3
      have db : wc.drew.cell? ⟨pB, 0, none⟩ = some (.int .i64 ((numsN l bad 2 : Nat) : Int)) := cb3
      have hrd := Lib.hid (hrc.stp (Stp.refl [] wc o3).drew (by simp) (by simp))
      have sE := Lib.hid sD.out.drew
      replace hrc := Lib.hid hrc
      replace hxc := Lib.hid hxc
      replace sc := Lib.hid sc
      clear ca2 cb2 oa2 ob2 sC hxb hrb
      go_wp2_with fail
      go_region_held3 (fun w' => w'.cell? ⟨pA, 0, none⟩ = some (.int .i64 ((numsN l bad 0 : Nat) : Int)) ∧ w'.cell? ⟨pB, 0, none⟩ = some (.int .i64 ((numsN l bad 2 : Nat) : Int))) (first | with_reducible exact ⟨da, db⟩ | with_reducible exact ⟨ea, eb⟩)
        (first | (go_at_call 35
                  refine (xnumk_calls 3 4 q 2 vxc l bad _ _ hxd.out Hbl.out hlb).mono ?_
                  rintro e wd ⟨rd, o4, rfl, s9, rfl, vxd, hxG⟩
                  have ea := s9.cell da (by show o3 pA ∉ [3]; rw [oa3]; decide)
                  have eb := s9.cell db (by show o3 pB ∉ [3]; rw [ob3]; decide)
                  have hrG := Lib.hid (hrd.out.stp s9 (by simp) (by simp))
                  have st2 := Lib.hid (sE.out.trans (s9.mono (D := [1, 3, 5, 8]) (by simp)))
                  replace hxG := Lib.hid hxG
                  replace s9 := Lib.hid s9))
      have n3 := Lib.hid (numsL_bad Hbl.out 3)
      have hnl := Lib.hid (Nat.le_trans (numsL_le l bad 3) hle)

      obtain ⟨W, O, lF, badF, vF, vxF, hW, hrT, hxT, stT, hblF, hleF⟩ : ∃ W O lF badF vF vxF, wd = W ∧ Rr W O 1 2 p vF lF badF ∧ Xr W O 3 4 q vxF lF badF ∧ Stp [1, 3, 5, 8] _ _ W O ∧ (badF = true → lF = []) ∧ lF.length ≤ 4000 := ⟨_, o4, _, _, va, vxd, rfl, hrG.out, hxG.out, st2.out, n3.out, hnl.out⟩
      rw [hW]
      clear hW s9 hrG hxG st2 n3 hnl hrd hxd sE ca3 cb3 hrc hxc da db ea eb hr hx hs st Hcn
      have hrn := Lib.hid (fun m => hrT.stp ((Stp.refl [] W O).drewN m) (by simp) (by simp))
      have hxn := Lib.hid (fun m => hxT.stp ((Stp.refl [] W O).drewN m) (by simp) (by simp))
      have cx0 := hxT.c0
      have cx1 := hxT.c1
      obtain ⟨AF, capF, rfl, _, _⟩ := hxT.rd.shape
      obtain ⟨gd, hgd⟩ : ∃ gd, (!badF) = gd := ⟨_, rfl⟩
      have hgd2 : (gd == badF) = false := by rw [← hgd]; cases badF <;> rfl
      replace hrT := Lib.hid hrT
      replace hxT := Lib.hid hxT
      replace stT := Lib.hid stT
      replace hblF := Lib.hid hblF
      replace hleF := Lib.hid hleF
      replace hgd := Lib.hid hgd
      go_wp2_with fail
      go_quiet (first
        | (go_at_call 31
           exact Calls.quiet_of_same ((rleft_calls 1 2 p _ _ _ _ O (hrn.out _)).mono (fun _ _ h => ⟨h.1, h.2.symm⟩)))
        | (go_at_call 19
           exact Calls.quiet_of_same ((rgood_calls 1 2 p _ _ _ _ O (hrn.out _)).mono (fun _ _ h => ⟨h.1.trans (by rw [hgd.out]), h.2.symm⟩)))
        | (go_at_call 20
           exact Calls.quiet_of_same ((rwhole_calls 1 2 p _ _ _ _ O (hrn.out _)).mono (fun _ _ h => ⟨h.1, h.2.symm⟩)))
        | (go_at_call 39
           exact Calls.quiet_of_same ((xwhole_calls 3 4 q _ _ _ _ O (hxn.out _)).mono (fun _ _ h => ⟨h.1, h.2.symm⟩))))
      go_wp2
      go_roundw
      case rel => exact ⟨k + 1, O, _, _, lF, badF, by go_num, hlt, stT.out.drewN _, hrn.out _, hxn.out _, hblF.out, hleF.out⟩
      case measure => simp [intOf]; omega

    · have hroomF := hroom6.out.stp hs (by simp)
      have hbF := Hb.out.stp st.out (by simp)
      replace hr := Lib.hid hr
      replace hx := Lib.hid hx
      replace hs := Lib.hid hs
      go_wp2_with fail
      refine (stands_calls 6 0 _ _ b wr ow (by rw [hR.out]; exact OwnB.rd hroomF) hbF (by omega)).mono ?_
      rintro e wa ⟨ra, oa, rfl, sa, rfl⟩
      have hra := hr.out.stp sa (by simp) (by simp)
      have hxa := hx.out.stp sa (by simp) (by simp)
      have sc := Lib.hid (st.out.trans sa.none)
      clear sa hroomF hbF
      go_wp2_with fail
      refine (rwhole_calls 1 2 p _ _ _ wa oa hra).mono ?_
      rintro e w9 ⟨rfl, rfl⟩
      replace hra := Lib.hid hra
      go_wp2_with fail
      refine (xwhole_calls 3 4 q _ _ _ wa oa hxa).mono ?_
      rintro e w9 ⟨rfl, rfl⟩
      replace hxa := Lib.hid hxa
      go_wp2_with fail
      refine (known1_calls wa oa).mono ?_
      rintro e wb ⟨rb, ob, rfl, sb, rfl⟩
      have sd := Lib.hid (sc.out.trans sb.none)
      clear sb
      go_wp2
      go_ret
      exact Post.mk (sd.out.law (by simp)) rfl

end Go.Proofs.Ytollifmdoldacaa
