/- PagePlays: the walks of what it calls. -/
import Derived.Test.YtbhmfiibaeladaaActs
import Derived.Test.YtbhmfiibaeladaaRef11c
import Derived.Test.YtbhmfiibaeladaaPageS
import Derived.Deep.RegionHeld3
namespace Go.Proofs.Ytbhmfiibaeladaa
set_option linter.unusedVariables false
set_option linter.unusedSimpArgs false
open Go.RowKit

/-- What an act makes of a flash. -/
def actS (s : FS) (x : ActL) : FS := if x.kind = 1 then eraseS s x.i else if x.kind = 2 then progS s x.i x.b else if x.kind = 3 then fuseS s x.n x.tear else bootS s

set_option maxHeartbeats 2000000 in
set_option maxRecDepth 100000 in
theorem act_calls (c p g cap cx ex px : Nat) (vP : Value) (vs : List Value) (s : FS) (x : ActL) (w : World) (o : Col) (hf : Fl w o c p g cap s) (hx : XFl w o cx ex px vP vs s) (hb : RdB w o 0 x.vb x.b) (hn : x.n ≤ 9223372036854775807)
    (h1 : c ≠ 0) (h2 : cx ≠ 0) (h3 : ex ≠ 0) (h4 : c ≠ cx) (h5 : c ≠ ex) (h6 : cx ≠ ex) :
    Calls Try.prog 19 #[.pointer (some ⟨p, 0, none⟩), .pointer (some ⟨px, 0, none⟩), .agg x.cells.toArray] w (Post [c, cx, ex] w o fun r w' o' => r = .bool true ∧ Fl w' o' c p g cap (actS s x) ∧ XFl w' o' cx ex px vP vs (actS s x)) := by
  obtain ⟨kind, i, vb, b, n, tear⟩ := x
  have s0 : Stp [] w o (w.alloc (.cells #[.int .i64 kind, .int .i64 i, vb, .int .i64 n, .int .i64 tear] 42)) (paint o w.heap.size 0) := (Stp.refl [] w o).alloc _ 0
  have f0 := hf.stp s0 (by simp)
  have x0 := hx.stp s0 (by simp) (by simp)
  have b0 := hb.stp s0 (by simp)
  have hB := heap_alloc_new w (.cells #[.int .i64 kind, .int .i64 i, vb, .int .i64 n, .int .i64 tear] 42)
  have hO : paint o w.heap.size 0 w.heap.size = 0 := paint_at _ _ _
  obtain ⟨w1, hw1⟩ : ∃ w1, w.alloc (.cells #[.int .i64 kind, .int .i64 i, vb, .int .i64 n, .int .i64 tear] 42) = w1 := ⟨_, rfl⟩
  obtain ⟨o1, ho1⟩ : ∃ o1, paint o w.heap.size 0 = o1 := ⟨_, rfl⟩
  obtain ⟨B, hBB⟩ : ∃ B, w.heap.size = B := ⟨_, rfl⟩
  rw [hw1, ho1] at s0 f0 x0 b0
  rw [hw1, hBB] at hB
  rw [ho1, hBB] at hO
  have c0 : w1.cell? ⟨B, 0, none⟩ = some (.int .i64 kind) := blk_cell hB 0
  have c1 : w1.cell? ⟨B, 1, none⟩ = some (.int .i64 i) := blk_cell hB 1
  have c2 : w1.cell? ⟨B, 2, none⟩ = some vb := blk_cell hB 2
  have c3 : w1.cell? ⟨B, 3, none⟩ = some (.int .i64 n) := blk_cell hB 3
  have c4 : w1.cell? ⟨B, 4, none⟩ = some (.int .i64 tear) := blk_cell hB 4
  show Calls Try.prog 19 #[.pointer (some ⟨p, 0, none⟩), .pointer (some ⟨px, 0, none⟩), .agg #[.int .i64 kind, .int .i64 i, vb, .int .i64 n, .int .i64 tear]] w _
  have fd := f0.stp (Stp.refl [] w1 o1).drew (by simp)
  have xd := x0.stp (Stp.refl [] w1 o1).drew (by simp) (by simp)
  have bd := b0.stp (Stp.refl [] w1 o1).drew (by simp)
  have d1 : w1.drew.cell? ⟨B, 1, none⟩ = some (.int .i64 i) := c1
  have d2 : w1.drew.cell? ⟨B, 2, none⟩ = some vb := c2
  have sd : Stp [] w o w1.drew o1 := s0.drew
  have hc1 : o1 (⟨B, 1, none⟩ : Addr).block = 0 := hO
  have hc2 : o1 (⟨B, 2, none⟩ : Addr).block = 0 := hO
  have n1 : ¬ (0 : Nat) ∈ [c] := by simpa using Ne.symm h1
  have n2 : ¬ (0 : Nat) ∈ [cx, ex] := by simp [Ne.symm h2, Ne.symm h3]
  have n3 : ¬ c ∈ [cx, ex] := by simp [h4, h5]
  have n4 : ¬ cx ∈ [c] := by simpa using Ne.symm h4
  have n5 : ¬ ex ∈ [c] := by simpa using Ne.symm h5
  have m2 : 0 ≠ cx := Ne.symm h2
  have m3 : 0 ≠ ex := Ne.symm h3
  have n6 : ¬ (0 : Nat) ∈ [ex] := by simpa using Ne.symm h3
  have n7 : ¬ c ∈ [ex] := by simpa using h5
  replace f0 := Lib.hid f0
  replace x0 := Lib.hid x0
  replace b0 := Lib.hid b0
  replace fd := Lib.hid fd
  replace xd := Lib.hid xd
  replace bd := Lib.hid bd
  replace sd := Lib.hid sd
  replace s0 := Lib.hid s0
  replace hB := Lib.hid hB
  replace ho1 := Lib.hid ho1
  replace hO := Lib.hid hO
  replace hc1 := Lib.hid hc1
  replace hc2 := Lib.hid hc2
  replace n1 := Lib.hid n1
  replace n2 := Lib.hid n2
  clear hf hx hb h1 h2 h3 h4 h5
  by_cases k1 : kind = 1
  · subst k1
    rw [show actS s ⟨1, i, vb, b, n, tear⟩ = eraseS s i from if_pos rfl]
    go_enter Try.func19, Try.ntmps19
    go_wp2_with fail
    go_region_held3 (fun w' => w'.cell? ⟨B, 1, none⟩ = some (.int .i64 i)) (first | with_reducible exact d1 | with_reducible exact c1 | with_reducible exact e1 | with_reducible exact g1 | with_reducible exact k1)
      (first
        | (go_at_call 14
           first | refine (erase_calls c p g cap s i _ _ fC.out).mono ?_ | refine (erase_calls c p g cap s i _ _ fd.out).mono ?_
           rintro e wa ⟨ra, oa, rfl, sa, rfl, fN⟩
           first
             | (have xC := Lib.hid (xN.out.stp sa n4 n5); have st := Lib.hid (st1.out.trans (sa.mono (D := [c, cx, ex]) (by simp))); have k1 := sa.cell g1 (by rw [q1]; exact n1.out))
             | (have xC := Lib.hid (xd.out.stp sa n4 n5); have st1 := Lib.hid (sd.out.none.trans (sa.mono (D := [c, cx, ex]) (by simp))); have q1 : oa B = 0 := (sa.colc d1).trans hO.out; have e1 := sa.cell d1 (by rw [hO.out]; exact n1.out); skip)
           replace fN := Lib.hid fN
           replace sa := Lib.hid sa)
        | (go_at_call 29
           first | refine (xerase_calls cx ex px vP vs s i _ _ xC.out h6).mono ?_ | refine (xerase_calls cx ex px vP vs s i _ _ xd.out h6).mono ?_
           rintro e wb ⟨rb, ob, rfl, sb, rfl, xN⟩
           first
             | (have fC := Lib.hid (fN.out.stp sb n3); have st := Lib.hid (st1.out.trans (sb.mono (D := [c, cx, ex]) (by simp))); have k1 := sb.cell e1 (by rw [q1]; exact n2.out))
             | (have fC := Lib.hid (fd.out.stp sb n3); have st1 := Lib.hid (sd.out.none.trans (sb.mono (D := [c, cx, ex]) (by simp))); have q1 : ob B = 0 := (sb.colc d1).trans hO.out; have g1 := sb.cell d1 (by rw [hO.out]; exact n2.out); skip)
           replace xN := Lib.hid xN
           replace sb := Lib.hid sb))
    all_goals
      go_wp2
      go_ret
      exact Post.mk st.out ⟨rfl, by first | exact fC.out | exact fN.out, by first | exact xC.out | exact xN.out⟩
  by_cases k2 : kind = 2
  · subst k2
    rw [show actS s ⟨2, i, vb, b, n, tear⟩ = progS s i b from by rw [actS, if_neg (show ¬ (2 : Int) = 1 by decide), if_pos rfl]]
    go_enter Try.func19, Try.ntmps19
    go_wp2_with fail
    go_region_held3 (fun w' => w'.cell? ⟨B, 1, none⟩ = some (.int .i64 i) ∧ w'.cell? ⟨B, 2, none⟩ = some vb) (first | with_reducible exact ⟨d1, d2⟩ | with_reducible exact ⟨c1, c2⟩ | with_reducible exact ⟨e1, e2⟩ | with_reducible exact ⟨g1, g2⟩ | with_reducible exact ⟨k1, k2⟩)
      (first
        | (go_at_call 11
           first | refine (program_calls c 0 p g cap s i _ _ _ _ fC.out bC.out).mono ?_ | refine (program_calls c 0 p g cap s i _ _ _ _ fd.out bd.out).mono ?_
           rintro e wa ⟨ra, oa, rfl, sa, rfl, fN⟩
           first
             | (have xC := Lib.hid (xN.out.stp sa n4 n5); have st := Lib.hid (st1.out.trans (sa.mono (D := [c, cx, ex]) (by simp))); have k1 := sa.cell g1 (by rw [q1]; exact n1.out); have k2 := sa.cell g2 (by rw [q1]; exact n1.out))
             | (have xC := Lib.hid (xd.out.stp sa n4 n5); have st1 := Lib.hid (sd.out.none.trans (sa.mono (D := [c, cx, ex]) (by simp))); have q1 : oa B = 0 := (sa.colc d1).trans hO.out; have e1 := sa.cell d1 (by rw [hO.out]; exact n1.out); have e2 := sa.cell d2 (by rw [hO.out]; exact n1.out); have bC := Lib.hid (bd.out.stp sa n1.out))
           replace fN := Lib.hid fN
           replace sa := Lib.hid sa)
        | (go_at_call 30
           first | refine (xprog_calls cx ex px vP vs s i 0 _ _ _ _ xC.out bC.out m2 m3).mono ?_ | refine (xprog_calls cx ex px vP vs s i 0 _ _ _ _ xd.out bd.out m2 m3).mono ?_
           rintro e wb ⟨rb, ob, rfl, sb, rfl, xN⟩
           first
             | (have fC := Lib.hid (fN.out.stp sb n3); have st := Lib.hid (st1.out.trans (sb.mono (D := [c, cx, ex]) (by simp))); have k1 := sb.cell e1 (by rw [q1]; exact n2.out); have k2 := sb.cell e2 (by rw [q1]; exact n2.out))
             | (have fC := Lib.hid (fd.out.stp sb n3); have st1 := Lib.hid (sd.out.none.trans (sb.mono (D := [c, cx, ex]) (by simp))); have q1 : ob B = 0 := (sb.colc d1).trans hO.out; have g1 := sb.cell d1 (by rw [hO.out]; exact n2.out); have g2 := sb.cell d2 (by rw [hO.out]; exact n2.out); have bC := Lib.hid (bd.out.stp sb n2.out))
           replace xN := Lib.hid xN
           replace sb := Lib.hid sb))
    all_goals
      go_wp2
      go_ret
      exact Post.mk st.out ⟨rfl, by first | exact fC.out | exact fN.out, by first | exact xC.out | exact xN.out⟩
  by_cases k3 : kind = 3
  · subst k3
    rw [show actS s ⟨3, i, vb, b, n, tear⟩ = fuseS s n tear from by rw [actS, if_neg (show ¬ (3 : Int) = 1 by decide), if_neg (show ¬ (3 : Int) = 2 by decide), if_pos rfl]]
    go_enter Try.func19, Try.ntmps19
    go_wp2_with fail
    refine (fuse_calls c p g cap s n tear _ _ f0.out hn).mono ?_
    rintro e wa ⟨ra, oa, rfl, sa, rfl, fN⟩
    have e3 := sa.cell c3 (by rw [hc1.out]; exact n1.out)
    have e4 := sa.cell c4 (by rw [hc1.out]; exact n1.out)
    have xC := Lib.hid (x0.out.stp sa n4 n5)
    replace fN := Lib.hid fN
    replace sa := Lib.hid sa
    go_wp2_with fail
    refine (xfuse_calls cx ex px vP vs s n tear _ _ xC.out hn).mono ?_
    rintro e wb ⟨rb, ob, rfl, sb, rfl, xN⟩
    have fC := Lib.hid (fN.out.stp sb n7)
    have st := Lib.hid (s0.out.none.trans ((sa.out.mono (D := [c, cx, ex]) (by simp)).trans (sb.mono (by simp))))
    replace xN := Lib.hid xN
    replace sb := Lib.hid sb
    go_wp2
    go_ret
    exact Post.mk st.out ⟨rfl, fC.out, xN.out⟩
  · rw [show actS s ⟨kind, i, vb, b, n, tear⟩ = bootS s from by rw [actS, if_neg k1, if_neg k2, if_neg k3]]
    have j1 : (kind == 1) = false := by simpa using k1
    have j2 : (kind == 2) = false := by simpa using k2
    have j3 : (kind == 3) = false := by simpa using k3
    go_enter Try.func19, Try.ntmps19
    go_wp2_with fail
    refine (boot_calls c p g cap s _ _ f0.out).mono ?_
    rintro e wa ⟨ra, oa, rfl, sa, rfl, fN⟩
    have xC := Lib.hid (x0.out.stp sa n4 n5)
    replace fN := Lib.hid fN
    replace sa := Lib.hid sa
    go_wp2_with fail
    refine (xboot_calls cx ex px vP vs s _ _ xC.out).mono ?_
    rintro e wb ⟨rb, ob, rfl, sb, rfl, xN⟩
    have fC := Lib.hid (fN.out.stp sb n7)
    have st := Lib.hid (s0.out.none.trans ((sa.out.mono (D := [c, cx, ex]) (by simp)).trans (sb.mono (by simp))))
    replace xN := Lib.hid xN
    replace sb := Lib.hid sb
    go_wp2
    go_ret
    exact Post.mk st.out ⟨rfl, fC.out, xN.out⟩

/-- What the loop of 'long' keeps. -/
def LgR (w0 : World) (n : Nat) (x y : Value) (wr : World) : Prop := ∃ (k : Nat) (z : Int), y = .int .i64 k ∧ k ≤ n ∧ x = .int .i64 z ∧ wr = w0
set_option maxHeartbeats 1000000 in
set_option maxRecDepth 100000 in
theorem long_calls (c : Nat) (v : Value) (l : List ActL) (w : World) (o : Col) (h : Acts w o c v l) : Calls Try.prog 17 #[v] w fun e w' => ∃ b, e = .returned (.bool b) ∧ w = w' := by
  obtain ⟨⟨A, cap, rfl, hl, hb, hc⟩, hby⟩ := h
  go_enter Try.func17, Try.ntmps17
  go_wp2_with fail
  go_loopw [3, 4] (LgR w l.length) (fun _ y _ => l.length - (intOf y).toNat)
  case atStart => exact ⟨0, 0, rfl, Nat.zero_le _, rfl, rfl⟩
  case round =>
    obtain ⟨k, z, rfl, hk, rfl, rfl⟩ := hrel
    by_cases hlt : k < l.length
    · by_cases hk80 : k < 80
      · obtain ⟨a, rfl, _, hcell⟩ := hc (by omega)
        obtain ⟨x, hx⟩ : ∃ x, l[k]? = some x := ⟨l[k], by simp [hlt]⟩
        have hc2 := hcell k x hx 2 _ rfl
        obtain ⟨A2, cap2, hvb, _, _⟩ := (hby x (List.mem_of_getElem? hx)).1.shape
        rw [hvb, ← add_add, show (a.add (k * 5)).add 2 = ⟨(a.add (k * 5)).block, (a.add (k * 5)).off + 2, none⟩ from rfl] at hc2
        have g1 : decide ((k : Int) < (l.length : Int)) = true := decide_eq_true (by omega)
        have g2 : decide ((k : Int) < 80) = true := decide_eq_true (by omega)
        have g3 : (0 : Int) ≤ (k : Int) ∧ (k : Int) < (l.length : Int) := by omega
        obtain ⟨Z, hZ⟩ : ∃ Z, wrap64 (wrap64 (z + 1) + (x.b.length : Int)) = Z := ⟨_, rfl⟩
        clear hcell hc hby
        by_cases hbig : 9000 < Z
        · go_wp2
          go_ret
          exact ⟨true, rfl, rfl⟩
        · have hbig2 : decide (9000 < Z) = false := decide_eq_false hbig
          go_wp2
          go_roundw
          case rel => exact ⟨k + 1, Z, by go_num, by omega, by rw [hZ], rfl⟩
          case measure => simp [intOf]; omega
      · have g1 : decide ((k : Int) < (l.length : Int)) = true := decide_eq_true (by omega)
        have g2 : decide ((k : Int) < 80) = false := decide_eq_false (by omega)
        go_wp2
        go_ret
        exact ⟨false, rfl, rfl⟩
    · have g1 : decide ((k : Int) < (l.length : Int)) = false := decide_eq_false (by omega)
      go_wp2
      go_ret
      exact ⟨false, rfl, rfl⟩

/-- What the loop of 'alike' keeps. -/
def AlR (w0 : World) (o0 : Col) (n : Nat) (x : Value) (wr : World) : Prop := ∃ (k : Nat) (o' : Col), x = .int .i64 ((k : Int) - 1) ∧ k ≤ n + 2 ∧ Stp [] w0 o0 wr o'
set_option maxHeartbeats 1000000 in
set_option maxRecDepth 100000 in
theorem alike_calls (c p g cap cx ex px : Nat) (vP : Value) (vs : List Value) (s : FS) (w : World) (o : Col) (hf : Fl w o c p g cap s) (hx : XFl w o cx ex px vP vs s) :
    Calls Try.prog 20 #[.pointer (some ⟨p, 0, none⟩), .pointer (some ⟨px, 0, none⟩)] w (Post [] w o fun r _ _ => r = .bool true) := by
  obtain ⟨A, capP, rfl⟩ := hx.shape
  have c0 := hx.c0
  have c3 := hx.c3
  have hok := Lib.hid hf.ok.2.1
  have hff := Lib.hid (fun n => hf.stp ((Stp.refl [] w o).drewN n) (by simp))
  replace hf := Lib.hid hf
  replace hx := Lib.hid hx
  go_enter Try.func20, Try.ntmps20
  go_wp2_with fail
  go_quiet (first
    | (go_at_call 23
       exact Calls.quiet_of_same ((len_calls c p g cap s _ o (hff.out _)).mono (fun _ _ h => ⟨h.1, h.2.symm⟩)))
    | (go_at_call 16
       exact Calls.quiet_of_same ((dead_calls c p g cap s _ o (hff.out _)).mono (fun _ _ h => ⟨h.1, h.2.symm⟩))))
  go_wp2_with fail
  obtain ⟨w1, hw1⟩ : ∃ w1, w.drewN nq = w1 := ⟨_, rfl⟩
  have s0 : Stp [] w o w1 o := by rw [← hw1]; exact (Stp.refl [] w o).drewN nq
  rw [hw1]
  clear c3 hw1
  go_loopw [5] (AlR w o s.pg.length) (fun x _ => s.pg.length + 2 - (intOf x + 1).toNat)
  case atStart => exact ⟨0, o, by go_num, by omega, s0⟩
  case round =>
    obtain ⟨k, o1, rfl, hk, hs⟩ := hrel
    obtain ⟨i, hi⟩ : ∃ i : Int, (k : Int) - 1 = i := ⟨_, rfl⟩
    have c0' := hs.cell c0 (by simp)
    rw [hi]
    by_cases hlt : k < s.pg.length + 2
    · have g1 : decide (i ≤ (s.pg.length : Int)) = true := decide_eq_true (by omega)
      have gi : -1 ≤ i ∧ i ≤ 256 := by have := hok.out; omega
      have hf2 := Lib.hid (hf.out.stp hs (by simp))
      have hx2 := Lib.hid (hx.out.stp hs (by simp) (by simp))
      replace hi := Lib.hid hi
      replace hs := Lib.hid hs
      obtain ⟨E, hE⟩ : ∃ E, readE s i = E := ⟨_, rfl⟩
      obtain ⟨L, hL⟩ : ∃ L, readB s i = L := ⟨_, rfl⟩
      go_wp2_with fail
      refine (read_calls c 0 p g cap s i _ _ hf2.out).mono ?_
      rintro e w2 ⟨r, o2, rfl, s2, v, rfl, hv⟩
      have hx3 := Lib.hid (hx2.out.stp s2 (by simp) (by simp))
      rw [hL] at hv
      rw [hE]
      obtain ⟨A1, cap1, rfl⟩ := Own.shape hv
      go_wp2_with fail
      refine (xread_calls cx ex 0 px _ vs s i _ _ hx3.out).mono ?_
      rintro e w3 ⟨r, o3, rfl, s3, v2, rfl, hv2⟩
      rw [hL] at hv2
      rw [hE]
      obtain ⟨A2, cap2, rfl⟩ := Own.shape hv2
      have cv1 := convBS (OwnB.rd (hv.stp s3 (by simp))) rfl
      have cv2 := convBS (OwnB.rd hv2) rfl
      have st := Lib.hid (hs.out.trans (s2.trans s3))
      replace hE := Lib.hid hE
      replace hL := Lib.hid hL
      clear hv hv2 s2 s3
      go_wp2
      go_roundw
      case rel => exact ⟨k + 1, o3, by have := hi.out; go_num, by omega, st.out⟩
      case measure => have := hi.out; simp [intOf]; omega
    · have g1 : decide (i ≤ (s.pg.length : Int)) = false := decide_eq_false (by omega)
      replace hs := Lib.hid hs
      go_wp2
      go_ret
      exact Post.mk hs.out rfl

end Go.Proofs.Ytbhmfiibaeladaa
