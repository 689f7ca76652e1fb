/- PageTears: the walk. -/
import Derived.Test.YtbhmfiibaeladaaPageS
namespace Go.Proofs.Ytbhmfiibaeladaa
set_option linter.unusedVariables false
set_option linter.unusedSimpArgs false
open Go.RowKit

def fz (pg : List (List UInt8)) (t : Nat) (d : Bool) : FS := ⟨pg, 0, t, d⟩
theorem fuse_st (pg : List (List UInt8)) (t : Nat) (ht : t ≤ 64) : fuseS (st pg) 0 t = fz pg t false := by
  simp only [fuseS, st, fz]
  congr 1
  omega
theorem may_zero {s : FS} (q : List UInt8) (pg : List (List UInt8)) (n : Nat) (hs : s.pg = q :: pg) (hd : s.dead = false) (hn : n ≤ 64) : mayE s 0 n = 0 := by
  simp [mayE, hd, hasB, hs]
  omega
theorem erase_fz (q : List UInt8) (pg : List (List UInt8)) (t : Nat) : eraseS (fz (q :: pg) t false) 0 = fz ((blankPage.take t ++ q.drop t) :: pg) t true ∧ eraseE (fz (q :: pg) t false) 0 = 11 := by
  have hm := may_zero (s := fz (q :: pg) t false) q pg 0 rfl rfl (by omega)
  refine ⟨?_, ?_⟩
  · rw [eraseS, if_pos hm, bec, if_pos (show (fz (q :: pg) t false).fuse = 0 from rfl)]
    simp [fz]
  · rw [eraseE, if_pos hm, becE, if_pos (show (fz (q :: pg) t false).fuse = 0 from rfl)]
theorem prog_fz (q b : List UInt8) (pg : List (List UInt8)) (t : Nat) (hb : b.length ≤ 64) : progS (fz (q :: pg) t false) 0 b = fz (((andPage q b).take t ++ q.drop t) :: pg) t true ∧ progE (fz (q :: pg) t false) 0 b = 11 := by
  have hm := may_zero (s := fz (q :: pg) t false) q pg b.length rfl rfl hb
  refine ⟨?_, ?_⟩
  · rw [progS, if_pos hm, bec, if_pos (show (fz (q :: pg) t false).fuse = 0 from rfl)]
    simp [fz]
  · rw [progE, if_pos hm, becE, if_pos (show (fz (q :: pg) t false).fuse = 0 from rfl)]
theorem read_any {s : FS} (i : Int) (k : Nat) (q : List UInt8) (hi : i = k) (hq : s.pg[k]? = some q) : readB s i = q ∧ readE s i = 0 := by
  have hk := (List.getElem?_eq_some_iff.1 hq).1
  subst hi
  have hb : hasB s k = true := by simp [hasB]; omega
  refine ⟨?_, ?_⟩
  · rw [readB, if_pos hb, Int.toNat_natCast, List.getD_eq_getElem?_getD, hq]
    rfl
  · rw [readE, if_pos hb]
theorem erase_dead {s : FS} (i : Int) (hd : s.dead = true) : eraseS s i = s ∧ eraseE s i = 11 := by
  have hm : mayE s i 0 = 11 := by rw [mayE, hd]; rfl
  exact ⟨by rw [eraseS, hm]; rfl, by rw [eraseE, hm]; rfl⟩
theorem prog_dead {s : FS} (i : Int) (b : List UInt8) (hd : s.dead = true) : progS s i b = s ∧ progE s i b = 11 := by
  have hm : mayE s i b.length = 11 := by rw [mayE, hd]; rfl
  exact ⟨by rw [progS, hm]; rfl, by rw [progE, hm]; rfl⟩
theorem erase_boot (q : List UInt8) (pg : List (List UInt8)) (t : Nat) : (eraseS (bootS (fz (q :: pg) t true)) 0).dead = false ∧ eraseE (bootS (fz (q :: pg) t true)) 0 = 0 := by
  have hm := may_zero (s := bootS (fz (q :: pg) t true)) q pg 0 rfl rfl (by omega)
  refine ⟨?_, ?_⟩
  · rw [eraseS, if_pos hm, bec, if_neg (by simp [bootS])]
    rfl
  · rw [eraseE, if_pos hm, becE, if_neg (by simp [bootS])]

/-- What the law's loop asks of what is read now. -/
def TearOk (N R b : List UInt8) (t : Nat) (erase : Bool) : Prop :=
  ∀ j, j < 64 → ∃ x y, N[j]? = some x ∧ R[j]? = some y ∧
    (if erase then (if j < t then x = 255 else x = y) else (if j < t then (∀ z, b[j]? = some z → x = y &&& z) ∧ (b[j]? = none → x = y) else x = y))
theorem tear_erase (R b : List UInt8) (t : Nat) (hR : R.length = 64) (ht : t ≤ 64) : TearOk (blankPage.take t ++ R.drop t) R b t true := by
  intro j hj
  have hl : (blankPage.take t).length = t := by rw [List.length_take, blank_len]; omega
  refine ⟨_, R[j]'(by omega), List.getElem?_eq_getElem (by rw [List.length_append, hl, List.length_drop]; omega), List.getElem?_eq_getElem (by omega), ?_⟩
  rw [if_pos rfl]
  by_cases h : j < t
  · rw [if_pos h, List.getElem_append_left (by omega), List.getElem_take]
    exact blank_at _
  · rw [if_neg h, List.getElem_append_right (by omega), List.getElem_drop]
    congr 1
    omega
theorem tear_prog (R b : List UInt8) (t : Nat) (hR : R.length = 64) (ht : t ≤ 64) (hb : b.length ≤ 64) : TearOk ((andPage R b).take t ++ R.drop t) R b t false := by
  intro j hj
  have hal : (andPage R b).length = 64 := by rw [andPage_len (by omega)]; exact hR
  have hl : ((andPage R b).take t).length = t := by rw [List.length_take, hal]; omega
  refine ⟨_, R[j]'(by omega), List.getElem?_eq_getElem (by rw [List.length_append, hl, List.length_drop]; omega), List.getElem?_eq_getElem (by omega), ?_⟩
  rw [if_neg (by simp)]
  by_cases h : j < t
  · rw [if_pos h, List.getElem_append_left (by omega), List.getElem_take]
    have hg := andPage_get (q := R) (b := b) (by omega) j
    by_cases hjb : j < b.length
    · rw [dif_pos hjb] at hg
      rw [(List.getElem?_eq_some_iff.1 hg).2]
      refine ⟨fun z hz => ?_, fun hn => ?_⟩
      · rw [(List.getElem?_eq_some_iff.1 hz).2]
      · rw [List.getElem?_eq_none_iff] at hn
        omega
    · rw [dif_neg hjb] at hg
      replace hg := hg.trans (List.getElem?_eq_getElem (by omega))
      rw [(List.getElem?_eq_some_iff.1 hg).2]
      refine ⟨fun z hz => ?_, fun _ => rfl⟩
      exact absurd (List.getElem?_eq_some_iff.1 hz).1 hjb
  · rw [if_neg h, List.getElem_append_right (by omega), List.getElem_drop]
    congr 1
    omega

theorem made_rep (n : Nat) : madeCells (Value.int .u8 0).cells n = (List.replicate n (Value.int .u8 0)).toArray := by
  apply Array.ext
  · simp [madeCells]
  · intro j h1 h2
    simp [madeCells, Value.cells, Nat.mod_one]
theorem made64 : madeCells (Value.int .u8 0).cells 64 = (vbs zeroPage).toArray := by rw [made_rep, zeroVbs]
theorem mkB {w : World} {ops : Array Oper} {rest : List Oper} {op : Oper} {a : Act} {Q : Exit → Act → World → Prop} (x y : Operand) (hgd : op.guard = none) (hop : op.op = .makeSlice 22 x y) (hx : a.eval x = .int .i64 64) (hy : a.eval y = .int .i64 64)
    (h : wpList Try.prog ops Q rest (a.put op.dst (.slice (some ⟨w.heap.size, 0, none⟩) 64 64)) (w.alloc (.cells (vbs zeroPage).toArray 5))) : wpList Try.prog ops Q (op :: rest) a w := by
  obtain ⟨i, hi, hz, hsz, hby⟩ : ∃ i, Try.prog.info? 5 = some i ∧ i.zero = some (.int .u8 0) ∧ i.size = 1 ∧ i.bytes = 1 := info_parts (by kernel_rfl)
  have hrun := run_make (P := Try.prog) w 22 5 i _ Try.underlying22 hi hz .i64 .i64 64 64 (by omega) (by omega) (by rw [hby]; omega) (by omega)
  rw [hsz, show (64 : Int).toNat = 64 from rfl, show 64 * 1 = 64 from rfl, made64] at hrun
  refine wpList_plain hgd fun K hK => ?_
  unfold Oper.wp execOp
  simp only [hop, hx, hy, hrun, Sem.run_bind, Sem.run_pure, Result.andThen_ok]
  exact hK _ _ h

set_option maxHeartbeats 2000000 in
set_option maxRecDepth 100000 in
theorem tears_law (va : Value) (b : List UInt8) (tear : Int) (erase : Bool) (w : World) (hb : RdB w (fun _ => 0) 0 va b) (hwf : (Lit.int .i64 tear).wf = true) : Calls Try.prog 7 #[va, .int .i64 tear, .bool erase] w (Post [] w (fun _ => 0) fun r _ _ => r = .bool true) := by
  obtain ⟨A, ca, rfl, hac, hA⟩ := hb.shape
  by_cases h1 : 64 < b.length
  · have h1' : (64 : Int) < (b.length : Int) := by omega
    go_enter Try.func7, Try.ntmps7
    go_wp2
    go_ret
    exact Post.mk (Stp.refl _ _ _) rfl
  have h1' : ¬ (64 : Int) < (b.length : Int) := by omega
  by_cases h2 : tear < 0
  · go_enter Try.func7, Try.ntmps7
    go_wp2
    go_ret
    exact Post.mk (Stp.refl _ _ _) rfl
  by_cases h3 : 64 < tear
  · have hx : decide (tear < 0) = false := decide_eq_false h2
    go_enter Try.func7, Try.ntmps7
    go_wp2
    go_ret
    exact Post.mk (Stp.refl _ _ _) rfl
  obtain ⟨t, rfl⟩ : ∃ t : Nat, tear = t := ⟨tear.toNat, by omega⟩
  have ht : t ≤ 64 := by omega
  have hx : decide ((t : Int) < 0) = false := decide_eq_false h2
  have hx2 : decide ((64 : Int) < (t : Int)) = false := decide_eq_false h3
  obtain ⟨Q, hQ⟩ : ∃ Q, blankPage = Q := ⟨_, rfl⟩
  have hQl : Q.length = 64 := by rw [← hQ, blank_len]
  obtain ⟨Z, hZ⟩ : ∃ Z, andPage Q zeroPage = Z := ⟨_, rfl⟩
  have hz64 : zeroPage.length = 64 := by simp [zeroPage]
  have hZl : Z.length = 64 := by rw [← hZ, andPage_len (by omega), hQl]
  cases erase
  · go_enter Try.func7, Try.ntmps7
    go_wp2_with fail
    refine (new_calls 1 2 w (fun _ => 0) 2 (by omega)).mono ?_
    rintro e w1 ⟨r, o1, rfl, s1, p, g, cap, rfl, f1⟩
    rw [hQ, show (⟨List.replicate 2 Q, -1, 0, false⟩ : FS) = st [Q, Q] from rfl] at f1
    have t1 := Lib.hid (s1.none (C := [1]))
    have f1 := Lib.hid f1
    clear s1
    go_wp2_with (refine holdAt 30 ?_)
    apply Hold.mk
    refine mkB _ _ rfl rfl rfl rfl ?_
    have a1 := Lib.hid ((Stp.refl [] w1 o1).alloc (.cells (vbs zeroPage).toArray 5) 5)
    have b1 := Lib.hid (RdB.new w1 o1 5 (vbs zeroPage).toArray zeroPage rfl 64 hz64 (by omega) 5 _ rfl)
    obtain ⟨wz, hwz⟩ : ∃ wz, w1.alloc (.cells (vbs zeroPage).toArray 5) = wz := ⟨_, rfl⟩
    rw [hwz] at a1 b1 ⊢
    go_wp2_with fail
    refine (program_calls 1 5 p g cap _ 0 _ zeroPage _ _ (f1.out.stp a1.out (by simp)) b1.out).mono ?_
    rintro e w2 ⟨r, o2, rfl, s2, rfl, f2⟩
    rw [(prog_st 0 0 Q zeroPage [Z, Q] rfl rfl (by omega) (by rw [hZ]; rfl)).1] at f2
    rw [(prog_st 0 0 Q zeroPage [Z, Q] rfl rfl (by omega) (by rw [hZ]; rfl)).2]
    have t2 := Lib.hid ((t1.out.trans a1.out.none).trans s2)
    have f2 := Lib.hid f2
    clear t1 f1 a1 b1 s2
    go_wp2_with fail
    refine (erase_calls 1 p g cap _ 0 _ _ f2.out).mono ?_
    rintro e w3 ⟨r, o3, rfl, s3, rfl, f3⟩
    rw [(erase_st 0 0 [Q, Q] rfl (by simp) (by rw [hQ]; rfl)).1] at f3
    rw [(erase_st 0 0 [Q, Q] rfl (by simp) (by rw [hQ]; rfl)).2]
    have t3 := Lib.hid (t2.out.trans s3)
    have f3 := Lib.hid f3
    clear t2 f2
    clear s3
    go_wp2_with fail
    refine (read_calls 1 2 p g cap _ 0 _ _ f3.out).mono ?_
    rintro e w4 ⟨r, o4, rfl, s4, vhx, rfl, hx4⟩
    rw [(read_st 0 0 Q rfl rfl).1] at hx4
    rw [(read_st 0 0 Q rfl rfl).2]
    obtain ⟨Ahx, chx, rfl⟩ := Own.shape hx4
    rw [hQl] at hx4 ⊢
    have t4 := Lib.hid (t3.out.trans s4.none)
    have f4 := Lib.hid (f3.out.stp s4 (by simp))
    have hx4 := Lib.hid hx4
    clear t3 f3
    clear s4
    go_wp2_with fail
    refine (fuse_calls 1 p g cap _ 0 t _ _ f4.out (by omega)).mono ?_
    rintro e w5 ⟨r, o5, rfl, s5, rfl, f5⟩
    rw [fuse_st _ t ht] at f5
    have t5 := Lib.hid (t4.out.trans s5)
    have f5 := Lib.hid f5
    clear t4 f4
    have hx5 := Lib.hid (OwnB.stp hx4.out s5 (by simp))
    clear hx4
    clear s5
    go_wp2_with fail
    refine (program_calls 1 0 p g cap _ 0 _ b _ _ f5.out (hb.stp t5.out (by simp))).mono ?_
    rintro e w6 ⟨r, o6, rfl, s6, rfl, f6⟩
    rw [(prog_fz Q b [Q] t (by omega)).1] at f6
    rw [(prog_fz Q b [Q] t (by omega)).2]
    have t6 := Lib.hid (t5.out.trans s6)
    have f6 := Lib.hid f6
    clear t5 f5
    have hx6 := Lib.hid (OwnB.stp hx5.out s6 (by simp))
    clear hx5
    clear s6
    obtain ⟨N, hN⟩ : ∃ N, (andPage Q b).take t ++ Q.drop t = N := ⟨_, rfl⟩
    have htear : TearOk N Q b t false := by rw [← hN]; exact tear_prog Q b t hQl ht (by omega)
    have hNl : N.length = 64 := by
      rw [← hN]
      simp only [List.length_append, List.length_take, List.length_drop]
      rw [andPage_len (by omega)]
      omega
    rw [hN] at f6
    go_wp2_with fail
    refine (read_calls 1 2 p g cap _ 0 _ _ f6.out).mono ?_
    rintro e w7 ⟨r, o7, rfl, s7, vn, rfl, hn7⟩
    rw [(read_any (s := fz (N :: [Q]) t true) 0 0 N rfl rfl).1] at hn7
    rw [(read_any (s := fz (N :: [Q]) t true) 0 0 N rfl rfl).2]
    obtain ⟨An, cn, rfl⟩ := Own.shape hn7
    rw [hNl] at hn7 ⊢
    have t7 := Lib.hid (t6.out.trans s7.none)
    have f7 := Lib.hid (f6.out.stp s7 (by simp))
    have hn7 := Lib.hid hn7
    clear t6 f6
    have hx7 := Lib.hid (OwnB.stp hx6.out s7 (by simp))
    clear hx6
    clear s7
    go_wp2_with fail
    refine (dead_calls 1 p g cap _ _ _ f7.out).mono ?_
    rintro e wd ⟨rfl, rfl⟩
    rw [show (fz (N :: [Q]) t true).dead = true from rfl]
    go_wp2_with fail
    go_loopw [13] (RoR w7 o7 64) (fun i _ => 64 - (intOf i).toNat)
    case atStart => exact ⟨0, o7, rfl, by omega, Stp.refl _ _ _⟩
    case round =>
      obtain ⟨k, o8, rfl, hk, hs⟩ := hrel
      by_cases hlt : k < 64
      · obtain ⟨x, y, hx', hy', hxy⟩ := htear k hlt
        obtain ⟨an, rfl, cn'⟩ := (RdB.stp (OwnB.rd hn7.out) hs (by simp)).at_ (j := k) (by omega)
        obtain ⟨ax, rfl, cx'⟩ := (RdB.stp (OwnB.rd hx7.out) hs (by simp)).at_ (j := k) (by omega)
        rw [(List.getElem?_eq_some_iff.1 hx').2] at cn'
        rw [(List.getElem?_eq_some_iff.1 hy').2] at cx'
        have hs1 := Lib.hid hs
        have h1 : (0 : Int) ≤ (k : Int) ∧ (k : Int) < 64 := by omega
        rw [if_neg (by simp)] at hxy
        by_cases hjt : k < t
        · have hjt' : (k : Int) < (t : Int) := by omega
          rw [if_pos hjt] at hxy
          by_cases hjb : k < b.length
          · have hjb' : (k : Int) < (b.length : Int) := by omega
            obtain ⟨ab, rfl, cb'⟩ := (hb.stp (t7.out.trans hs.none) (by simp)).at_ hjb
            have hz := hxy.1 _ (List.getElem?_eq_getElem hjb)
            obtain ⟨z, hzz⟩ : ∃ z, b[k] = z := ⟨_, rfl⟩
            rw [hzz] at hz cb'
            have hand := and8 y z
            rw [← hz] at hand
            clear hxy htear hs hx' hy'
            go_wp2
            go_roundw
            case rel => exact ⟨k + 1, o8, by go_num, by omega, hs1.out⟩
            case measure => simp [intOf]; omega
          · have hjb' : ¬ (k : Int) < (b.length : Int) := by omega
            have hz := hxy.2 (List.getElem?_eq_none (by omega))
            subst hz
            clear hxy htear hs hx' hy'
            go_wp2
            go_roundw
            case rel => exact ⟨k + 1, o8, by go_num, by omega, hs1.out⟩
            case measure => simp [intOf]; omega
        · have hjt' : ¬ (k : Int) < (t : Int) := by omega
          rw [if_neg hjt] at hxy
          subst hxy
          clear htear hs hx' hy'
          go_wp2
          go_roundw
          case rel => exact ⟨k + 1, o8, by go_num, by omega, hs1.out⟩
          case measure => simp [intOf]; omega
      · have hk64 : k = 64 := by omega
        subst hk64
        have f8 := Lib.hid (f7.out.stp hs (by simp))
        have t8 := Lib.hid (t7.out.trans hs.none)
        clear hs
        go_wp2_with fail
        refine (erase_calls 1 p g cap _ 0 _ _ f8.out).mono ?_
        rintro e w9 ⟨r, o9, rfl, s9, rfl, f9⟩
        rw [(erase_dead 0 (show (fz (N :: [Q]) t true).dead = true from rfl)).1] at f9
        rw [(erase_dead 0 (show (fz (N :: [Q]) t true).dead = true from rfl)).2]
        have t9 := Lib.hid (t8.out.trans s9)
        have f9 := Lib.hid f9
        clear s9 f8 t8
        go_wp2_with fail
        refine (program_calls 1 0 p g cap _ 9 _ [] _ _ f9.out (RdB.nil _ _ _)).mono ?_
        rintro e w10 ⟨r, o10, rfl, s10, rfl, f10⟩
        rw [(prog_dead 9 [] (show (fz (N :: [Q]) t true).dead = true from rfl)).1] at f10
        rw [(prog_dead 9 [] (show (fz (N :: [Q]) t true).dead = true from rfl)).2]
        have t10 := Lib.hid (t9.out.trans s10)
        have f10 := Lib.hid f10
        clear s10 f9 t9
        go_wp2_with fail
        refine (boot_calls 1 p g cap _ _ _ f10.out).mono ?_
        rintro e w11 ⟨r, o11, rfl, s11, rfl, f11⟩
        have t11 := Lib.hid (t10.out.trans s11)
        have f11 := Lib.hid f11
        clear s11 f10 t10
        go_wp2_with fail
        refine (erase_calls 1 p g cap _ 0 _ _ f11.out).mono ?_
        rintro e w12 ⟨r, o12, rfl, s12, rfl, f12⟩
        rw [(erase_boot N [Q] t).2]
        have t12 := Lib.hid (t11.out.trans s12)
        have f12 := Lib.hid f12
        clear s12 f11 t11
        go_wp2_with fail
        refine (dead_calls 1 p g cap _ _ _ f12.out).mono ?_
        rintro e wd ⟨rfl, rfl⟩
        rw [(erase_boot N [Q] t).1]
        go_wp2_with fail
        refine (known11_calls _ o12).mono ?_
        rintro e w13 ⟨r, o13, rfl, s13, rfl⟩
        have t13 := Lib.hid (t12.out.trans s13.none)
        clear s13
        go_wp2
        go_ret
        exact Post.mk (t13.out.law (by simp)) rfl
  · go_enter Try.func7, Try.ntmps7
    go_wp2_with fail
    refine (new_calls 1 2 w (fun _ => 0) 2 (by omega)).mono ?_
    rintro e w1 ⟨r, o1, rfl, s1, p, g, cap, rfl, f1⟩
    rw [hQ, show (⟨List.replicate 2 Q, -1, 0, false⟩ : FS) = st [Q, Q] from rfl] at f1
    have t1 := Lib.hid (s1.none (C := [1]))
    have f1 := Lib.hid f1
    clear s1
    go_wp2_with (refine holdAt 30 ?_)
    apply Hold.mk
    refine mkB _ _ rfl rfl rfl rfl ?_
    have a1 := Lib.hid ((Stp.refl [] w1 o1).alloc (.cells (vbs zeroPage).toArray 5) 5)
    have b1 := Lib.hid (RdB.new w1 o1 5 (vbs zeroPage).toArray zeroPage rfl 64 hz64 (by omega) 5 _ rfl)
    obtain ⟨wz, hwz⟩ : ∃ wz, w1.alloc (.cells (vbs zeroPage).toArray 5) = wz := ⟨_, rfl⟩
    rw [hwz] at a1 b1 ⊢
    go_wp2_with fail
    refine (program_calls 1 5 p g cap _ 0 _ zeroPage _ _ (f1.out.stp a1.out (by simp)) b1.out).mono ?_
    rintro e w2 ⟨r, o2, rfl, s2, rfl, f2⟩
    rw [(prog_st 0 0 Q zeroPage [Z, Q] rfl rfl (by omega) (by rw [hZ]; rfl)).1] at f2
    rw [(prog_st 0 0 Q zeroPage [Z, Q] rfl rfl (by omega) (by rw [hZ]; rfl)).2]
    have t2 := Lib.hid ((t1.out.trans a1.out.none).trans s2)
    have f2 := Lib.hid f2
    clear t1 f1 a1 b1 s2
    go_wp2_with fail
    refine (read_calls 1 2 p g cap _ 0 _ _ f2.out).mono ?_
    rintro e w3 ⟨r, o3, rfl, s3, vhx, rfl, hx3⟩
    rw [(read_st 0 0 Z rfl rfl).1] at hx3
    rw [(read_st 0 0 Z rfl rfl).2]
    obtain ⟨Ahx, chx, rfl⟩ := Own.shape hx3
    rw [hZl] at hx3 ⊢
    have t3 := Lib.hid (t2.out.trans s3.none)
    have f3 := Lib.hid (f2.out.stp s3 (by simp))
    have hx3 := Lib.hid hx3
    clear t2 f2
    clear s3
    go_wp2_with fail
    refine (fuse_calls 1 p g cap _ 0 t _ _ f3.out (by omega)).mono ?_
    rintro e w4 ⟨r, o4, rfl, s4, rfl, f4⟩
    rw [fuse_st _ t ht] at f4
    have t4 := Lib.hid (t3.out.trans s4)
    have f4 := Lib.hid f4
    clear t3 f3
    have hx4 := Lib.hid (OwnB.stp hx3.out s4 (by simp))
    clear hx3
    clear s4
    go_wp2_with fail
    refine (erase_calls 1 p g cap _ 0 _ _ f4.out).mono ?_
    rintro e w5 ⟨r, o5, rfl, s5, rfl, f5⟩
    rw [(erase_fz Z [Q] t).1] at f5
    rw [(erase_fz Z [Q] t).2]
    have t5 := Lib.hid (t4.out.trans s5)
    have f5 := Lib.hid f5
    clear t4 f4
    have hx5 := Lib.hid (OwnB.stp hx4.out s5 (by simp))
    clear hx4
    clear s5
    obtain ⟨N, hN⟩ : ∃ N, blankPage.take t ++ Z.drop t = N := ⟨_, rfl⟩
    have htear : TearOk N Z b t true := by rw [← hN]; exact tear_erase Z b t hZl ht
    have hNl : N.length = 64 := by
      rw [← hN]
      simp only [List.length_append, List.length_take, List.length_drop]
      rw [blank_len]
      omega
    rw [hN] at f5
    go_wp2_with fail
    refine (read_calls 1 2 p g cap _ 0 _ _ f5.out).mono ?_
    rintro e w6 ⟨r, o6, rfl, s6, vn, rfl, hn6⟩
    rw [(read_any (s := fz (N :: [Q]) t true) 0 0 N rfl rfl).1] at hn6
    rw [(read_any (s := fz (N :: [Q]) t true) 0 0 N rfl rfl).2]
    obtain ⟨An, cn, rfl⟩ := Own.shape hn6
    rw [hNl] at hn6 ⊢
    have t6 := Lib.hid (t5.out.trans s6.none)
    have f6 := Lib.hid (f5.out.stp s6 (by simp))
    have hn6 := Lib.hid hn6
    clear t5 f5
    have hx6 := Lib.hid (OwnB.stp hx5.out s6 (by simp))
    clear hx5
    clear s6
    go_wp2_with fail
    refine (dead_calls 1 p g cap _ _ _ f6.out).mono ?_
    rintro e wd ⟨rfl, rfl⟩
    rw [show (fz (N :: [Q]) t true).dead = true from rfl]
    go_wp2_with fail
    go_loopw [13] (RoR w6 o6 64) (fun i _ => 64 - (intOf i).toNat)
    case atStart => exact ⟨0, o6, rfl, by omega, Stp.refl _ _ _⟩
    case round =>
      obtain ⟨k, o8, rfl, hk, hs⟩ := hrel
      by_cases hlt : k < 64
      · obtain ⟨x, y, hx', hy', hxy⟩ := htear k hlt
        obtain ⟨an, rfl, cn'⟩ := (RdB.stp (OwnB.rd hn6.out) hs (by simp)).at_ (j := k) (by omega)
        obtain ⟨ax, rfl, cx'⟩ := (RdB.stp (OwnB.rd hx6.out) hs (by simp)).at_ (j := k) (by omega)
        rw [(List.getElem?_eq_some_iff.1 hx').2] at cn'
        rw [(List.getElem?_eq_some_iff.1 hy').2] at cx'
        have hs1 := Lib.hid hs
        have h1 : (0 : Int) ≤ (k : Int) ∧ (k : Int) < 64 := by omega
        rw [if_pos rfl] at hxy
        by_cases hjt : k < t
        · have hjt' : (k : Int) < (t : Int) := by omega
          rw [if_pos hjt] at hxy
          rw [hxy, show ((255 : UInt8).toNat : Int) = 255 from rfl] at cn'
          clear htear hs hx' hy' hxy
          go_wp2
          go_roundw
          case rel => exact ⟨k + 1, o8, by go_num, by omega, hs1.out⟩
          case measure => simp [intOf]; omega
        · have hjt' : ¬ (k : Int) < (t : Int) := by omega
          rw [if_neg hjt] at hxy
          subst hxy
          clear htear hs hx' hy'
          go_wp2
          go_roundw
          case rel => exact ⟨k + 1, o8, by go_num, by omega, hs1.out⟩
          case measure => simp [intOf]; omega
      · have hk64 : k = 64 := by omega
        subst hk64
        have f8 := Lib.hid (f6.out.stp hs (by simp))
        have t8 := Lib.hid (t6.out.trans hs.none)
        clear hs
        go_wp2_with fail
        refine (erase_calls 1 p g cap _ 0 _ _ f8.out).mono ?_
        rintro e w9 ⟨r, o9, rfl, s9, rfl, f9⟩
        rw [(erase_dead 0 (show (fz (N :: [Q]) t true).dead = true from rfl)).1] at f9
        rw [(erase_dead 0 (show (fz (N :: [Q]) t true).dead = true from rfl)).2]
        have t9 := Lib.hid (t8.out.trans s9)
        have f9 := Lib.hid f9
        clear s9 f8 t8
        go_wp2_with fail
        refine (program_calls 1 0 p g cap _ 9 _ [] _ _ f9.out (RdB.nil _ _ _)).mono ?_
        rintro e w10 ⟨r, o10, rfl, s10, rfl, f10⟩
        rw [(prog_dead 9 [] (show (fz (N :: [Q]) t true).dead = true from rfl)).1] at f10
        rw [(prog_dead 9 [] (show (fz (N :: [Q]) t true).dead = true from rfl)).2]
        have t10 := Lib.hid (t9.out.trans s10)
        have f10 := Lib.hid f10
        clear s10 f9 t9
        go_wp2_with fail
        refine (boot_calls 1 p g cap _ _ _ f10.out).mono ?_
        rintro e w11 ⟨r, o11, rfl, s11, rfl, f11⟩
        have t11 := Lib.hid (t10.out.trans s11)
        have f11 := Lib.hid f11
        clear s11 f10 t10
        go_wp2_with fail
        refine (erase_calls 1 p g cap _ 0 _ _ f11.out).mono ?_
        rintro e w12 ⟨r, o12, rfl, s12, rfl, f12⟩
        rw [(erase_boot N [Q] t).2]
        have t12 := Lib.hid (t11.out.trans s12)
        have f12 := Lib.hid f12
        clear s12 f11 t11
        go_wp2_with fail
        refine (dead_calls 1 p g cap _ _ _ f12.out).mono ?_
        rintro e wd ⟨rfl, rfl⟩
        rw [(erase_boot N [Q] t).1]
        go_wp2_with fail
        refine (known11_calls _ o12).mono ?_
        rintro e w13 ⟨r, o13, rfl, s13, rfl⟩
        have t13 := Lib.hid (t12.out.trans s13.none)
        clear s13
        go_wp2
        go_ret
        exact Post.mk (t13.out.law (by simp)) rfl

end Go.Proofs.Ytbhmfiibaeladaa
