/- Pages: Erase, Program, Read and their like. -/
import Derived.Test.YtpjnmijfmfgdpaaPage
namespace Go.Proofs.Ytpjnmijfmfgdpaa
set_option linter.unusedVariables false
set_option linter.unusedSimpArgs false
open Go.RowKit

theorem blank_len : blankPage.length = 64 := by simp [blankPage]
theorem hasB_nat {s : FS} {i : Int} (h : hasB s i = true) : ∃ k : Nat, i = k ∧ k < s.pg.length := by
  simp [hasB] at h
  exact ⟨i.toNat, by omega, by omega⟩
theorem mayE_zero {s : FS} {i : Int} {n : Nat} (h : mayE s i n = 0) : s.dead = false ∧ n ≤ 64 ∧ ∃ k : Nat, i = k ∧ k < s.pg.length := by
  unfold mayE at h
  split at h
  · cases h
  · split at h
    · cases h
    · rename_i h1 h2
      refine ⟨by simpa using h1, by omega, hasB_nat ?_⟩
      cases hh : hasB s i
      · exact absurd (.inl hh) h2
      · rfl
/-- What Erase leaves. -/
def eraseS (s : FS) (i : Int) : FS := if mayE s i 0 = 0 then bec s i.toNat blankPage else s
def eraseE (s : FS) (i : Int) : Int := if mayE s i 0 = 0 then becE s else mayE s i 0
def andPage (q b : List UInt8) : List UInt8 := (List.zipWith (· &&& ·) q b) ++ q.drop b.length
def progS (s : FS) (i : Int) (b : List UInt8) : FS := if mayE s i b.length = 0 then bec s i.toNat (andPage (s.pg.getD i.toNat []) b) else s
def progE (s : FS) (i : Int) (b : List UInt8) : Int := if mayE s i b.length = 0 then becE s else mayE s i b.length
theorem mayE_rng (s : FS) (i : Int) (n : Nat) : mayE s i n = 0 ∨ mayE s i n = 1 ∨ mayE s i n = 11 := by
  unfold mayE
  split
  · omega
  · split <;> omega

set_option maxHeartbeats 1000000 in
set_option maxRecDepth 100000 in
theorem erase_calls (c p g cap : Nat) (s : FS) (i : Int) (w : World) (o : Col) (h : Fl w o c p g cap s) :
    Calls Try.prog 22 #[.pointer (some ⟨p, 0, none⟩), .int .i64 i] w (Post [c] w o fun r w' o' => r = .int .i64 (eraseE s i) ∧ Fl w' o' c p g cap (eraseS s i)) := by
  obtain ⟨m, hm⟩ : ∃ m, mayE s i 0 = m := ⟨_, rfl⟩
  go_enter Try.func22, Try.ntmps22
  go_wp2_with fail
  refine (may_calls c p g cap s i 0 _ o h).mono ?_
  rintro e w1 ⟨rfl, rfl⟩
  rw [hm]
  by_cases h0 : m = 0
  · subst h0
    obtain ⟨_, _, k, rfl, hk⟩ := mayE_zero hm
    go_wp2_with fail
    refine (blank_calls _ o).mono ?_
    rintro e w1 ⟨r, o1, rfl, s1, rfl⟩
    have Hbl := Lib.hid s1
    clear s1
    go_wp2_with fail
    refine (becomes_calls c p g cap s k blankPage _ o1 (h.stp Hbl.out (by simp)) hk blank_len).mono ?_
    rintro e w2 ⟨r, o2, rfl, s2, rfl, h2⟩
    have s3 := Hbl.out.none.trans s2
    clear s2
    go_wp2
    go_ret
    exact Post.mk s3 ⟨by rw [eraseE, if_pos hm]; rfl, by rw [eraseS, if_pos hm, Int.toNat_natCast]; exact h2⟩
  · have hb : (m == 0) = false := by simpa using h0
    go_wp2
    go_ret
    exact Post.mk (Stp.refl _ _ _) ⟨by rw [eraseE, hm, if_neg h0]; rfl, by rw [eraseS, hm, if_neg h0]; exact h⟩

theorem holdSt (t : Nat) {P : Program} {ops : Array Oper} {Q : Exit → Act → World → Prop} {x y : Operand} {ty : TypeId} {pos : String} {after : Array Edge} {gd : Option (Nat × Bool)} {rest : List Oper} {a : Act} {w : World}
    (h : Hold (wpList P ops Q (⟨none, .store t x y, ty, pos, after, gd⟩ :: rest) a w) ⟨⟩) : wpList P ops Q (⟨none, .store t x y, ty, pos, after, gd⟩ :: rest) a w := h.out
theorem and8 (a b : UInt8) : bits BinOp.and IntKind.u8 (a.toNat : Int) (b.toNat : Int) = ((a &&& b).toNat : Int) := by
  rw [u8_and_nat a.toNat b.toNat (by have := a.toNat_lt; omega) (by have := b.toNat_lt; omega), UInt8.toNat_and]
theorem andPage_get {q b : List UInt8} (h : b.length ≤ q.length) (j : Nat) : (andPage q b)[j]? = if hj : j < b.length then some (q[j]'(by omega) &&& b[j]) else q[j]? := by
  unfold andPage
  by_cases hj : j < b.length
  · rw [dif_pos hj, List.getElem?_append_left (by rw [List.length_zipWith]; omega), List.getElem?_zipWith]
    simp [hj, show j < q.length by omega]
  · rw [dif_neg hj, List.getElem?_append_right (by rw [List.length_zipWith]; omega), List.length_zipWith, List.getElem?_drop]
    congr 1
    omega
theorem andPage_len {q b : List UInt8} (h : b.length ≤ q.length) : (andPage q b).length = q.length := by
  simp [andPage]
  omega
theorem andPage_step {q b : List UInt8} (h : b.length ≤ q.length) {k : Nat} (hk : k < b.length) : (andPage q (b.take k)).set k (q[k]'(by omega) &&& b[k]) = andPage q (b.take (k + 1)) := by
  apply List.ext_getElem?
  intro j
  rw [List.getElem?_set, andPage_len (by rw [List.length_take]; omega), andPage_get (by rw [List.length_take]; omega), andPage_get (by rw [List.length_take]; omega)]
  simp only [List.length_take, List.getElem_take]
  by_cases e : k = j
  · subst e
    rw [if_pos rfl, if_pos (by omega), dif_pos (by omega)]
  · rw [if_neg e]
    by_cases hj : j < k
    · rw [dif_pos (by omega), dif_pos (by omega)]
    · rw [dif_neg (by omega), dif_neg (by omega)]
/-- What the walk of 'Program' keeps. -/
def PrR (w0 : World) (o0 : Col) (d B : Nat) (q b : List UInt8) (x : Value) (wr : World) : Prop :=
  ∃ (k : Nat) (o' : Col), x = .int .i64 k ∧ k ≤ b.length ∧ Stp [d] w0 o0 wr o' ∧ o' B = d ∧ wr.heap[B]? = some (.cells (vbs (andPage q (b.take k))).toArray 82 (0, 0))

set_option maxHeartbeats 2000000 in
set_option maxRecDepth 100000 in
theorem program_calls (c c2 p g cap : Nat) (s : FS) (i : Int) (v : Value) (b : List UInt8) (w : World) (o : Col) (h : Fl w o c p g cap s) (hrb : RdB w o c2 v b) :
    Calls Try.prog 23 #[.pointer (some ⟨p, 0, none⟩), .int .i64 i, v] w (Post [c] w o fun r w' o' => r = .int .i64 (progE s i b) ∧ Fl w' o' c p g cap (progS s i b)) := by
  obtain ⟨d, hdc, _, hd⟩ := fresh o w.heap.size [c, c2]
  obtain ⟨m, hm⟩ : ∃ m, mayE s i b.length = m := ⟨_, rfl⟩
  obtain ⟨A, cp, rfl, hlc, hA⟩ := hrb.shape
  go_enter Try.func23, Try.ntmps23
  go_wp2_with fail
  refine (may_calls c p g cap s i b.length _ o h).mono ?_
  rintro e w1 ⟨rfl, rfl⟩
  rw [hm]
  by_cases h0 : m = 0
  · subst h0
    obtain ⟨_, hb64, k, rfl, hk⟩ := mayE_zero hm
    have h0 := h.c0
    have hk1 : (0 : Int) ≤ (k : Int) ∧ (k : Int) < (s.pg.length : Int) := by omega
    obtain ⟨q, hq⟩ : ∃ q, s.pg[k]? = some q := ⟨s.pg[k], by simp [hk]⟩
    obtain ⟨hq1, hq2⟩ := h.pgs.at_ k q hq
    have hsz : (Try.prog.info? 82).map (·.size) = some (vbs q).length := by rw [vbs_length, hq1]; kernel_rfl
    go_wp2_with (refine holdAt 25 ?_)
    apply Hold.mk
    refine wpList_load_mid rfl _ _ rfl g (k * 64) rfl (vbs q) _ hq2 Try.underlying82 rfl hsz ?_
    go_wp2_with (refine holdSt 82 ?_)
    apply Hold.mk
    refine wpList_store_row rfl _ _ _ rfl w.heap.size _ rfl rfl _ _ (heap_alloc_new w _) (by simpa using hsz) (by simp [vbs_length, hq1]) (all_oneCell_toArray (vbs_one q)) ?_
    go_wp2_with fail
    go_loopw [28] (PrR w o d w.heap.size q b) (fun i _ => b.length - (intOf i).toNat)
    case atStart =>
      refine ⟨0, paint o w.heap.size d, rfl, Nat.zero_le _, ((Stp.refl [d] w o).alloc _ d).trans (setRow_stp (by rw [paint_at]; simp) _), paint_at _ _ _, ?_⟩
      rw [List.take_zero, show andPage q [] = q from by simp [andPage]]
      exact setRow_heap _ _ _ _ _ _ (heap_alloc_new w _)
    case round =>
      obtain ⟨j, o1, rfl, hj, hs, hc, hB⟩ := hrel
      by_cases hlt : j < b.length
      · obtain ⟨a, rfl, hcell⟩ := (hrb.stp hs (by simp; rintro rfl; exact hdc (by simp))).at_ hlt
        have h1 : (0 : Int) ≤ (j : Int) ∧ (j : Int) < 64 := by omega
        have hget := andPage_get (q := q) (b := b.take j) (by rw [List.length_take]; omega) j
        rw [dif_neg (by rw [List.length_take]; omega)] at hget
        replace hget := hget.trans (List.getElem?_eq_getElem (by omega))
        obtain ⟨x, hx⟩ : ∃ x, b[j] = x := ⟨_, rfl⟩
        obtain ⟨y, hy⟩ : ∃ y, q[j]'(by omega) = y := ⟨_, rfl⟩
        have hstep := andPage_step (q := q) (b := b) (by omega) hlt
        rw [hx, hy] at hstep
        rw [hy] at hget
        rw [hx] at hcell
        have hcell2 : wr.cell? ⟨w.heap.size, j, none⟩ = some (.int .u8 (y.toNat : Int)) := by
          rw [blk_cell hB]
          simp [vbs, hget]
        have hfr := blk_free hB j
        have hand := and8 y x
        have Hstep := Lib.hid hstep
        clear hstep hget hx hy
        go_wp2
        go_roundw
        case rel =>
          refine ⟨j + 1, o1, by go_num, by omega, hs.setCell (fun _ => by simp [hc]) _, hc, ?_⟩
          rw [blk_set hB]
          congr 2
          rw [← Hstep.out, vbs, vbs, List.map_set]
          simp [hand]
        case measure => simp [intOf]; omega
      · have hjl : j = b.length := by omega
        subst hjl
        rw [List.take_length] at hB
        have hpl : (andPage q b).length = 64 := by rw [andPage_len (by omega)]; exact hq1
        have hsz2 : (Try.prog.info? 82).map (·.size) = some (vbs (andPage q b)).toArray.size := by rw [List.size_toArray, vbs_length, hpl]; kernel_rfl
        go_wp2_with (refine holdAt 42 ?_)
        apply Hold.mk
        refine wpList_load_row rfl _ _ rfl w.heap.size rfl _ _ _ _ hB Try.underlying82 rfl hsz2 ?_
        have hs' := hs.drop (by simpa using hd)
        go_wp2_with fail
        refine (becomes_calls c p g cap s k (andPage q b) _ o1 (h.stp hs' (by simp)) hk hpl).mono ?_
        rintro e w2 ⟨r, o2, rfl, s2, rfl, h2⟩
        have s3 := hs'.none.trans s2
        clear s2
        go_wp2
        go_ret
        exact Post.mk s3 ⟨by rw [progE, if_pos hm]; rfl, by rw [progS, if_pos hm, Int.toNat_natCast, List.getD_eq_getElem?_getD, hq]; exact h2⟩
  · have hb : (m == 0) = false := by simpa using h0
    go_wp2
    go_ret
    exact Post.mk (Stp.refl _ _ _) ⟨by rw [progE, hm, if_neg h0]; rfl, by rw [progS, hm, if_neg h0]; exact h⟩

def readB (s : FS) (i : Int) : List UInt8 := if hasB s i then s.pg.getD i.toNat [] else []
def readE (s : FS) (i : Int) : Int := if hasB s i then 0 else 1
theorem Pgs.rd {w : World} {o : Col} {c g : Nat} {pg : List (List UInt8)} (h : Pgs w o c g pg) {k : Nat} {q : List UInt8} (hq : pg[k]? = some q) : RdB w o c (.slice (some ⟨g, k * 64, none⟩) 64 64) q := by
  obtain ⟨cur, h1, h2⟩ := h.blk
  obtain ⟨h3, h4⟩ := h.at_ k q hq
  refine ⟨by rw [vbs_length, h3], by omega, vbs_one q, some ⟨g, k * 64, none⟩, 64, by rw [h3], by omega, by simp, fun _ => ⟨_, rfl, h.col, (Array.getElem?_eq_some_iff.1 h1).1, fun j u hu => ?_⟩⟩
  rw [Addr.add_mid]
  exact h4 j u hu

set_option maxHeartbeats 1000000 in
set_option maxRecDepth 100000 in
theorem read_calls (c c' p g cap : Nat) (s : FS) (i : Int) (w : World) (o : Col) (h : Fl w o c p g cap s) :
    Calls Try.prog 21 #[.pointer (some ⟨p, 0, none⟩), .int .i64 i] w (Post [] w o fun r w' o' => ∃ v, r = .tuple #[v, .int .i64 (readE s i)] ∧ OwnB w' o' c' v (readB s i)) := by
  obtain ⟨b, hb⟩ : ∃ b, hasB s i = b := ⟨_, rfl⟩
  go_enter Try.func21, Try.ntmps21
  go_wp2_with fail
  refine (has_calls c p g cap s i _ o h).mono ?_
  rintro e w1 ⟨rfl, rfl⟩
  rw [hb]
  cases b with
  | false =>
    go_wp2
    refine bodyPost_ret (results_tmp2 rfl _ _ _) rfl ?_
    exact Post.mk (Stp.refl _ _ _) ⟨_, by rw [readE, hb]; rfl, by rw [readB, hb]; exact OwnB.nil _ _ _⟩
  | true =>
    obtain ⟨k, rfl, hk⟩ := hasB_nat hb
    have h0 := h.c0
    have hk1 : (0 : Int) ≤ (k : Int) ∧ (k : Int) < (s.pg.length : Int) := by omega
    obtain ⟨q, hq⟩ : ∃ q, s.pg[k]? = some q := ⟨s.pg[k], by simp [hk]⟩
    go_wp2_with fail
    refine (clone_calls c c' _ q _ o (h.pgs.rd hq) (by rw [(h.pgs.at_ k q hq).1]; omega)).mono ?_
    rintro e w1 ⟨r, o1, rfl, s1, hr⟩
    obtain ⟨A1, cap1, rfl⟩ := Own.shape hr
    have Hr := Lib.hid hr
    have Hs1 := Lib.hid s1
    clear hr s1
    go_wp2
    refine bodyPost_ret (results_tmp2 rfl _ _ _) rfl ?_
    exact Post.mk Hs1.out ⟨_, by rw [readE, hb]; rfl, by rw [readB, hb, if_pos rfl, Int.toNat_natCast, List.getD_eq_getElem?_getD, hq]; exact Hr.out⟩

theorem dead_calls (c p g cap : Nat) (s : FS) (w : World) (o : Col) (h : Fl w o c p g cap s) : Calls Try.prog 49 #[.pointer (some ⟨p, 0, none⟩)] w fun e w' => e = .returned (.bool s.dead) ∧ w = w' := by
  have h3 := h.c3
  go_enter Try.func49, Try.ntmps49
  go_wp2
  go_ret
  exact ⟨rfl, rfl⟩
def fuseS (s : FS) (n tear : Int) : FS := { s with fuse := max n (-1), tear := min (max tear 0) 64 }
def bootS (s : FS) : FS := { s with fuse := -1, dead := false }
theorem Fl.set2 {w : World} {o : Col} {c p g cap i j : Nat} {s s' : FS} {u v : Value} (h : Fl w o c p g cap s)
    (hc : (#[.slice (some ⟨g, 0, none⟩) s.pg.length cap, .int .i64 s.fuse, .int .i64 s.tear, .bool s.dead].setIfInBounds i u).setIfInBounds j v = #[.slice (some ⟨g, 0, none⟩) s'.pg.length cap, .int .i64 s'.fuse, .int .i64 s'.tear, .bool s'.dead]) (hpg : s'.pg = s.pg) (hok : s'.ok) :
    Fl ((w.setCell ⟨p, i, none⟩ u).setCell ⟨p, j, none⟩ v) o c p g cap s' ∧ Stp [c] w o ((w.setCell ⟨p, i, none⟩ u).setCell ⟨p, j, none⟩ v) o := by
  refine ⟨⟨?_, h.col, ?_, by rw [hpg]; exact h.cap, hok⟩, ?_⟩
  · rw [← hc]
    exact blk_set (blk_set h.blk _) _
  · rw [hpg]
    exact (h.pgs.set h.ne _).set h.ne _
  · exact ((Stp.refl _ _ _).setCell (fun _ => by rw [h.col]; simp) _).setCell (fun _ => by rw [h.col]; simp) _
set_option maxHeartbeats 1000000 in
theorem fuse_calls (c p g cap : Nat) (s : FS) (n tear : Int) (w : World) (o : Col) (h : Fl w o c p g cap s) (hn : n ≤ 9223372036854775807) :
    Calls Try.prog 27 #[.pointer (some ⟨p, 0, none⟩), .int .i64 n, .int .i64 tear] w (Post [c] w o fun r w' o' => r = .tuple #[] ∧ Fl w' o' c p g cap (fuseS s n tear)) := by
  have h1 := h.c1
  have h2 := h.c2
  have f1 := blk_free h.blk 1
  have f2 := blk_free h.blk 2
  obtain ⟨k1, k2, k3, k4, k5, k6⟩ := h.ok
  obtain ⟨x, hx⟩ : ∃ x, max n (-1) = x := ⟨_, rfl⟩
  obtain ⟨y, hy⟩ : ∃ y, min (max tear 0) 64 = y := ⟨_, rfl⟩
  have key := h.set2 (i := 1) (j := 2) (u := .int .i64 x) (v := .int .i64 y) (s' := fuseS s n tear) (by rw [fuseS, hx, hy]; rfl) rfl ⟨k1, k2, by show -1 ≤ max n (-1); omega, by show max n (-1) ≤ _; omega, by show 0 ≤ min (max tear 0) 64; omega, by show min (max tear 0) 64 ≤ 64; omega⟩
  have Hkey := Lib.hid key
  clear key
  have fin : Post [c] w o (fun r w' o' => r = .tuple #[] ∧ Fl w' o' c p g cap (fuseS s n tear)) (.returned (.tuple #[])) ((w.setCell ⟨p, 1, none⟩ (.int .i64 x)).setCell ⟨p, 2, none⟩ (.int .i64 y)) := Post.mk Hkey.out.2 ⟨rfl, Hkey.out.1⟩
  have Hfin := Lib.hid fin
  clear fin
  have hxx : (n < -1 ∧ x = -1) ∨ (¬ n < -1 ∧ x = n) := by omega
  have hyy : (tear < 0 ∧ y = 0) ∨ (¬ tear < 0 ∧ 64 < tear ∧ y = 64) ∨ (¬ tear < 0 ∧ ¬ 64 < tear ∧ y = tear) := by omega
  clear hx hy hn
  rcases hxx with ⟨e1, rfl⟩ | ⟨e1, rfl⟩ <;> rcases hyy with ⟨e2, rfl⟩ | ⟨e2, e3, rfl⟩ | ⟨e2, e3, rfl⟩
  all_goals
    go_enter Try.func27, Try.ntmps27
    go_wp2
    go_end0
    exact Hfin.out
theorem boot_calls (c p g cap : Nat) (s : FS) (w : World) (o : Col) (h : Fl w o c p g cap s) :
    Calls Try.prog 31 #[.pointer (some ⟨p, 0, none⟩)] w (Post [c] w o fun r w' o' => r = .tuple #[] ∧ Fl w' o' c p g cap (bootS s)) := by
  have h1 := h.c1
  have h3 := h.c3
  have f1 := blk_free h.blk 1
  have f3 := blk_free h.blk 3
  obtain ⟨k1, k2, k3, k4, k5, k6⟩ := h.ok
  have key := h.set2 (i := 3) (j := 1) (u := .bool false) (v := .int .i64 (-1)) (s' := bootS s) (by rfl) rfl ⟨k1, k2, by show -1 ≤ -1; omega, by show -1 ≤ _; omega, k5, k6⟩
  have Hkey := Lib.hid key
  clear key
  go_enter Try.func31, Try.ntmps31
  go_wp2
  go_end0
  exact Post.mk Hkey.out.2 ⟨rfl, Hkey.out.1⟩

end Go.Proofs.Ytpjnmijfmfgdpaa
