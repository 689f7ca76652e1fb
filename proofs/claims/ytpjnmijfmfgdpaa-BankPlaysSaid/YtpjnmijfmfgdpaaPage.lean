/- Pages: the flash of chapter 11, its walks. -/
import Derived.Test.YtpjnmijfmfgdpaaClone
import Derived.Deep.MidRow
import Derived.Deep.RegionHeldLaw
namespace Go.Proofs.Ytpjnmijfmfgdpaa
set_option linter.unusedVariables false
set_option linter.unusedSimpArgs false
open Go.RowKit

theorem setCells_blk (b t : Nat) (fz : Nat × Nat) : ∀ (vs : List Value) (o : Nat) (w : World) (cs : Array Value), w.heap[b]? = some (.cells cs t fz) →
    ∃ cs', (w.setCells b o vs).heap[b]? = some (.cells cs' t fz) ∧ cs'.size = cs.size
  | [], o, w, cs, h => ⟨cs, h, rfl⟩
  | v :: vs, o, w, cs, h => by
    obtain ⟨cs', h1, h2⟩ := setCells_blk b t fz vs (o + 1) _ _ (blk_set h v)
    exact ⟨cs', h1, by simpa using h2⟩
theorem setCells_stp {C : List Nat} {o : Col} (b : Nat) : ∀ (vs : List Value) (i : Nat) (w : World), o b ∈ C → Stp C w o (w.setCells b i vs) o
  | [], i, w, h => Stp.refl _ _ _
  | v :: vs, i, w, h => ((Stp.refl C w o).setCell (fun _ => h) v).trans (setCells_stp b vs (i + 1) _ h)

theorem set_fill {α : Type} (x y : α) {k m : Nat} (h : k < m) : (List.replicate k x ++ List.replicate (m - k) y).set k x = List.replicate (k + 1) x ++ List.replicate (m - (k + 1)) y := by
  rw [show m - k = (m - (k + 1)) + 1 from by omega, List.replicate_succ, List.set_append_right _ _ (by simp), List.length_replicate, Nat.sub_self, List.set_cons_zero, List.replicate_succ', List.append_assoc]
  rfl
/-- What the walk of 'blank' keeps. -/
def BlR (w0 : World) (o0 : Col) (d : Nat) (x : Value) (wr : World) : Prop :=
  ∃ (k : Nat) (o' : Col), x = .int .i64 k ∧ k ≤ 64 ∧ Stp [d] w0 o0 wr o' ∧ o' w0.heap.size = d ∧ wr.heap[w0.heap.size]? = some (.cells (vbs (List.replicate k 255 ++ List.replicate (64 - k) 0)).toArray 82 (0, 0))

def blankPage : List UInt8 := List.replicate 64 255

set_option maxHeartbeats 1000000 in
set_option maxRecDepth 100000 in
theorem blank_calls (w : World) (o : Col) : Calls Try.prog 46 #[] w (Post [] w o fun r _ _ => r = .agg (vbs blankPage).toArray) := by
  obtain ⟨d, _, _, hd⟩ := fresh o w.heap.size []
  go_enter Try.func46, Try.ntmps46
  go_wp2_with fail
  go_loopw [2] (BlR w o d) (fun i _ => 64 - (intOf i).toNat)
  case atStart => exact ⟨0, _, rfl, Nat.zero_le _, (Stp.refl [d] w o).alloc _ d, paint_at _ _ _, heap_alloc_new w _⟩
  case round =>
    obtain ⟨k, o1, rfl, hk, hs, hc, hb⟩ := hrel
    by_cases hlt : k < 64
    · have h1 : (0 : Int) ≤ (k : Int) ∧ (k : Int) < 64 := by omega
      have hcell : wr.cell? ⟨w.heap.size, k, none⟩ = some (.int .u8 0) := by
        rw [blk_cell hb]
        simp [vbs, List.getElem?_append, List.getElem?_replicate, hlt]
        omega
      have hfr := blk_free hb k
      go_wp2
      go_roundw
      case rel =>
        refine ⟨k + 1, o1, by go_num, by omega, hs.setCell (fun _ => by simp [hc]) _, hc, ?_⟩
        rw [blk_set hb]
        congr 2
        rw [show (vbs (List.replicate k 255 ++ List.replicate (64 - k) 0)).toArray.setIfInBounds k (.int .u8 255) = ((vbs (List.replicate k 255 ++ List.replicate (64 - k) 0)).set k (.int .u8 255)).toArray from by simp, ← set_fill 255 0 hlt, vbs, vbs, List.map_set]
        rfl
      case measure => simp [intOf]; omega
    · have hk64 : k = 64 := by omega
      subst hk64
      have hsz : (Try.prog.info? 82).map (·.size) = some (vbs (List.replicate 64 255 ++ List.replicate (64 - 64) 0)).toArray.size := by kernel_rfl
      have hone : (vbs (List.replicate 64 255 ++ List.replicate (64 - 64) 0)).toArray.all (·.oneCell') = true := by decide +kernel
      go_wp2_with (refine holdAt 8 ?_)
      apply Hold.mk
      refine wpList_load_row rfl _ _ rfl w.heap.size rfl _ _ _ _ hb Try.underlying82 rfl hsz ?_
      refine wpList_store_row rfl _ _ _ rfl w.heap.size _ rfl rfl _ _ hb hsz rfl hone ?_
      go_wp2
      refine bodyPost_ret (results_cell_row rfl _ _ w.heap.size 82 (vbs (List.replicate 64 255 ++ List.replicate (64 - 64) 0)).toArray (0, 0) _ rfl ?_ Try.underlying82 rfl hsz) rfl ?_
      · exact setRow_heap _ _ _ _ _ _ hb
      · exact Post.mk (((hs.trans (setRow_stp (by simp [hc]) _)).drop hd)) rfl

/-- What a flash is: its pages, its fuse, what tears, is it off. -/
structure FS where
  pg : List (List UInt8)
  fuse : Int
  tear : Int
  dead : Bool
def FS.ok (s : FS) : Prop := (∀ q ∈ s.pg, q.length = 64) ∧ s.pg.length ≤ 256 ∧ -1 ≤ s.fuse ∧ s.fuse ≤ 9223372036854775807 ∧ 0 ≤ s.tear ∧ s.tear ≤ 64

/-- The pages' block. -/
structure Pgs (w : World) (o : Col) (c g : Nat) (pg : List (List UInt8)) : Prop where
  blk : ∃ cur, w.heap[g]? = some (.cells cur 82 (0, 0)) ∧ pg.length * 64 ≤ cur.size
  col : o g = c
  at_ : ∀ i q, pg[i]? = some q → q.length = 64 ∧ w.rangeAt g (i * 64) (vbs q)
/-- The flash's own block. -/
structure Fl (w : World) (o : Col) (c p g cap : Nat) (s : FS) : Prop where
  blk : w.heap[p]? = some (.cells #[.slice (some ⟨g, 0, none⟩) s.pg.length cap, .int .i64 s.fuse, .int .i64 s.tear, .bool s.dead] 81 (0, 0))
  col : o p = c
  pgs : Pgs w o c g s.pg
  cap : s.pg.length ≤ cap
  ok : s.ok

theorem Pgs.stp {C : List Nat} {w w1 : World} {o o1 : Col} {c g : Nat} {pg : List (List UInt8)} (h : Pgs w o c g pg) (hs : Stp C w o w1 o1) (hn : c ∉ C) : Pgs w1 o1 c g pg := by
  obtain ⟨⟨cur, h1, h2⟩, h3, h4⟩ := h
  refine ⟨⟨cur, hs.blk h1 (by rw [h3]; exact hn), h2⟩, (hs.colb h1).trans h3, fun i q hq => ⟨(h4 i q hq).1, fun j v hv => hs.cell ((h4 i q hq).2 j v hv) (by rw [show (⟨g, i * 64 + j, none⟩ : Addr).block = g from rfl, h3]; exact hn)⟩⟩
theorem Fl.stp {C : List Nat} {w w1 : World} {o o1 : Col} {c p g cap : Nat} {s : FS} (h : Fl w o c p g cap s) (hs : Stp C w o w1 o1) (hn : c ∉ C) : Fl w1 o1 c p g cap s :=
  ⟨hs.blk h.blk (by rw [h.col]; exact hn), (hs.colb h.blk).trans h.col, h.pgs.stp hs hn, h.cap, h.ok⟩
theorem Fl.c0 {w : World} {o : Col} {c p g cap : Nat} {s : FS} (h : Fl w o c p g cap s) : w.cell? ⟨p, 0, none⟩ = some (.slice (some ⟨g, 0, none⟩) s.pg.length cap) := blk_cell h.blk 0
theorem Fl.c1 {w : World} {o : Col} {c p g cap : Nat} {s : FS} (h : Fl w o c p g cap s) : w.cell? ⟨p, 1, none⟩ = some (.int .i64 s.fuse) := blk_cell h.blk 1
theorem Fl.c2 {w : World} {o : Col} {c p g cap : Nat} {s : FS} (h : Fl w o c p g cap s) : w.cell? ⟨p, 2, none⟩ = some (.int .i64 s.tear) := blk_cell h.blk 2
theorem Fl.c3 {w : World} {o : Col} {c p g cap : Nat} {s : FS} (h : Fl w o c p g cap s) : w.cell? ⟨p, 3, none⟩ = some (.bool s.dead) := blk_cell h.blk 3
theorem Fl.ne {w : World} {o : Col} {c p g cap : Nat} {s : FS} (h : Fl w o c p g cap s) : p ≠ g := by
  rintro rfl
  obtain ⟨cur, h1, _⟩ := h.pgs.blk
  have := h.blk.symm.trans h1
  injection this with this
  injection this with _ h2 _
  exact absurd h2 (by decide)
theorem Pgs.there {w : World} {o : Col} {c g : Nat} {pg : List (List UInt8)} (h : Pgs w o c g pg) {i : Nat} (hi : i < pg.length) : w.there g (i * 64) 64 := by
  obtain ⟨cur, h1, h2⟩ := h.blk
  intro j hj
  refine ⟨?_, blk_free h1 _⟩
  rw [blk_cell h1]
  have : i * 64 + j < cur.size := by
    have : (i + 1) * 64 ≤ pg.length * 64 := Nat.mul_le_mul_right _ hi
    omega
  simp [this]
theorem setCells_ne (b : Nat) {k : Nat} (h : k ≠ b) : ∀ (vs : List Value) (o : Nat) (w : World), (w.setCells b o vs).heap[k]? = w.heap[k]?
  | [], o, w => rfl
  | v :: vs, o, w => (setCells_ne b h vs (o + 1) _).trans (Below.heap_setCell _ _ _ _ h)
/-- The first bytes of a page are laid anew. -/
theorem Pgs.put {w : World} {o : Col} {c g : Nat} {pg : List (List UInt8)} (h : Pgs w o c g pg) {i : Nat} {r q : List UInt8} (hr : pg[i]? = some r) (hq : q.length ≤ 64) : Pgs (w.setCells g (i * 64) (vbs q)) o c g (pg.set i (q ++ r.drop q.length)) := by
  obtain ⟨cur, h1, h2⟩ := h.blk
  obtain ⟨cur', h3, h4⟩ := setCells_blk g 82 (0, 0) (vbs q) (i * 64) w cur h1
  have hi : i < pg.length := (List.getElem?_eq_some_iff.1 hr).1
  obtain ⟨hr1, hr2⟩ := h.at_ i r hr
  refine ⟨⟨cur', h3, by rw [List.length_set]; omega⟩, h.col, fun k r' hk => ?_⟩
  rw [List.getElem?_set] at hk
  by_cases e : i = k
  · subst e
    rw [if_pos rfl, if_pos hi] at hk
    injection hk with hk
    subst hk
    refine ⟨by rw [List.length_append, List.length_drop]; omega, fun j v hv => ?_⟩
    by_cases hj : j < q.length
    · have ht := h.there hi
      have := World.cell?_setCells_in g (vbs q) (i * 64) w (fun j hj => (ht j (by rw [vbs_length] at hj; omega)).1) j (by rw [vbs_length]; exact hj)
      rw [this, ← hv, vbs_append, List.getElem?_append_left (by rw [vbs_length]; exact hj)]
      simp
    · rw [vbs_append, List.getElem?_append_right (by rw [vbs_length]; omega), vbs_length, vbs, List.map_drop, List.getElem?_drop] at hv
      rw [World.cell?_setCells_out g _ _ _ _ (fun _ _ => Or.inr (by rw [vbs_length]; simp; omega))]
      exact hr2 j v (by rw [← hv, vbs]; congr 1; omega)
  · rw [if_neg e] at hk
    obtain ⟨hr, hra⟩ := h.at_ k r' hk
    refine ⟨hr, World.rangeAt_setCells_apart hra _ _ _ ?_⟩
    rw [vbs_length, vbs_length, hr]
    omega
theorem Pgs.set {w : World} {o : Col} {c g : Nat} {pg : List (List UInt8)} (h : Pgs w o c g pg) {p j : Nat} (hne : p ≠ g) (u : Value) : Pgs (w.setCell ⟨p, j, none⟩ u) o c g pg := by
  obtain ⟨⟨cur, h1, h2⟩, h3, h4⟩ := h
  refine ⟨⟨cur, (Below.heap_setCell _ _ _ _ (Ne.symm hne)).trans h1, h2⟩, h3, fun i q hq => ⟨(h4 i q hq).1, fun k v hv => ?_⟩⟩
  rw [World.cell?_setCell_other _ _ _ _ (by simp [hne])]
  exact (h4 i q hq).2 k v hv
theorem step_copy {P : Program} {ops : Array Oper} {o : Oper} {a : Act} {K : Act → World → Prop} {Q : Exit → Act → World → Prop} {E : Prop} {w w2 : World} {t1 t2 ty : TypeId} {vx vy r : Value} (x y : Operand) (hgd : o.guard = none)
    (ho : o.op = .call { callee := .builtin .copy, args := #[x, y], argTypes := #[t1, t2] }) (hty : o.type = ty) (hx : a.eval x = vx) (hy : a.eval y = vy) (hrun : (Builtin.copy_ #[t1, t2] ty #[vx, vy]).run P w = .ok r w2) (h : K (a.put o.dst r) w2) :
    if Region.wanted o (yielded ops a.tmps) = true then Oper.wp P o a w K Q else E := by
  have hw : Region.wanted o (yielded ops a.tmps) = true := by simp [Region.wanted, hgd]
  rw [if_pos hw]
  subst hty
  unfold Oper.wp
  simp [execOp, ho, resolve, invoke, builtin, hx, hy, hrun, Result.andThen]
  exact h

theorem len_calls (c p g cap : Nat) (s : FS) (w : World) (o : Col) (h : Fl w o c p g cap s) : Calls Try.prog 69 #[.pointer (some ⟨p, 0, none⟩)] w fun e w' => e = .returned (.int .i64 s.pg.length) ∧ w = w' := by
  have h0 := h.c0
  go_enter Try.func69, Try.ntmps69
  go_wp2
  go_ret
  exact ⟨rfl, rfl⟩
def hasB (s : FS) (i : Int) : Bool := decide (0 ≤ i) && decide (i < s.pg.length)
theorem has_calls (c p g cap : Nat) (s : FS) (i : Int) (w : World) (o : Col) (h : Fl w o c p g cap s) : Calls Try.prog 58 #[.pointer (some ⟨p, 0, none⟩), .int .i64 i] w fun e w' => e = .returned (.bool (hasB s i)) ∧ w = w' := by
  by_cases hi : i < 0
  · go_enter Try.func58, Try.ntmps58
    go_wp2
    go_ret
    exact ⟨by rw [show hasB s i = false from by simp [hasB]; omega]; rfl, rfl⟩
  · have hi0 : 0 ≤ i := by omega
    obtain ⟨b, hb⟩ : ∃ b, decide (i < (s.pg.length : Int)) = b := ⟨_, rfl⟩
    go_enter Try.func58, Try.ntmps58
    go_wp2_with fail
    refine (len_calls c p g cap s _ o h).mono ?_
    rintro e w1 ⟨rfl, rfl⟩
    go_wp2
    go_ret
    exact ⟨by simp [hasB, hi0, hb], rfl⟩
def mayE (s : FS) (i : Int) (n : Nat) : Int := if s.dead then 11 else if hasB s i = false ∨ 64 < n then 1 else 0
theorem may_calls (c p g cap : Nat) (s : FS) (i : Int) (n : Nat) (w : World) (o : Col) (h : Fl w o c p g cap s) : Calls Try.prog 60 #[.pointer (some ⟨p, 0, none⟩), .int .i64 i, .int .i64 n] w fun e w' => e = .returned (.int .i64 (mayE s i n)) ∧ w = w' := by
  have h3 := h.c3
  obtain ⟨d, hd⟩ : ∃ d, s.dead = d := ⟨_, rfl⟩
  rw [hd] at h3
  cases d
  · go_enter Try.func60, Try.ntmps60
    go_wp2_with fail
    refine (has_calls c p g cap s i _ o h).mono ?_
    rintro e w1 ⟨rfl, rfl⟩
    obtain ⟨b, hb⟩ : ∃ b, hasB s i = b := ⟨_, rfl⟩
    rw [hb]
    cases b
    · go_wp2
      go_ret
      exact ⟨by simp [mayE, hd, hb], rfl⟩
    · by_cases hn : 64 < n
      · have hn' : (64 : Int) < (n : Int) := by omega
        go_wp2
        go_ret
        exact ⟨by simp [mayE, hd, hb, hn], rfl⟩
      · have hn' : ¬ (64 : Int) < (n : Int) := by omega
        go_wp2
        go_ret
        exact ⟨by simp [mayE, hd, hb, hn], rfl⟩
  · go_enter Try.func60, Try.ntmps60
    go_wp2
    go_ret
    exact ⟨by simp [mayE, hd], rfl⟩

/-- A page's bytes become others, as far as the fuse lets them. -/
def bec (s : FS) (i : Nat) (to : List UInt8) : FS := if s.fuse = 0 then { s with pg := s.pg.set i (to.take s.tear.toNat ++ (s.pg.getD i []).drop s.tear.toNat), dead := true } else { s with pg := s.pg.set i to, fuse := max (s.fuse - 1) (-1) }
def becE (s : FS) : Int := if s.fuse = 0 then 11 else 0

theorem set_ok {pg : List (List UInt8)} {i : Nat} {q : List UInt8} (h : ∀ q ∈ pg, q.length = 64) (hq : q.length = 64) : ∀ q' ∈ pg.set i q, q'.length = 64 := by
  intro q' hq'
  rcases List.mem_or_eq_of_mem_set hq' with hm | rfl
  · exact h q' hm
  · exact hq
set_option maxHeartbeats 2000000 in
set_option maxRecDepth 100000 in
theorem becomes_calls (c p g cap : Nat) (s : FS) (i : Nat) (to : List UInt8) (w : World) (o : Col) (h : Fl w o c p g cap s) (hi : i < s.pg.length) (hto : to.length = 64) :
    Calls Try.prog 61 #[.pointer (some ⟨p, 0, none⟩), .int .i64 i, .agg (vbs to).toArray] w (Post [c] w o fun r w' o' => r = .int .i64 (becE s) ∧ Fl w' o' c p g cap (bec s i to)) := by
  obtain ⟨d, hdc, _, hd⟩ := fresh o w.heap.size [c]
  have hne := h.ne
  have hb0 := h.blk
  have s0 : Stp [d] w o _ _ := (Stp.refl [d] w o).alloc (.cells (vbs to).toArray 82) d
  have h' := h.stp s0 (by simpa using fun e => hdc (by simp [e]))
  obtain ⟨w1, hw1⟩ : ∃ w1, w.alloc (.cells (vbs to).toArray 82) = w1 := ⟨_, rfl⟩
  have hblk : w1.heap[w.heap.size]? = some (.cells (vbs to).toArray 82 (0, 0)) := by rw [← hw1]; exact heap_alloc_new w _
  have hcol : paint o w.heap.size d w.heap.size = d := paint_at _ _ _
  rw [hw1] at s0 h'
  have h0 := h'.c0
  have h1 := h'.c1
  have h2 := h'.c2
  have h3 := h'.c3
  have hi1 : (0 : Int) ≤ (i : Int) ∧ (i : Int) < (s.pg.length : Int) := by omega
  obtain ⟨hk1, hk2', hk3', hk4, hk5, hk6⟩ := h.ok
  obtain ⟨tn, htn⟩ : ∃ tn : Nat, s.tear = tn := ⟨s.tear.toNat, by omega⟩
  have htn64 : tn ≤ 64 := by omega
  have ht1 : (0 : Int) ≤ (tn : Int) ∧ (tn : Int) ≤ 64 := by omega
  rw [htn] at h2
  by_cases hf : s.fuse = 0
  · rw [hf] at h1
    go_enter Try.func61, Try.ntmps61
    go_wp2_with fail
    have hl : (to.take tn).length = tn := by rw [List.length_take]; omega
    have hthere := h'.pgs.there hi
    obtain ⟨w2, hw2⟩ : ∃ w2, w1.drew.setCells g (i * 64) (vbs (to.take tn)) = w2 := ⟨_, rfl⟩
    have hrun := run_copy_cells (P := Try.prog) w1.drew 22 22 3 5 g (i * 64) tn 64 ⟨w.heap.size, 0, none⟩ 64 64 (vbs (to.take tn)) Try.underlying22 (by kernel_rfl) (by rw [vbs_length, hl]; exact (Nat.min_eq_right htn64).symm)
      (fun j v hv => by
        rw [Addr.add_lit, Nat.zero_add]
        refine (blk_cell hblk j).trans ?_
        rw [vbs, List.map_take, List.getElem?_take] at hv
        split at hv
        · simpa [vbs] using hv
        · cases hv) (fun j hj => (hthere j (by rw [vbs_length, hl] at hj; omega)).1) (fun j hj => (hthere j (by rw [vbs_length, hl] at hj; omega)).2) (vbs_one _)
    rw [hw2] at hrun
    have hkc : ∀ j, w2.cell? ⟨p, j, none⟩ = w1.cell? ⟨p, j, none⟩ := fun j => by rw [← hw2]; exact (World.cell?_setCells_out g _ _ _ _ (fun e => absurd e hne))
    have hk0 := (hkc 0).trans h0
    have hk2 := (hkc 2).trans h2
    have hk3 := (hkc 3).trans h3
    have hb2 := (show w2.heap[p]? = w1.heap[p]? from by rw [← hw2]; exact setCells_ne g hne _ _ _).trans h'.blk
    have hfr := blk_free hb2 3
    obtain ⟨r, hr⟩ : ∃ r, s.pg[i]? = some r := ⟨s.pg[i], by simp [hi]⟩
    have hp2 : Pgs w2 (paint o w.heap.size d) c g (s.pg.set i (to.take tn ++ r.drop (to.take tn).length)) := by rw [← hw2]; exact (h'.pgs.stp (Stp.refl [] w1 _).drew (by simp)).put hr (q := to.take tn) (by omega)
    have s2 : Stp [c] w o w2 (paint o w.heap.size d) := by rw [← hw2]; exact ((s0.drop hd).none.drew).trans (setCells_stp g _ _ _ (by rw [h'.pgs.col]; simp))
    have hrl := (h'.pgs.at_ i r hr).1
    have Hrest := Lib.hid hkc
    have Hhw2 := Lib.hid hw2
    clear hkc hw2
    rw [hl] at hp2
    go_region_held_law (fun w' => w'.cell? ⟨p, 0, none⟩ = some (.slice (some ⟨g, 0, none⟩) s.pg.length cap) ∧ w'.cell? ⟨p, 2, none⟩ = some (.int .i64 tn)) (first | go_keep | exact ⟨hk0, hk2⟩) ((refine step_copy _ _ rfl (by rfl) (by rfl) (by rfl) (by rfl) hrun ?_))
    go_wp2
    go_ret
    refine Post.mk (s2.setCell (fun _ => by rw [h'.col]; simp) _) ⟨by rw [becE, if_pos hf]; rfl, ?_⟩
    rw [bec, if_pos hf]
    refine ⟨?_, h'.col, ?_, ?_, ?_⟩
    · refine (blk_set hb2 _).trans ?_
      rw [List.length_set]
      rfl
    · refine Pgs.set ?_ hne _
      rw [htn, Int.toNat_natCast, List.getD_eq_getElem?_getD, hr]
      exact hp2
    · rw [List.length_set]; exact h.cap
    · refine ⟨set_ok hk1 ?_, by rw [List.length_set]; exact hk2', hk3', hk4, hk5, hk6⟩
      rw [htn, Int.toNat_natCast, List.getD_eq_getElem?_getD, hr, List.length_append, hl]
      simp
      omega
  · have hf1 : (s.fuse == 0) = false := by simpa using hf
    have hfr := blk_free h'.blk 1
    obtain ⟨m, hm⟩ : ∃ m, max (s.fuse - 1) (-1) = m := ⟨_, rfl⟩
    obtain ⟨w2, hw2⟩ : ∃ w2, w1.setCell ⟨p, 1, none⟩ (.int .i64 m) = w2 := ⟨_, rfl⟩
    have hB : w2.heap[w.heap.size]? = some (.cells (vbs to).toArray 82 (0, 0)) := by
      rw [← hw2]
      refine (Below.heap_setCell _ _ _ _ ?_).trans hblk
      exact fun e => by have := (Array.getElem?_eq_some_iff.1 hb0).1; simp at e; omega
    have hb2 : w2.heap[p]? = some (.cells #[.slice (some ⟨g, 0, none⟩) s.pg.length cap, .int .i64 m, .int .i64 s.tear, .bool s.dead] 81 (0, 0)) := by rw [← hw2]; exact blk_set h'.blk _
    have hp2 : Pgs w2 (paint o w.heap.size d) c g s.pg := by rw [← hw2]; exact h'.pgs.set hne _
    have s2 : Stp [c] w o w2 (paint o w.heap.size d) := by rw [← hw2]; exact (s0.drop hd).none.setCell (fun _ => by rw [h'.col]; simp) _
    have hthere := hp2.there hi
    have hrange : w2.rangeAt w.heap.size 0 (vbs to) := fun j v hv => by rw [Nat.zero_add, blk_cell hB]; simpa using hv
    have hk0 : w2.cell? ⟨p, 0, none⟩ = some (.slice (some ⟨g, 0, none⟩) s.pg.length cap) := blk_cell hb2 0
    have hu := Try.underlying82
    have hi64 : (Try.prog.info? 82).map (·.size) = some (vbs to).length := by rw [vbs_length, hto]; kernel_rfl
    have hl64 : (vbs to).length = 64 := by rw [vbs_length, hto]
    have hone := vbs_one to
    obtain ⟨w3, hw3⟩ : ∃ w3, w2.drew.setCells g (i * 64) (vbs to) = w3 := ⟨_, rfl⟩
    have hBg : w.heap.size ≠ g := by
      obtain ⟨cur, hg, _⟩ := h.pgs.blk
      have := (Array.getElem?_eq_some_iff.1 hg).1
      omega
    have kk : (w2.drew.setCells g (i * 64) (vbs to)).cell? ⟨p, 0, none⟩ = some (.slice (some ⟨g, 0, none⟩) s.pg.length cap) := (World.cell?_setCells_out g _ _ _ _ (fun e => absurd e hne)).trans hk0
    have kr : (w2.drew.setCells g (i * 64) (vbs to)).rangeAt w.heap.size 0 (vbs to) := World.rangeAt_setCells_apart (w := w2.drew) hrange _ _ _ (.inl hBg)
    have kt : (w2.drew.setCells g (i * 64) (vbs to)).there g (i * 64) 64 := World.there_setCells (w := w2.drew) hthere _ _ _
    obtain ⟨r, hr⟩ : ∃ r, s.pg[i]? = some r := ⟨s.pg[i], by simp [hi]⟩
    have hrl := (h'.pgs.at_ i r hr).1
    have hfin : Post [c] w o (fun r w' o' => r = .int .i64 (becE s) ∧ Fl w' o' c p g cap (bec s i to)) (.returned (.int .i64 0)) w3 := by
      rw [← hw3]
      refine Post.mk ((s2.drew).trans (setCells_stp g _ _ _ (by rw [h'.pgs.col]; simp))) ⟨by rw [becE, if_neg hf], ?_⟩
      rw [bec, if_neg hf, hm]
      refine ⟨?_, h'.col, ?_, ?_, ?_⟩
      · refine ((setCells_ne g hne _ _ w2.drew).trans hb2).trans ?_
        rw [List.length_set]
      · have := (hp2.stp (Stp.refl [] w2 _).drew (by simp)).put hr (q := to) (by omega)
        rwa [List.drop_eq_nil_of_le (by omega), List.append_nil] at this
      · rw [List.length_set]; exact h.cap
      · exact ⟨set_ok hk1 hto, by rw [List.length_set]; exact hk2', by show -1 ≤ m; omega, by show m ≤ _; omega, hk5, hk6⟩
    by_cases hlt : s.fuse - 1 < -1
    · go_enter Try.func61, Try.ntmps61
      go_wp2_with fail
      rw [show (Value.int .i64 (-1)) = .int .i64 m from by congr 1; omega, hw2]
      go_region_held (fun w' => w'.cell? ⟨p, 0, none⟩ = some (.slice (some ⟨g, 0, none⟩) s.pg.length cap) ∧ w'.rangeAt w.heap.size 0 (vbs to) ∧ w'.there g (i * 64) 64) (first | exact ⟨hk0, hrange, hthere⟩ | exact ⟨kk, kr, kt⟩ | go_keep_ranges) (fail)
      rw [hw3]
      go_wp2
      go_ret
      exact hfin
    · go_enter Try.func61, Try.ntmps61
      go_wp2_with fail
      rw [show (Value.int .i64 (s.fuse - 1)) = .int .i64 m from by congr 1; omega, hw2]
      go_region_held (fun w' => w'.cell? ⟨p, 0, none⟩ = some (.slice (some ⟨g, 0, none⟩) s.pg.length cap) ∧ w'.rangeAt w.heap.size 0 (vbs to) ∧ w'.there g (i * 64) 64) (first | exact ⟨hk0, hrange, hthere⟩ | exact ⟨kk, kr, kt⟩ | go_keep_ranges) (fail)
      rw [hw3]
      go_wp2
      go_ret
      exact hfin

end Go.Proofs.Ytpjnmijfmfgdpaa
