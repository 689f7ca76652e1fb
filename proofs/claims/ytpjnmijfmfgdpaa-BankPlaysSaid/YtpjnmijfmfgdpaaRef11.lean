/- Pages: the document's flash (ref11). -/
import Derived.Test.YtpjnmijfmfgdpaaPageS
namespace Go.Proofs.Ytpjnmijfmfgdpaa
set_option linter.unusedVariables false
set_option linter.unusedSimpArgs false
open Go.RowKit

/-- The document's flash: its block p (colour e), its rows' slices (colour e), each row (colour c), no two in one block. -/
structure XFl (w : World) (o : Col) (c e p : Nat) (vP : Value) (vs : List Value) (s : FS) : Prop where
  blk : w.heap[p]? = some (.cells #[vP, .int .i64 s.fuse, .int .i64 s.tear, .bool s.dead] 77 (0, 0))
  col : o p = e
  own : Own w o e 22 1 vP vs.length vs
  len : vs.length = s.pg.length
  row : ∀ (i : Nat) (v : Value) (q : List UInt8), vs[i]? = some v → s.pg[i]? = some q → OwnB w o c v q
  apart : ∀ (i j : Nat) (v u : Value), i ≠ j → vs[i]? = some v → vs[j]? = some u → ∀ k : Nat, v.ownBlock = some k → u.ownBlock ≠ some k
  ok : s.ok
theorem XFl.stp {C : List Nat} {w w1 : World} {o o1 : Col} {c e p : Nat} {vP : Value} {vs : List Value} {s : FS} (h : XFl w o c e p vP vs s) (hs : Stp C w o w1 o1) (hc : c ∉ C) (he : e ∉ C) : XFl w1 o1 c e p vP vs s :=
  ⟨hs.blk h.blk (by rw [h.col]; exact he), (hs.colb h.blk).trans h.col, h.own.stp hs he, h.len, fun i v q h1 h2 => OwnB.stp (h.row i v q h1 h2) hs hc, h.apart, h.ok⟩
theorem XFl.c0 {w : World} {o : Col} {c e p : Nat} {vP : Value} {vs : List Value} {s : FS} (h : XFl w o c e p vP vs s) : w.cell? ⟨p, 0, none⟩ = some vP := blk_cell h.blk 0
theorem XFl.c1 {w : World} {o : Col} {c e p : Nat} {vP : Value} {vs : List Value} {s : FS} (h : XFl w o c e p vP vs s) : w.cell? ⟨p, 1, none⟩ = some (.int .i64 s.fuse) := blk_cell h.blk 1
theorem XFl.c2 {w : World} {o : Col} {c e p : Nat} {vP : Value} {vs : List Value} {s : FS} (h : XFl w o c e p vP vs s) : w.cell? ⟨p, 2, none⟩ = some (.int .i64 s.tear) := blk_cell h.blk 2
theorem XFl.c3 {w : World} {o : Col} {c e p : Nat} {vP : Value} {vs : List Value} {s : FS} (h : XFl w o c e p vP vs s) : w.cell? ⟨p, 3, none⟩ = some (.bool s.dead) := blk_cell h.blk 3
theorem XFl.shape {w : World} {o : Col} {c e p : Nat} {vP : Value} {vs : List Value} {s : FS} (h : XFl w o c e p vP vs s) : ∃ A cap, vP = .slice A s.pg.length cap := by
  obtain ⟨A, cap, e⟩ := h.own.shape
  exact ⟨A, cap, by rw [e, h.len]⟩
/-- A field of the flash is written. -/
theorem XFl.set1 {w : World} {o : Col} {c e p j : Nat} {vP : Value} {vs : List Value} {s s' : FS} {u : Value} (h : XFl w o c e p vP vs s)
    (hu : (#[vP, .int .i64 s.fuse, .int .i64 s.tear, .bool s.dead] : Array Value).setIfInBounds j u = #[vP, .int .i64 s'.fuse, .int .i64 s'.tear, .bool s'.dead]) (hpg : s'.pg = s.pg) (hok : s'.ok) :
    XFl (w.setCell ⟨p, j, none⟩ u) o c e p vP vs s' ∧ Stp [e] w o (w.setCell ⟨p, j, none⟩ u) o := by
  refine ⟨⟨by rw [← hu]; exact blk_set h.blk _, h.col, h.own.set (h.own.ne h.blk (by decide)) _, by rw [hpg]; exact h.len, fun i v q h1 h2 => ?_, h.apart, hok⟩, (Stp.refl _ _ _).setCell (fun _ => by rw [h.col]; simp) _⟩
  have h3 := h.row i v q h1 (by rw [← hpg]; exact h2)
  exact Own.set h3 (Own.ne h3 h.blk (by decide)) _
/-- The slice of a row, in the rows' slice. -/
theorem XFl.slot {w : World} {o : Col} {c e p cap : Nat} {A : Option Addr} {n : Nat} {vs : List Value} {s : FS} (h : XFl w o c e p (.slice A n cap) vs s) {i : Nat} (hi : i < s.pg.length) :
    ∃ a v q, A = some a ∧ o (a.add i).block = e ∧ vs[i]? = some v ∧ s.pg[i]? = some q ∧ w.cell? (a.add i) = some v ∧ OwnB w o c v q ∧ q.length = 64 := by
  have hiv : i < vs.length := by rw [h.len]; exact hi
  obtain ⟨_, _, _, A', cap', e1, _, _, hc⟩ := h.own.rd
  injection e1 with e1 e2 e3
  subst e1
  obtain ⟨a, rfl, ho, _, hc⟩ := hc (by omega)
  have hq : s.pg[i]? = some s.pg[i] := by simp [hi]
  have hv : vs[i]? = some vs[i] := by simp [hiv]
  exact ⟨a, _, _, rfl, by rw [add_block]; exact ho, hv, hq, hc i _ hv, h.row i _ _ hv hq, h.ok.1 _ (List.getElem_mem _)⟩
/-- A byte of a row is written. -/
theorem XFl.store {w : World} {o : Col} {c e p : Nat} {vP : Value} {vs : List Value} {s : FS} (h : XFl w o c e p vP vs s) {i j : Nat} {v : Value} {q : List UInt8} (hv : vs[i]? = some v) (hq : s.pg[i]? = some q) (hj : j < q.length) :
    ∃ g n cap, v = .slice (some ⟨g, 0, none⟩) n cap ∧ n = q.length ∧ o g = c ∧ g ≠ p ∧ vP.ownBlock ≠ some g ∧ w.cell? ⟨g, j, none⟩ = some (.int .u8 ((q[j]).toNat : Int)) ∧ w.frozen? ⟨g, j, none⟩ = false ∧
      ∀ b : UInt8, XFl (w.setCell ⟨g, j, none⟩ (.int .u8 (b.toNat : Int))) o c e p vP vs { s with pg := s.pg.set i (q.set j b) } ∧ Stp [c] w o (w.setCell ⟨g, j, none⟩ (.int .u8 (b.toNat : Int))) o := by
  have hr := h.row i v q hv hq
  obtain ⟨A, cap, rfl⟩ := Own.shape hr
  obtain ⟨g, rfl, k1, k2, k3⟩ := hr.store hj
  have hg : o g = c := hr.col g rfl
  have hgp : g ≠ p := fun e => by subst e; exact Own.ne hr h.blk (by decide) rfl
  have hgb : vP.ownBlock ≠ some g := by
    rcases hr.own.2 with ⟨hx, _⟩ | ⟨g', cap', cur, hx, _, hgg, _⟩
    · cases hx
    · injection hx with e1 _ _
      injection e1 with e1
      injection e1 with e1
      subst e1
      exact Own.ne h.own hgg (by decide)
  refine ⟨g, _, cap, rfl, rfl, hg, hgp, hgb, k1, k2, fun b => ⟨?_, (k3 b).2⟩⟩
  refine ⟨(Below.heap_setCell _ _ _ _ (Ne.symm hgp)).trans h.blk, h.col, h.own.set hgb _, by rw [List.length_set]; exact h.len, fun i' v' q' h1 h2 => ?_, h.apart, ?_⟩
  · rw [List.getElem?_set] at h2
    by_cases e : i = i'
    · subst e
      rw [hv] at h1
      injection h1 with h1
      subst h1
      rw [if_pos rfl] at h2
      split at h2
      · injection h2 with h2
        subst h2
        exact (k3 b).1
      · cases h2
    · rw [if_neg e] at h2
      exact Own.set (h.row i' v' q' h1 h2) (h.apart i i' _ _ e hv h1 g rfl) _
  · obtain ⟨a1, a2, a3, a4, a5, a6⟩ := h.ok
    exact ⟨set_ok a1 (by rw [List.length_set]; exact a1 q (List.mem_of_getElem? hq)), by rw [List.length_set]; exact a2, a3, a4, a5, a6⟩

set_option maxHeartbeats 1000000 in
theorem xfuse_calls (c e p : Nat) (vP : Value) (vs : List Value) (s : FS) (n tear : Int) (w : World) (o : Col) (h : XFl w o c e p vP vs s) (hn : n ≤ 9223372036854775807) :
    Calls Try.prog 30 #[.pointer (some ⟨p, 0, none⟩), .int .i64 n, .int .i64 tear] w (Post [e] w o fun r w' o' => r = .tuple #[] ∧ XFl w' o' c e p vP vs (fuseS s n tear)) := by
  have h1 := h.c1
  have h2 := h.c2
  have f1 := blk_free h.blk 1
  have f2 := blk_free h.blk 2
  obtain ⟨k1, k2, k3, k4, k5, k6⟩ := h.ok
  obtain ⟨x, hx⟩ : ∃ x, max n (-1) = x := ⟨_, rfl⟩
  obtain ⟨y, hy⟩ : ∃ y, min (max tear 0) 64 = y := ⟨_, rfl⟩
  have key1 := h.set1 (j := 1) (u := .int .i64 x) (s' := { s with fuse := x }) rfl rfl ⟨k1, k2, by show -1 ≤ x; omega, by show x ≤ _; omega, k5, k6⟩
  have key2 := key1.1.set1 (j := 2) (u := .int .i64 y) (s' := fuseS s n tear) (by rw [fuseS, hx, hy]; rfl) rfl ⟨k1, k2, by show -1 ≤ max n (-1); omega, by show max n (-1) ≤ _; omega, by show 0 ≤ min (max tear 0) 64; omega, by show min (max tear 0) 64 ≤ 64; omega⟩
  have Hfin := Lib.hid (show Post [e] w o (fun r w' o' => r = .tuple #[] ∧ XFl w' o' c e p vP vs (fuseS s n tear)) (.returned (.tuple #[])) _ from Post.mk (key1.2.trans key2.2) ⟨rfl, key2.1⟩)
  clear key1 key2
  have hxx : (n < -1 ∧ x = -1) ∨ (¬ n < -1 ∧ x = n) := by omega
  have hyy : (tear < 0 ∧ y = 0) ∨ (¬ tear < 0 ∧ 64 < tear ∧ y = 64) ∨ (¬ tear < 0 ∧ ¬ 64 < tear ∧ y = tear) := by omega
  clear hx hy hn
  rcases hxx with ⟨e1, rfl⟩ | ⟨e1, rfl⟩ <;> rcases hyy with ⟨e2, rfl⟩ | ⟨e2, e3, rfl⟩ | ⟨e2, e3, rfl⟩
  all_goals
    go_enter Try.func30, Try.ntmps30
    go_wp2
    go_end0
    exact Hfin.out
theorem xboot_calls (c e p : Nat) (vP : Value) (vs : List Value) (s : FS) (w : World) (o : Col) (h : XFl w o c e p vP vs s) :
    Calls Try.prog 32 #[.pointer (some ⟨p, 0, none⟩)] w (Post [e] w o fun r w' o' => r = .tuple #[] ∧ XFl w' o' c e p vP vs (bootS s)) := by
  have h1 := h.c1
  have h3 := h.c3
  have f1 := blk_free h.blk 1
  have f3 := blk_free h.blk 3
  obtain ⟨k1, k2, k3, k4, k5, k6⟩ := h.ok
  have key1 := h.set1 (j := 1) (u := .int .i64 (-1)) (s' := { s with fuse := -1 }) rfl rfl ⟨k1, k2, by show (-1 : Int) ≤ -1; omega, by show (-1 : Int) ≤ _; omega, k5, k6⟩
  have key2 := key1.1.set1 (j := 3) (u := .bool false) (s' := bootS s) rfl rfl ⟨k1, k2, by show (-1 : Int) ≤ -1; omega, by show (-1 : Int) ≤ _; omega, k5, k6⟩
  have Hfin := Lib.hid (show Post [e] w o (fun r w' o' => r = .tuple #[] ∧ XFl w' o' c e p vP vs (bootS s)) (.returned (.tuple #[])) _ from Post.mk (key1.2.trans key2.2) ⟨rfl, key2.1⟩)
  clear key1 key2
  go_enter Try.func32, Try.ntmps32
  go_wp2
  go_end0
  exact Hfin.out

/-- What the fuse lets be done. -/
def burnN (s : FS) : Nat := if s.fuse = 0 then s.tear.toNat else 64
def burnS (s : FS) : FS := if s.fuse = 0 then { s with dead := true } else { s with fuse := max (s.fuse - 1) (-1) }
set_option maxHeartbeats 1000000 in
theorem burn_calls (c e p : Nat) (vP : Value) (vs : List Value) (s : FS) (w : World) (o : Col) (h : XFl w o c e p vP vs s) :
    Calls Try.prog 62 #[.pointer (some ⟨p, 0, none⟩)] w (Post [e] w o fun r w' o' => r = .tuple #[.int .i64 (burnN s), .int .i64 (becE s)] ∧ XFl w' o' c e p vP vs (burnS s)) := by
  have h1 := h.c1
  have h2 := h.c2
  have h3 := h.c3
  have f1 := blk_free h.blk 1
  have f3 := blk_free h.blk 3
  obtain ⟨k1, k2, k3, k4, k5, k6⟩ := h.ok
  by_cases h0 : s.fuse = 0
  · have key := h.set1 (j := 3) (u := .bool true) (s' := burnS s) (by rw [burnS, if_pos h0]; rfl) (by rw [burnS, if_pos h0]) (by rw [burnS, if_pos h0]; exact ⟨k1, k2, k3, k4, k5, k6⟩)
    have key := Lib.hid key
    have ht : ((burnN s : Nat) : Int) = s.tear := by rw [burnN, if_pos h0]; omega
    have hE : becE s = 11 := by rw [becE, if_pos h0]
    rw [ht, hE]
    rw [h0] at h1
    go_enter Try.func62, Try.ntmps62
    go_wp2
    refine bodyPost_ret (results_tmp2 rfl _ _ _) rfl ?_
    exact Post.mk key.out.2 ⟨rfl, key.out.1⟩
  · have ht : ((burnN s : Nat) : Int) = 64 := by rw [burnN, if_neg h0]; rfl
    have hE : becE s = 0 := by rw [becE, if_neg h0]
    have hf1 : (s.fuse == 0) = false := by simpa using h0
    rw [ht, hE]
    by_cases hp : 0 < s.fuse
    · have key := h.set1 (j := 1) (u := .int .i64 (s.fuse - 1)) (s' := burnS s) (by rw [burnS, if_neg h0]; show _ = #[vP, .int .i64 (max (s.fuse - 1) (-1)), .int .i64 s.tear, .bool s.dead]; rw [show max (s.fuse - 1) (-1) = s.fuse - 1 from by omega]; rfl) (by rw [burnS, if_neg h0]) (by rw [burnS, if_neg h0]; exact ⟨k1, k2, by show -1 ≤ max (s.fuse - 1) (-1); omega, by show max (s.fuse - 1) (-1) ≤ _; omega, k5, k6⟩)
      have key := Lib.hid key
      go_enter Try.func62, Try.ntmps62
      go_wp2
      refine bodyPost_ret (results_tmp2 rfl _ _ _) rfl ?_
      exact Post.mk key.out.2 ⟨rfl, key.out.1⟩
    · have hS : burnS s = s := by rw [burnS, if_neg h0, show max (s.fuse - 1) (-1) = s.fuse from by omega]
      rw [hS]
      go_enter Try.func62, Try.ntmps62
      go_wp2
      refine bodyPost_ret (results_tmp2 rfl _ _ _) rfl ?_
      exact Post.mk (Stp.refl _ _ _) ⟨rfl, h⟩

end Go.Proofs.Ytpjnmijfmfgdpaa
