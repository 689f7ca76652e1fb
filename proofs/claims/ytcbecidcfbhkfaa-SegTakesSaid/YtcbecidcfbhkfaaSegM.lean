/- Messages that are open (chapter 15): what a Join holds, in memory. -/
import Derived.Test.YtcbecidcfbhkfaaSeg
import Derived.Maps.Own
import Derived.Maps.OwnSet
import Derived.Maps.Views
namespace Go.Proofs.Ytcbecidcfbhkfaa
set_option linter.unusedVariables false
set_option linter.unusedSimpArgs false
open Go.RowKit Go.ChangeMaps

/-! ### Plain -/
/-- A message of which a first frame came. -/
structure OE where
  m : List UInt8
  all : Nat
  n : Nat
  last : Int
/-- Messages that are open, by their IDs; how many; how many errors there were. -/
structure JS where
  f : Int → Option OE
  cnt : Nat
  err : Nat
def upd {α : Type} (f : Int → α) (id : Int) (x : α) : Int → α := fun i => if i = id then x else f i
theorem upd_same {α : Type} (f : Int → α) (id : Int) (x : α) : upd f id x id = x := if_pos rfl
theorem upd_other {α : Type} (f : Int → α) {id i : Int} (x : α) (h : i ≠ id) : upd f id x i = f i := if_neg h
def JS.bad (s : JS) : JS := { s with err := s.err + 1 }
def JS.del (s : JS) (id : Int) : JS := { s with f := upd s.f id none, cnt := s.cnt - 1 }
def JS.put (s : JS) (id : Int) (e : OE) : JS := { s with f := upd s.f id (some e), cnt := s.cnt + 1 }
def JS.set (s : JS) (id : Int) (e : OE) : JS := { s with f := upd s.f id (some e) }
def dropJ (s : JS) (id : Int) : JS := match s.f id with
  | none => s
  | some _ => s.bad.del id

/-! ### In memory -/
def ptrElem : Value → Option (DataW Unit × List MemPlace)
  | .pointer none => some (.nil, [])
  | .pointer (some ⟨q, 0, none⟩) => some (.lit (.int .i64 q), [])
  | _ => none
theorem ptrElem_nil {v : Value} {ps : List MemPlace} (h : ptrElem v = some (.nil, ps)) : v = .pointer none := by
  unfold ptrElem at h
  split at h
  · rfl
  · injection h with h; injection h with h _; cases h
  · cases h
theorem ptrElem_lit {v : Value} {q : Nat} {ps : List MemPlace} (h : ptrElem v = some (.lit (.int .i64 q), ps)) : v = .pointer (some ⟨q, 0, none⟩) := by
  unfold ptrElem at h
  split at h
  · simp at h
  · simp only [Option.some.injEq, Prod.mk.injEq, DataW.lit.injEq, Lit.int.injEq, Int.natCast_inj, true_and] at h
    rw [h.1]
  · cases h
def ptrD (Q : Int → Nat) (f : Int → Option OE) (id : Int) : DataW Unit := match f id with
  | none => .nil
  | some _ => .lit (.int .i64 (Q id))
def ptrV (Q : Int → Nat) (f : Int → Option OE) (id : Int) : Value := match f id with
  | none => .pointer none
  | some _ => .pointer (some ⟨Q id, 0, none⟩)
def lit (id : Int) : Lit := .int .i64 id
theorem lit_key (id : Int) : WideAt.IsKeyLit (lit id) := trivial
theorem lit_ne {i j : Int} (h : i ≠ j) : lit i ≠ lit j := fun e => h (by injection e)

/-- What a Join's map reads as. -/
structure MpD (w : World) (mb : Nat) (Q : Int → Nat) (f : Int → Option OE) (cnt : Nat) (D : DataW Unit) : Prop where
  own : w.ownsMap Try.prog 3 ptrElem mb cnt D
  at_ : ∀ id, D.atKey (lit id) .nil = ptrD Q f id
  has : ∀ id, Maps.has D (lit id) = (f id).isSome
  size : Maps.size D = cnt
structure JFl (w : World) (o : Col) (c p mb : Nat) (Q : Int → Nat) (V : Int → Value) (s : JS) : Prop where
  blk : w.heap[p]? = some (.cells #[.map (some mb), .int .i64 s.err] 60 (0, 0))
  colp : o p = c
  colm : o mb = c
  map : ∃ D, MpD w mb Q s.f s.cnt D
  ent : ∀ id e, s.f id = some e → w.heap[Q id]? = some (.cells #[V id, .int .i64 e.all, .int .i64 e.n, .int .i64 e.last] 63 (0, 0)) ∧ o (Q id) = c ∧ OwnB w o c (V id) e.m
  apart : ∀ i j e e', s.f i = some e → s.f j = some e' → i ≠ j → Q i ≠ Q j ∧ ∀ k : Nat, (V i).ownBlock = some k → (V j).ownBlock ≠ some k

theorem blk_ne {w : World} {p q t u : Nat} {cs ds : Array Value} {fz fz' : Nat × Nat} (hp : w.heap[p]? = some (.cells cs t fz)) (hq : w.heap[q]? = some (.cells ds u fz')) (h : t ≠ u) : p ≠ q := by
  rintro rfl
  rw [hp] at hq
  injection hq with hq
  injection hq with _ hq _
  exact h hq
theorem map_ne {w : World} {p q t clock : Nat} {cs : Array Value} {es : Array MapEntry} {fz : Nat × Nat} (hp : w.heap[p]? = some (.cells cs t fz)) (hq : w.heap[q]? = some (.map es clock)) : p ≠ q := by
  rintro rfl
  rw [hp] at hq
  injection hq with hq
  cases hq
theorem own_ne {w : World} {o : Col} {c e sz n q clock : Nat} {v : Value} {vals : List Value} {es : Array MapEntry} (h : Own w o c e sz v n vals) (hq : w.heap[q]? = some (.map es clock)) : v.ownBlock ≠ some q := by
  intro hk
  rcases h.own.2 with ⟨hv, _⟩ | ⟨g, cap, cur, hv, hb, hg, r⟩
  · subst hv; cases hk
  · subst hv
    injection hk with hk
    subst hk
    exact map_ne hg hq rfl
theorem MpD.blk {w : World} {mb cnt : Nat} {Q : Int → Nat} {f : Int → Option OE} {D : DataW Unit} (h : MpD w mb Q f cnt D) : ∃ es clock, w.heap[mb]? = some (.map es clock) := by
  obtain ⟨es, clock, hb, _⟩ := h.own
  exact ⟨es, clock, hb⟩
/-- The map's block stays, so the map stays. -/
theorem MpD.keep {w w1 : World} {mb cnt : Nat} {Q : Int → Nat} {f : Int → Option OE} {D : DataW Unit} (h : MpD w mb Q f cnt D) (hk : w1.heap[mb]? = w.heap[mb]?) : MpD w1 mb Q f cnt D := by
  obtain ⟨⟨es, clock, hb, r⟩, h2, h3, h4⟩ := h
  exact ⟨⟨es, clock, hk.trans hb, r⟩, h2, h3, h4⟩
theorem JFl.stp {C : List Nat} {w w1 : World} {o o1 : Col} {c p mb : Nat} {Q : Int → Nat} {V : Int → Value} {s : JS} (h : JFl w o c p mb Q V s) (hs : Stp C w o w1 o1) (hn : c ∉ C) : JFl w1 o1 c p mb Q V s := by
  obtain ⟨D, hD⟩ := h.map
  obtain ⟨es, clock, hb⟩ := hD.blk
  refine ⟨hs.blk h.blk (by rw [h.colp]; exact hn), (hs.colb h.blk).trans h.colp, (hs.colb hb).trans h.colm, ⟨D, hD.keep (hs.keep _ (Array.getElem?_eq_some_iff.1 hb).1 (by rw [h.colm]; exact hn))⟩, fun id e he => ?_, h.apart⟩
  obtain ⟨h1, h2, h3⟩ := h.ent id e he
  exact ⟨hs.blk h1 (by rw [h2]; exact hn), (hs.colb h1).trans h2, OwnB.stp h3 hs hn⟩
theorem JFl.c0 {w : World} {o : Col} {c p mb : Nat} {Q : Int → Nat} {V : Int → Value} {s : JS} (h : JFl w o c p mb Q V s) : w.cell? ⟨p, 0, none⟩ = some (.map (some mb)) := blk_cell h.blk 0
theorem JFl.c1 {w : World} {o : Col} {c p mb : Nat} {Q : Int → Nat} {V : Int → Value} {s : JS} (h : JFl w o c p mb Q V s) : w.cell? ⟨p, 1, none⟩ = some (.int .i64 s.err) := blk_cell h.blk 1
/-- One error more. -/
theorem JFl.bad {w : World} {o : Col} {c p mb : Nat} {Q : Int → Nat} {V : Int → Value} {s : JS} (h : JFl w o c p mb Q V s) :
    JFl (w.setCell ⟨p, 1, none⟩ (.int .i64 ((s.err : Int) + 1))) o c p mb Q V s.bad ∧ Stp [c] w o (w.setCell ⟨p, 1, none⟩ (.int .i64 ((s.err : Int) + 1))) o := by
  obtain ⟨D, hD⟩ := h.map
  obtain ⟨es, clock, hb⟩ := hD.blk
  have hne := map_ne h.blk hb
  refine ⟨⟨blk_set h.blk _, h.colp, h.colm, ⟨D, hD.keep (Below.heap_setCell _ _ _ _ (Ne.symm hne))⟩, fun id e he => ?_, h.apart⟩, (Stp.refl _ _ _).setCell (fun _ => by rw [h.colp]; simp) _⟩
  obtain ⟨h1, h2, h3⟩ := h.ent id e he
  refine ⟨(Below.heap_setCell _ _ _ _ (blk_ne h1 h.blk (by decide))).trans h1, h2, Own.set h3 (Own.ne h3 h.blk (by decide)) _⟩

theorem keyed : Maps.Keyed Try.prog 3 := Maps.int_keyed Try.underlying3
theorem keyOfId {id : Int} (hw : (Lit.int .i64 id).wf = true) : keyOf Try.prog 3 (.int .i64 id) = some (lit id) := Maps.keyOf_int_mk Try.underlying3 hw
theorem zeroP (w : World) : (zeroValue 61).run Try.prog w = .ok (.pointer none) w := by kernel_rfl
/-- 'j.open[id]'. -/
theorem JFl.look {w : World} {o : Col} {c p mb : Nat} {Q : Int → Nat} {V : Int → Value} {s : JS} (h : JFl w o c p mb Q V s) {id : Int} (hw : (Lit.int .i64 id).wf = true) :
    (Instr.lookup 58 (.map (some mb)) (.int .i64 id) false).run Try.prog w = .ok (ptrV Q s.f id) w := by
  obtain ⟨D, hD⟩ := h.map
  have hz := zeroP w
  obtain ⟨v, ps, hrun, hv⟩ := hD.own.lookup keyed Try.underlying58 hz rfl (keyOfId hw)
  rw [hD.at_] at hv
  rw [hrun]
  congr 1
  unfold ptrD at hv
  unfold ptrV
  cases hf : s.f id with
  | none => rw [hf] at hv; exact ptrElem_nil hv
  | some e => rw [hf] at hv; exact ptrElem_lit hv
/-- 'len(j.open)'. -/
theorem JFl.count {w : World} {o : Col} {c p mb : Nat} {Q : Int → Nat} {V : Int → Value} {s : JS} (h : JFl w o c p mb Q V s) (ty : TypeId) :
    (Builtin.len_ #[58] ty #[.map (some mb)]).run Try.prog w = .ok (.int .i64 s.cnt) w := by
  obtain ⟨D, hD⟩ := h.map
  rw [hD.own.len Try.underlying58 ty, hD.size]
theorem ownsMap_tight {w : World} {b n : Nat} {D : DataW Unit} (h : w.ownsMap Try.prog 3 ptrElem b n D) : w.ownsMap Try.prog 3 ptrElem b (Maps.size D) D := by
  obtain ⟨es, clock, hb, F, hs, rfl⟩ := h
  refine ⟨es, clock, hb, F, ?_, rfl⟩
  show es.size ≤ ((es.toList.map (WideElems.rg Try.prog 3 ptrElem)).foldr DataW.insert []).length
  rw [length_sorted]
  simp
/-- Only the map has turned. -/
theorem turned_stp {w w' : World} {o : Col} {b c : Nat} (h : w.mapTurned w' b) (hc : o b = c) : Stp [c] w o w' o :=
  ⟨h.grown.os, h.grown.tape, h.grown.output, h.grown.size, fun _ _ => rfl, fun k hk hn => h.grown.block k hk (fun e => hn (by injection e with e; subst e; rw [hc]; simp))⟩
/-- 'delete(j.open, id)'. -/
theorem JFl.del {w : World} {o : Col} {c p mb : Nat} {Q : Int → Nat} {V : Int → Value} {s : JS} (h : JFl w o c p mb Q V s) {id : Int} (hw : (Lit.int .i64 id).wf = true) {e : OE} (he : s.f id = some e) (ty : TypeId) :
    ∃ w', (Builtin.delete_ #[58, 3] ty #[.map (some mb), .int .i64 id]).run Try.prog w = .ok (.tuple #[]) w' ∧ JFl w' o c p mb Q V (s.del id) ∧ Stp [c] w o w' o ∧ ∀ k, k ≠ mb → w'.heap[k]? = w.heap[k]? := by
  obtain ⟨D, hD⟩ := h.map
  obtain ⟨es, clock, hb⟩ := hD.blk
  obtain ⟨w', hrun, ho, ht⟩ := hD.own.drop keyed Try.underlying58 (keyOfId hw) ty
  have hg := ht.grown
  have hoth : ∀ k, k ≠ mb → w'.heap[k]? = w.heap[k]? := by
    obtain ⟨es1, clock1, es', clock', hb1, rfl⟩ := ht
    exact fun k hk => heap_setBlock_other hb1 _ hk
  have htidy := hD.own.tidy keyed
  have hsz := Maps.size_del (k := lit id) htidy
  have hh : Maps.has D (lit id) = true := by rw [hD.has, he]; rfl
  rw [hh, if_pos rfl, hD.size] at hsz
  have hs' : Maps.size (D.del (lit id)) = s.cnt - 1 := by omega
  have hst := turned_stp ht h.colm
  refine ⟨w', hrun, ⟨(hoth _ (map_ne h.blk hb)).trans h.blk, h.colp, h.colm, ⟨D.del (lit id), ?_, ?_, ?_, hs'⟩, ?_, ?_⟩, hst, hoth⟩
  · have := ownsMap_tight ho
    rw [hs'] at this
    exact this
  · intro i
    show _ = ptrD Q (upd s.f id none) i
    by_cases hi : i = id
    · subst hi
      rw [Maps.atKey_del_same, ptrD, upd_same]
    · rw [Maps.atKey_del_other (lit_ne hi), hD.at_, ptrD, ptrD, upd_other _ _ hi]
  · intro i
    show _ = (upd s.f id none i).isSome
    by_cases hi : i = id
    · subst hi
      rw [Maps.has_del_same, upd_same]; rfl
    · rw [Maps.has_del_other (lit_ne hi), hD.has, upd_other _ _ hi]
  · intro i e' hi
    have hne : i ≠ id := fun e1 => by subst e1; simp [JS.del, upd_same] at hi
    have hi2 : s.f i = some e' := by rw [← hi]; exact (upd_other _ _ hne).symm
    obtain ⟨h1, h2, h3⟩ := h.ent i e' hi2
    exact ⟨(hoth _ (map_ne h1 hb)).trans h1, h2, Own.keep h3 (fun k hk => ⟨hoth _ (fun e1 => own_ne h3 hb (by rw [hk, e1])), h3.col k hk⟩)⟩
  · intro i j e1 e2 h1 h2 hij
    have hne : i ≠ id := fun e1 => by subst e1; simp [JS.del, upd_same] at h1
    have hne2 : j ≠ id := fun e1 => by subst e1; simp [JS.del, upd_same] at h2
    exact h.apart i j e1 e2 (by rw [← h1]; exact (upd_other _ _ hne).symm) (by rw [← h2]; exact (upd_other _ _ hne2).symm) hij
/-- 'j.open[id] = &open{..}'. -/
theorem JFl.put {w : World} {o : Col} {c p mb : Nat} {Q : Int → Nat} {V : Int → Value} {s : JS} (h : JFl w o c p mb Q V s) {id : Int} (hw : (Lit.int .i64 id).wf = true) (he : s.f id = none) (hc : s.cnt < 9223372036854775807) (q : Nat) (v : Value) (e : OE)
    (hq : w.heap[q]? = some (.cells #[v, .int .i64 e.all, .int .i64 e.n, .int .i64 e.last] 63 (0, 0))) (hqc : o q = c) (hv : OwnB w o c v e.m) (hap : ∀ j e', s.f j = some e' → Q j ≠ q ∧ ∀ k : Nat, v.ownBlock = some k → (V j).ownBlock ≠ some k) :
    ∃ w', (Instr.mapUpdate 58 (.map (some mb)) (.int .i64 id) (.pointer (some ⟨q, 0, none⟩))).run Try.prog w = .ok () w' ∧ JFl w' o c p mb (upd Q id q) (upd V id v) (s.put id e) ∧ Stp [c] w o w' o := by
  obtain ⟨D, hD⟩ := h.map
  obtain ⟨es, clock, hb⟩ := hD.blk
  obtain ⟨w', hrun, ho, ht⟩ := hD.own.store keyed Try.underlying58 (by simp only [maxLen]; omega) (keyOfId hw) (val := .pointer (some ⟨q, 0, none⟩)) (d := .lit (.int .i64 q)) (ps := []) rfl
  have hoth : ∀ k, k ≠ mb → w'.heap[k]? = w.heap[k]? := by
    obtain ⟨es1, clock1, es', clock', hb1, rfl⟩ := ht
    exact fun k hk => heap_setBlock_other hb1 _ hk
  have htidy := hD.own.tidy keyed
  have hsz := Maps.size_put (k := lit id) htidy (.lit (.int .i64 q))
  have hh : Maps.has D (lit id) = false := by rw [hD.has, he]; rfl
  rw [hh, if_neg (by simp), hD.size] at hsz
  have hst := turned_stp ht h.colm
  refine ⟨w', hrun, ⟨(hoth _ (map_ne h.blk hb)).trans h.blk, h.colp, h.colm, ⟨D.put (lit id) (.lit (.int .i64 q)), ?_, ?_, ?_, hsz⟩, ?_, ?_⟩, hst⟩
  · have := ownsMap_tight ho
    rw [hsz] at this
    exact this
  · intro i
    show _ = ptrD (upd Q id q) (upd s.f id (some e)) i
    by_cases hi : i = id
    · subst hi
      rw [Maps.atKey_put_same hD.own.isMap (lit_key _), ptrD, upd_same, upd_same]
    · rw [Maps.atKey_put_other (lit_ne hi), hD.at_, ptrD, ptrD, upd_other _ _ hi, upd_other _ _ hi]
  · intro i
    show _ = (upd s.f id (some e) i).isSome
    by_cases hi : i = id
    · subst hi
      rw [Maps.has_put_same hD.own.isMap (lit_key _), upd_same]; rfl
    · rw [Maps.has_put_other (lit_ne hi), hD.has, upd_other _ _ hi]
  · intro i e' hi
    by_cases hne : i = id
    · subst hne
      simp only [JS.put, upd_same, Option.some.injEq] at hi
      subst hi
      rw [upd_same, upd_same]
      exact ⟨(hoth _ (map_ne hq hb)).trans hq, hqc, Own.keep hv (fun k hk => ⟨hoth _ (fun e1 => own_ne hv hb (by rw [hk, e1])), hv.col k hk⟩)⟩
    · have hi2 : s.f i = some e' := by rw [← hi]; exact (upd_other _ _ hne).symm
      obtain ⟨h1, h2, h3⟩ := h.ent i e' hi2
      rw [upd_other _ _ hne, upd_other _ _ hne]
      exact ⟨(hoth _ (map_ne h1 hb)).trans h1, h2, Own.keep h3 (fun k hk => ⟨hoth _ (fun e1 => own_ne h3 hb (by rw [hk, e1])), h3.col k hk⟩)⟩
  · intro i j e1 e2 h1 h2 hij
    by_cases hi : i = id
    · subst hi
      have hj : j ≠ i := fun e => hij e.symm
      have h2' : s.f j = some e2 := by rw [← h2]; exact (upd_other _ _ hj).symm
      rw [upd_same, upd_same, upd_other _ _ hj, upd_other _ _ hj]
      exact ⟨fun e => (hap j e2 h2').1 e.symm, (hap j e2 h2').2⟩
    · have h1' : s.f i = some e1 := by rw [← h1]; exact (upd_other _ _ hi).symm
      by_cases hj : j = id
      · subst hj
        rw [upd_same, upd_same, upd_other _ _ hi, upd_other _ _ hi]
        exact ⟨(hap i e1 h1').1, fun k hk hk2 => (hap i e1 h1').2 k hk2 hk⟩
      · rw [upd_other _ _ hi, upd_other _ _ hi, upd_other _ _ hj, upd_other _ _ hj]
        exact h.apart i j e1 e2 h1' (by rw [← h2]; exact (upd_other _ _ hj).symm) hij

end Go.Proofs.Ytcbecidcfbhkfaa
