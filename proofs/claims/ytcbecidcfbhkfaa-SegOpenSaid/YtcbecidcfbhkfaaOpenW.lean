/- SegOpen: the walk. -/
import Derived.Test.YtcbecidcfbhkfaaKnown15
namespace Go.Proofs.Ytcbecidcfbhkfaa
set_option linter.unusedVariables false
set_option linter.unusedSimpArgs false
open Go.RowKit Go.ChangeMaps

theorem i64_mask3 (n : Int) : bits .and .i64 n 7 = n % 8 := by
  have hm : (BitVec.ofInt 64 7).toNat = 2 ^ 3 - 1 := by decide
  have key : (BitVec.ofInt 64 n &&& BitVec.ofInt 64 7).toNat = (n % ((2 ^ 64 : Nat) : Int)).toNat % 2 ^ 3 := by
    rw [BitVec.toNat_and, BitVec.toNat_ofInt, hm, Nat.and_two_pow_sub_one_eq_mod]
  show IntKind.i64.wrap ((BitVec.ofInt 64 n &&& BitVec.ofInt 64 7).toNat : Nat) = n % 8
  rw [key, IntKind.wrap_i64]
  omega
theorem wf8 (j : Int) (h0 : 0 ≤ j) (h1 : j < 8) : (Lit.int .i64 j).wf = true := by
  have : j = 0 ∨ j = 1 ∨ j = 2 ∨ j = 3 ∨ j = 4 ∨ j = 5 ∨ j = 6 ∨ j = 7 := by omega
  rcases this with rfl | rfl | rfl | rfl | rfl | rfl | rfl | rfl <;> decide
def boolElem : Value → Option (DataW Unit × List MemPlace)
  | .bool b => some (.lit (.bool b), [])
  | _ => none
theorem boolElem_lit {v : Value} {b : Bool} {ps : List MemPlace} (h : boolElem v = some (.lit (.bool b), ps)) : v = .bool b := by
  unfold boolElem at h
  split at h
  · simp only [Option.some.injEq, Prod.mk.injEq, DataW.lit.injEq, Lit.bool.injEq] at h
    rw [h.1]
  · cases h
/-- The IDs that were seen, in memory. -/
structure SnM (w : World) (mb : Nat) (f : Int → Option OE) (cnt : Nat) (D : DataW Unit) : Prop where
  own : w.ownsMap Try.prog 3 boolElem mb cnt D
  at_ : ∀ id, D.atKey (lit id) (.lit (.bool false)) = .lit (.bool (f id).isSome)
  has : ∀ id, Maps.has D (lit id) = (f id).isSome
  size : Maps.size D = cnt
theorem zeroB (w : World) : (zeroValue 4).run Try.prog w = .ok (.bool false) w := by kernel_rfl
theorem SnM.look {w : World} {mb cnt : Nat} {f : Int → Option OE} {D : DataW Unit} (h : SnM w mb f cnt D) {id : Int} (hw : (Lit.int .i64 id).wf = true) :
    (Instr.lookup 56 (.map (some mb)) (.int .i64 id) false).run Try.prog w = .ok (.bool (f id).isSome) w := by
  obtain ⟨v, ps, hrun, hv⟩ := h.own.lookup keyed Try.underlying56 (zeroB w) rfl (keyOfId hw)
  rw [h.at_] at hv
  rw [hrun, boolElem_lit hv]
theorem SnM.keep {w w1 : World} {mb cnt : Nat} {f : Int → Option OE} {D : DataW Unit} (h : SnM w mb f cnt D) (hk : w1.heap[mb]? = w.heap[mb]?) : SnM w1 mb f cnt D := by
  obtain ⟨⟨es, clock, hb, r⟩, h2, h3, h4⟩ := h
  exact ⟨⟨es, clock, hk.trans hb, r⟩, h2, h3, h4⟩
theorem SnM.stp {C : List Nat} {w w1 : World} {o o1 : Col} {mb cnt c : Nat} {f : Int → Option OE} {D : DataW Unit} (h : SnM w mb f cnt D) (hc : o mb = c) (hs : Stp C w o w1 o1) (hn : c ∉ C) : SnM w1 mb f cnt D ∧ o1 mb = c := by
  obtain ⟨es, clock, hb, _⟩ := h.own
  have hlt := (Array.getElem?_eq_some_iff.1 hb).1
  exact ⟨h.keep (hs.keep _ hlt (by rw [hc]; exact hn)), (hs.col _ hlt).trans hc⟩
theorem SnM.put {w : World} {o : Col} {mb cnt c : Nat} {f : Int → Option OE} {D : DataW Unit} (h : SnM w mb f cnt D) (hc : o mb = c) {id : Int} (hw : (Lit.int .i64 id).wf = true) (hn : cnt < 9223372036854775807) (e : OE) :
    ∃ w' D', (Instr.mapUpdate 56 (.map (some mb)) (.int .i64 id) (.bool true)).run Try.prog w = .ok () w' ∧ SnM w' mb (upd f id (some e)) (if (f id).isSome then cnt else cnt + 1) D' ∧ Stp [c] w o w' o := by
  obtain ⟨w', hrun, ho, ht⟩ := h.own.store keyed Try.underlying56 (by simp only [maxLen]; omega) (keyOfId hw) (val := .bool true) (d := .lit (.bool true)) (ps := []) rfl
  have htidy := h.own.tidy keyed
  have hsz := Maps.size_put (k := lit id) htidy (.lit (.bool true))
  rw [h.has, h.size] at hsz
  have ho2 : w'.ownsMap Try.prog 3 boolElem mb (Maps.size (D.put (lit id) (.lit (.bool true)))) (D.put (lit id) (.lit (.bool true))) := by
    obtain ⟨es, clock, hb, F, hs, hD⟩ := ho
    refine ⟨es, clock, hb, F, ?_, hD⟩
    rw [hD]
    show es.size ≤ ((es.toList.map (WideElems.rg Try.prog 3 boolElem)).foldr DataW.insert []).length
    rw [length_sorted]
    simp
  refine ⟨w', D.put (lit id) (.lit (.bool true)), hrun, ⟨by rw [← hsz]; exact ho2, fun i => ?_, fun i => ?_, hsz⟩, turned_stp ht hc⟩
  · by_cases hi : i = id
    · subst hi
      rw [Maps.atKey_put_same h.own.isMap (lit_key _), upd_same]; rfl
    · rw [Maps.atKey_put_other (lit_ne hi), h.at_, upd_other _ _ hi]
  · by_cases hi : i = id
    · subst hi
      rw [Maps.has_put_same h.own.isMap (lit_key _), upd_same]; rfl
    · rw [Maps.has_put_other (lit_ne hi), h.has, upd_other _ _ hi]
theorem SnM.pos {w : World} {mb cnt : Nat} {f : Int → Option OE} {D : DataW Unit} (h : SnM w mb f cnt D) {id : Int} (hs : (f id).isSome = true) : 0 < cnt := by
  have := Maps.size_del (k := lit id) (h.own.tidy keyed)
  rw [h.has, hs, if_pos rfl, h.size] at this
  omega
theorem len_seen {w : World} {ops : Array Oper} {rest : List Oper} {op : Oper} {a : Act} {Q : Exit → Act → World → Prop} {mb cnt : Nat} {f : Int → Option OE} {D : DataW Unit} (m : Operand) (hgd : Region.wanted op (yielded ops a.tmps) = true)
    (hop : op.op = Op.call { callee := Callee.builtin Builtin.len, args := #[m], argTypes := #[56] }) (hm : a.eval m = .map (some mb)) (h : SnM w mb f cnt D) (hK : wpList Try.prog ops Q rest (a.put op.dst (.int .i64 cnt)) w) : wpList Try.prog ops Q (op :: rest) a w := by
  refine wpList_w hgd fun K hK' => ?_
  have hl := h.own.len Try.underlying56 op.type
  rw [h.size] at hl
  unfold Oper.wp
  simp [execOp, hop, resolve, invoke, builtin, hm, hl, Result.andThen]
  exact hK' _ _ hK

def d20 : List UInt8 := [16, 20, 1, 2, 3, 4, 5, 6]
def e20 : OE := ⟨[1, 2, 3, 4, 5, 6], 20, 1, 1⟩
theorem take20 (s : JS) (id : Int) (hl : ∀ i e, s.f i = some e → e.last = 1) : takeJ s id d20 1 = ((dropJ s id).put id e20, none) := by
  have h1 : lateJ s id 1 = s := by
    unfold lateJ
    cases hf : s.f id with
    | none => rfl
    | some e =>
      have := hl id e hf
      dsimp only
      rw [this, if_neg (by omega)]
  have k0 : ¬ d20.length = 0 := by decide
  have k1 : ¬ kindN d20 = 0 := by decide
  have k2 : kindN d20 = 1 := by decide
  have k3 : ¬ (d20.length ≠ 8 ∨ begN d20 < 8 ∨ 600 < begN d20) := by decide
  rw [takeJ, h1, if_neg k0, if_neg k1, if_pos k2, beginJ, if_neg k3]
  rfl
theorem put20 (s : JS) (id : Int) (hp : (s.f id).isSome = true → 0 < s.cnt) :
    ((dropJ s id).put id e20).f = upd s.f id (some e20) ∧ ((dropJ s id).put id e20).cnt = (if (s.f id).isSome then s.cnt else s.cnt + 1) ∧ ((dropJ s id).put id e20).err = (if (s.f id).isSome then s.err + 1 else s.err) := by
  unfold dropJ
  cases hf : s.f id with
  | none => exact ⟨rfl, by simp [JS.put], by simp [JS.put]⟩
  | some e =>
    have := hp (by rw [hf]; rfl)
    refine ⟨?_, ?_, ?_⟩
    · funext i
      show upd (upd s.f id none) id (some e20) i = _
      by_cases h : i = id
      · subst h; rw [upd_same, upd_same]
      · rw [upd_other _ _ h, upd_other _ _ h, upd_other _ _ h]
    · show s.cnt - 1 + 1 = s.cnt
      omega
    · rfl
/-- What the loop of SegOpen keeps. -/
def OpR (w0 : World) (o0 : Col) (p mb sb n : Nat) (x y : Value) (wr : World) : Prop :=
  ∃ (k : Nat) (o' : Col) (Q : Int → Nat) (V : Int → Value) (s : JS) (D : DataW Unit), x = .int .i64 s.err ∧ y = .int .i64 k ∧ k ≤ n ∧ s.err ≤ k ∧ s.cnt ≤ k ∧ Stp [1, 2] w0 o0 wr o' ∧ JFl wr o' 1 p mb Q V s ∧ SnM wr sb s.f s.cnt D ∧ o' sb = 2 ∧ s.ok ∧ ∀ i e, s.f i = some e → e.last = 1
set_option maxHeartbeats 2000000 in
set_option maxRecDepth 100000 in
theorem open_law (v : Value) (ids : List Int) (w : World) (h : Rd w (fun _ => 0) 0 1 v ids.length (ids.map (.int .i64))) : Calls Try.prog 10 #[v] w (Post [] w (fun _ => 0) fun r _ _ => r = .bool true) := by
  obtain ⟨A, cap, rfl, hlc, hA, _⟩ := h.is
  by_cases h1 : 60 < ids.length
  · have g1 : decide ((60 : Int) < (ids.length : Int)) = true := decide_eq_true (by omega)
    go_enter Try.func10, Try.ntmps10
    go_wp2
    go_ret
    exact Post.mk (Stp.refl _ _ _) rfl
  have g1 : decide ((60 : Int) < (ids.length : Int)) = false := decide_eq_false (by omega)
  replace h := Lib.hid h
  go_enter Try.func10, Try.ntmps10
  go_wp2_with fail
  refine (newJ_calls 1 w (fun _ => 0)).mono ?_
  rintro e w1 ⟨r, o1, rfl, s1, p, mb, rfl, j1⟩
  have hrun := run_makeMap (P := Try.prog) 56 w1
  have sm0 : SnM (w1.alloc (.map #[] 0)) w1.heap.size noJ.f noJ.cnt (.map []) := ⟨World.ownsMap_made w1 Try.prog 3 boolElem, fun id => rfl, fun id => rfl, rfl⟩
  have sa := (Stp.refl [] w1 o1).alloc (.map #[] 0) 2
  have hc2 : paint o1 w1.heap.size 2 w1.heap.size = 2 := paint_at _ _ _
  have j2 := j1.stp sa (by simp)
  replace s1 := Lib.hid (s1.trans sa)
  replace j1 := Lib.hid j1
  replace j2 := Lib.hid j2
  replace sm0 := Lib.hid sm0
  replace hc2 := Lib.hid hc2
  clear sa
  go_wp2_with fail
  go_loopw [5, 6] (OpR (w1.alloc (.map #[] 0)) (paint o1 w1.heap.size 2) p mb w1.heap.size ids.length) (fun _ y _ => ids.length - (intOf y).toNat)
  case atStart => exact ⟨0, _, _, _, noJ, _, rfl, rfl, Nat.zero_le _, Nat.le_refl _, Nat.le_refl _, Stp.refl _ _ _, j2.out, sm0.out, hc2.out, noJ_ok, fun i e h => by cases h⟩
  case round =>
    obtain ⟨k, o2, Q, V, s, D, rfl, rfl, hk, hek, hck, hs, hj, hsn, hcs, hok, hlast⟩ := hrel
    have st := Lib.hid (s1.out.none.trans hs)
    by_cases hlt : k < ids.length
    · obtain ⟨a, rfl, hcell⟩ := (h.out.stp st.out (by simp)).get hlt
      obtain ⟨x, hx⟩ : ∃ x, ids[k] = x := ⟨_, rfl⟩
      rw [hx] at hcell
      have hmask := i64_mask3 x
      obtain ⟨kk, hkk⟩ : ∃ kk, x % 8 = kk := ⟨_, rfl⟩
      rw [hkk] at hmask
      have hkw : (Lit.int .i64 kk).wf = true := by
        exact wf8 kk (by omega) (by omega)
      have hlk := hsn.look hkw
      obtain ⟨w3, D3, hmu, hsn3, st3⟩ := hsn.put hcs hkw (by omega) e20
      have hj3 := hj.stp st3 (by simp)
      have hpos := fun h => hsn.pos (id := kk) h
      obtain ⟨p1, p2, p3⟩ := put20 s kk hpos
      have hT := take20 s kk hlast
      obtain ⟨sn, hsnn⟩ : ∃ sn, (dropJ s kk).put kk e20 = sn := ⟨_, rfl⟩
      rw [hsnn] at p1 p2 p3 hT
      have hok2 := takeJ_ok hok kk d20 1 (by decide) (by decide)
      rw [hT] at hok2
      have hlast2 : ∀ i e, sn.f i = some e → e.last = 1 := by
        intro i e hi
        rw [p1] at hi
        by_cases hne : i = kk
        · subst hne
          rw [upd_same] at hi
          injection hi with hi
          rw [← hi]; rfl
        · rw [upd_other _ _ hne] at hi
          exact hlast i e hi
      have z1 : decide ((k : Int) < (ids.length : Int)) = true := decide_eq_true (by omega)
      have z3 : (0 : Int) ≤ (k : Int) ∧ (k : Int) < (ids.length : Int) := by omega
      have z4 : (0 : Int) ≤ (s.err : Int) ∧ (s.err : Int) ≤ 60 := by omega
      have z5 : s.err ≤ 900000 ∧ s.cnt ≤ 900000 := by omega
      obtain ⟨B, hB⟩ : ∃ B, (s.f kk).isSome = B := ⟨_, rfl⟩
      rw [hB] at hlk p2 p3 hsn3
      rw [← p1, ← p2] at hsn3
      have z6 : sn.err ≤ k + 1 ∧ sn.cnt ≤ k + 1 := by
        rw [p2, p3]
        cases B <;> simp <;> omega
      replace hx := Lib.hid hx
      replace hkk := Lib.hid hkk
      replace hs := Lib.hid hs
      replace hj := Lib.hid hj
      replace hj3 := Lib.hid hj3
      replace hsn := Lib.hid hsn
      replace hsn3 := Lib.hid hsn3
      replace st3 := Lib.hid st3
      replace hok2 := Lib.hid hok2
      replace hlast2 := Lib.hid hlast2
      replace hB := Lib.hid hB
      replace p1 := Lib.hid p1
      replace p2 := Lib.hid p2
      replace hsnn := Lib.hid hsnn
      replace z5 := Lib.hid z5
      replace z6 := Lib.hid z6
      replace hcs := Lib.hid hcs
      clear hpos
      cases B
      all_goals
        have sb := (Stp.refl [] w3 o2).alloc (.cells #[.int .u8 16, .int .u8 20, .int .u8 1, .int .u8 2, .int .u8 3, .int .u8 4, .int .u8 5, .int .u8 6] 5) 0
        have rdn := Lib.hid (RdB.new w3 o2 0 #[.int .u8 16, .int .u8 20, .int .u8 1, .int .u8 2, .int .u8 3, .int .u8 4, .int .u8 5, .int .u8 6] d20 rfl 8 rfl (by omega) 5 _ rfl)
        have hj5 := Lib.hid (hj3.out.stp sb (by simp))
        have hcs3 : o2 w1.heap.size = 2 := hcs.out
        obtain ⟨hsn5, hc5⟩ := hsn3.out.stp hcs3 sb (by simp)
        have st5 := Lib.hid (hs.out.trans ((st3.out.mono (D := [1, 2]) (by simp)).trans sb.none))
        replace hsn5 := Lib.hid hsn5
        replace hc5 := Lib.hid hc5
        replace hcs3 := Lib.hid hcs3
        clear sb
        go_wp2_with fail
        refine (take_calls 1 0 p mb Q V s kk _ d20 1 _ _ hj5.out hok hkw z5.out.1 z5.out.2 (by decide) (by decide) rdn.out (by decide) (by decide)).mono ?_
        rw [hT]
        rintro e w4 ⟨r, o4, rfl, s4, v4, rfl, r4, Q4, V4, j4⟩
        obtain ⟨hsn6, hc6⟩ := hsn5.out.stp hc5.out s4 (by simp)
        replace s4 := Lib.hid (st5.out.trans (s4.mono (D := [1, 2]) (by simp)))
        replace r4 := Lib.hid r4
        go_wp2_with fail
        refine (open_calls 1 p mb Q4 V4 _ _ o4 j4).mono ?_
        rintro e w5 ⟨rfl, rfl⟩
        replace hsn6 := Lib.hid hsn6
        replace hc6 := Lib.hid hc6
        replace j4 := Lib.hid j4
        go_wp2_with (refine holdAt 48 ?_)
        apply Hold.mk
        refine len_seen _ rfl rfl rfl hsn6.out ?_
        go_wp2_with fail
        refine (errors_calls 1 p mb Q4 V4 _ _ o4 j4.out).mono ?_
        rintro e w5 ⟨rfl, rfl⟩
        have p4 : (sn.err : Int) = _ := congrArg (fun n : Nat => (n : Int)) p3
        simp only [if_true, Bool.false_eq_true, if_false, Int.natCast_add, Int.cast_ofNat_Int] at p4
        rw [show ((sn, (none : Option (List UInt8))).1.err) = sn.err from rfl, p4]
        go_wp2
        go_roundw
        case rel => exact ⟨k + 1, o4, Q4, V4, sn, _, by first | rfl | rw [p4] | (rw [p4]; rfl), by go_num, by omega, z6.out.1, z6.out.2, s4.out, j4.out, hsn6.out, hc6.out, hok2.out, hlast2.out⟩
        case measure => simp [intOf]; omega
    · have z1 : decide ((k : Int) < (ids.length : Int)) = false := decide_eq_false (by omega)
      replace hs := Lib.hid hs
      replace hj := Lib.hid hj
      replace hsn := Lib.hid hsn
      go_wp2_with fail
      refine (known15_calls _ o2).mono ?_
      rintro e w9 ⟨r, o9, rfl, s9, rfl⟩
      replace st := Lib.hid (st.out.trans s9.none)
      clear s9
      go_wp2
      go_ret
      exact Post.mk (st.out.law (by simp)) rfl

end Go.Proofs.Ytcbecidcfbhkfaa
