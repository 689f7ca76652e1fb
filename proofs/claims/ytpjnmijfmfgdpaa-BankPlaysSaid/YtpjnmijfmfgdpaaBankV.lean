/- The document's bank (ref13): Install: the walk. Printed by wip/bankugen.py. -/
import Derived.Test.YtpjnmijfmfgdpaaBankTU
import Derived.Great.BuildSlice
namespace Go.Proofs.Ytpjnmijfmfgdpaa
set_option linter.unusedVariables false
set_option linter.unusedSimpArgs false
open Go.RowKit

set_option maxRecDepth 100000 in
theorem xbuilt_next (len counter : Int) (H name : List UInt8) (A : Option Addr) (n cap : Nat) (mind : List UInt8) (xl0 : H.length = 32) :
    Try.prog.built 72 [(1, .int .i64 len), (2, .agg (vbs H).toArray), (3, .int .i64 counter), (4, .string ⟨name.toArray⟩), (5, .slice A n cap)] = some (cellsBS ⟨0, len, H, counter, name, mind⟩ (.slice A n cap)).toArray := by
  obtain ⟨y0, hy0⟩ : ∃ y, H = y := ⟨_, rfl⟩
  rw [hy0] at xl0
  obtain ⟨x0, y1, e0, xl1⟩ := cons_of xl0
  obtain ⟨x1, y2, e1, xl2⟩ := cons_of xl1
  obtain ⟨x2, y3, e2, xl3⟩ := cons_of xl2
  obtain ⟨x3, y4, e3, xl4⟩ := cons_of xl3
  obtain ⟨x4, y5, e4, xl5⟩ := cons_of xl4
  obtain ⟨x5, y6, e5, xl6⟩ := cons_of xl5
  obtain ⟨x6, y7, e6, xl7⟩ := cons_of xl6
  obtain ⟨x7, y8, e7, xl8⟩ := cons_of xl7
  obtain ⟨x8, y9, e8, xl9⟩ := cons_of xl8
  obtain ⟨x9, y10, e9, xl10⟩ := cons_of xl9
  obtain ⟨x10, y11, e10, xl11⟩ := cons_of xl10
  obtain ⟨x11, y12, e11, xl12⟩ := cons_of xl11
  obtain ⟨x12, y13, e12, xl13⟩ := cons_of xl12
  obtain ⟨x13, y14, e13, xl14⟩ := cons_of xl13
  obtain ⟨x14, y15, e14, xl15⟩ := cons_of xl14
  obtain ⟨x15, y16, e15, xl16⟩ := cons_of xl15
  obtain ⟨x16, y17, e16, xl17⟩ := cons_of xl16
  obtain ⟨x17, y18, e17, xl18⟩ := cons_of xl17
  obtain ⟨x18, y19, e18, xl19⟩ := cons_of xl18
  obtain ⟨x19, y20, e19, xl20⟩ := cons_of xl19
  obtain ⟨x20, y21, e20, xl21⟩ := cons_of xl20
  obtain ⟨x21, y22, e21, xl22⟩ := cons_of xl21
  obtain ⟨x22, y23, e22, xl23⟩ := cons_of xl22
  obtain ⟨x23, y24, e23, xl24⟩ := cons_of xl23
  obtain ⟨x24, y25, e24, xl25⟩ := cons_of xl24
  obtain ⟨x25, y26, e25, xl26⟩ := cons_of xl25
  obtain ⟨x26, y27, e26, xl27⟩ := cons_of xl26
  obtain ⟨x27, y28, e27, xl28⟩ := cons_of xl27
  obtain ⟨x28, y29, e28, xl29⟩ := cons_of xl28
  obtain ⟨x29, y30, e29, xl30⟩ := cons_of xl29
  obtain ⟨x30, y31, e30, xl31⟩ := cons_of xl30
  obtain ⟨x31, y32, e31, xl32⟩ := cons_of xl31
  have e32 := List.eq_nil_of_length_eq_zero xl32
  have hxs : H = (x0 :: x1 :: x2 :: x3 :: x4 :: x5 :: x6 :: x7 :: x8 :: x9 :: x10 :: x11 :: x12 :: x13 :: x14 :: x15 :: x16 :: x17 :: x18 :: x19 :: x20 :: x21 :: x22 :: x23 :: x24 :: x25 :: x26 :: x27 :: x28 :: x29 :: x30 :: x31 :: []) := by rw [hy0, e0, e1, e2, e3, e4, e5, e6, e7, e8, e9, e10, e11, e12, e13, e14, e15, e16, e17, e18, e19, e20, e21, e22, e23, e24, e25, e26, e27, e28, e29, e30, e31, e32]
  subst hxs
  change @Eq (Option (Array Value)) _ _
  kernel_rfl
theorem boot_one (s : FS) : (bootB s).2.2 = 1 ↔ s.pg.length < 96 := by
  unfold bootB
  by_cases h : s.pg.length < 96
  · simp [h]
  · have hl : (loadS s).2.2 = 0 ∨ (loadS s).2.2 = 9 := by
      rw [loadS, if_neg (by omega)]
      split
      · exact .inr rfl
      · exact .inl rfl
    obtain ⟨x, hx⟩ : ∃ x, (loadS s).2.2 = x := ⟨_, rfl⟩
    rw [hx] at hl ⊢
    rw [if_neg h]
    have hn : ∀ y : Int, y ≠ 1 → (y = 1 ↔ s.pg.length < 96) := fun y hy => ⟨fun e => absurd e hy, fun e => absurd e h⟩
    refine hn _ ?_
    split
    · show x ≠ 1
      omega
    · split
      · show (2 : Int) ≠ 1
        decide
      · split
        · show (0 : Int) ≠ 1
          decide
        · show (8 : Int) ≠ 1
          decide
/-- What the loops of the document's 'Install' keep. -/
def XlE (w0 : World) (o0 : Col) (c e p : Nat) (vP : Value) (vs : List Value) (s : FS) (k n : Nat) (x : Value) (wr : World) : Prop :=
  ∃ (i : Nat) (o' : Col), x = .int .i64 i ∧ i ≤ n ∧ Stp [c, e] w0 o0 wr o' ∧ XFl wr o' c e p vP vs (erasesS s k i).1 ∧ (erasesS s k i).2 = 0
def XlP (w0 : World) (o0 : Col) (c e p : Nat) (vP : Value) (vs : List Value) (s : FS) (k n : Nat) (b : List UInt8) (x : Value) (wr : World) : Prop :=
  ∃ (i : Nat) (o' : Col), x = .int .i64 i ∧ i ≤ n ∧ Stp [c, e] w0 o0 wr o' ∧ XFl wr o' c e p vP vs (progsB s k b i).1 ∧ (progsB s k b i).2 = 0
set_option maxHeartbeats 8000000 in
set_option maxRecDepth 100000 in
theorem xinstall_calls (c cf c2 c3 p : Nat) (vP : Value) (vs : List Value) (s : FS) (name m mind : List UInt8) (vm vi : Value) (counter : Int) (w : World) (o : Col) (h : XFl w o c cf p vP vs s) (hm : RdB w o c2 vm m) (hi : RdB w o c3 vi mind) (h2 : c2 ≠ c) (h2f : c2 ≠ cf) (h3 : c3 ≠ c) (h3f : c3 ≠ cf) (hcf : c ≠ cf) :
    Calls Try.prog 42 #[.pointer (some ⟨p, 0, none⟩), .string ⟨name.toArray⟩, vm, .int .i64 counter, vi] w (Post [c, cf] w o fun r w' o' => r = .int .i64 (installS s name m counter mind).2 ∧ XFl w' o' c cf p vP vs (installS s name m counter mind).1) := by
  obtain ⟨A, capA, rfl, hlc, hA⟩ := hm.shape
  obtain ⟨Ai, capI, rfl, _, _⟩ := hi.shape
  obtain ⟨e, he1, _, hef⟩ := fresh o w.heap.size [c, c2, c3, cf]
  obtain ⟨d, hd1, _, hdf⟩ := fresh o w.heap.size [c, c2, c3, cf, e]
  simp only [List.mem_cons, List.not_mem_nil, or_false, not_or] at he1 hd1
  have hbo := xbboot_calls c cf d d p vP vs s w o h
  have hone := boot_one s
  obtain ⟨BT, hBT⟩ : ∃ BT, bootB s = BT := ⟨_, rfl⟩
  have hbs := boot_sum s
  have hbm := boot_mind s
  have hbb := boot_bank s
  obtain ⟨LS, hLS⟩ : ∃ LS, installS s name m counter mind = LS := ⟨_, rfl⟩
  have hv : LS = if askedS s name m counter mind ≠ 0 then (s, askedS s name m counter mind) else if BT.2.2 = 0 ∧ counter < BT.1.counter then (s, 5) else if BT.2.2 ≠ 0 ∧ BT.2.2 ≠ 9 then (s, BT.2.2) else if (layB s (80 + (bankOf BT).toNat * 8) m).2 ≠ 0 then layB s (80 + (bankOf BT).toNat * 8) m else saveS (layB s (80 + (bankOf BT).toNat * 8) m).1 (recB (nextB (bankOf BT) name m counter mind)) := by rw [← hLS, installS, hBT]
  rw [hLS]
  rw [hBT] at hbs hbm hbb hbo hone
  obtain ⟨BS0, IM, E⟩ := BT
  dsimp only at hbs hbm hbb hbo hone
  have fin : ∀ w' o' (x : Int), Stp [e] w o w' o' → LS = (s, x) → Post [c, cf] w o (fun r w' o' => r = .int .i64 LS.2 ∧ XFl w' o' c cf p vP vs LS.1) (.returned (.int .i64 x)) w' := by
    intro w' o' x st ev
    rw [ev]
    have st' := st.drop hef
    exact Post.mk st'.none ⟨rfl, h.stp st' (by simp) (by simp)⟩
  replace fin := Lib.hid fin
  replace hLS := Lib.hid hLS
  replace hBT := Lib.hid hBT
  replace hv := Lib.hid hv
  replace hbs := Lib.hid hbs
  replace hbm := Lib.hid hbm
  replace hbb := Lib.hid hbb
  replace hone := Lib.hid hone
  replace h := Lib.hid h
  replace hm := Lib.hid hm
  replace hi := Lib.hid hi
  go_enter Try.func42, Try.ntmps42
  go_wp2_with fail
  refine hbo.mono ?_
  clear hbo
  rintro ex w4 ⟨r, o4, rfl, s4, vb, vi4, rfl, b4, r4⟩
  obtain ⟨Ab, capb, rfl⟩ := Own.shape b4
  have f4 := h.out.stp s4 (by simp) (by simp)
  have m4 := hm.out.stp s4 (by simp)
  have i4 := hi.out.stp s4 (by simp)
  have s5 : Stp [] w4 o4 (w4.alloc (.cells (cellsBS zeroBS (.slice none 0 0)).toArray 72)) (paint o4 w4.heap.size e) := (Stp.refl [] w4 o4).alloc _ e
  have T5 := Xb.new w4 o4 e zeroBS (.slice none 0 0) rfl
  have f5 := f4.stp s5 (by simp) (by simp)
  have m5 := m4.stp s5 (by simp)
  have i5 := i4.stp s5 (by simp)
  obtain ⟨w5, hw5⟩ : ∃ w5, w4.alloc (.cells (cellsBS zeroBS (.slice none 0 0)).toArray 72) = w5 := ⟨_, rfl⟩
  obtain ⟨o5, ho5⟩ : ∃ o5, paint o4 w4.heap.size e = o5 := ⟨_, rfl⟩
  obtain ⟨T, hT⟩ : ∃ T, w4.heap.size = T := ⟨_, rfl⟩
  rw [hw5, ho5] at s5 T5 f5 m5 i5
  rw [hT] at T5
  have hbi := xstateInfo (vm := .slice Ab BS0.mind.length capb) hbs.out
  have hb1 := cells_one BS0 Ab BS0.mind.length capb
  have hbl := cellsBS_len (vm := .slice Ab BS0.mind.length capb) hbs.out
  obtain ⟨CB, hCB⟩ : ∃ CB, cellsBS BS0 (.slice Ab BS0.mind.length capb) = CB := ⟨_, rfl⟩
  rw [hCB] at hbi hb1 hbl
  have s6 : Stp [e] w5 o5 (w5.setRow T CB.toArray) o5 := setRow_stp (by rw [T5.col]; simp) _
  have T6 : Xb (w5.setRow T CB.toArray) o5 e T BS0 (.slice Ab BS0.mind.length capb) := ⟨by rw [hCB]; exact setRow_heap _ _ _ _ _ _ T5.blk, T5.col, hbs.out⟩
  have f6 := f5.stp s6 (by simpa using fun x => he1.1 x.symm) (by simpa using fun x => he1.2.2.2 x.symm)
  have m6 := m5.stp s6 (by simpa using fun x => he1.2.1 x.symm)
  have i6 := i5.stp s6 (by simpa using fun x => he1.2.2.1 x.symm)
  have st6 : Stp [e] w o _ _ := ((s4.trans s5).none : Stp [e] _ _ _ _).trans s6
  have hT5 := T5.blk
  obtain ⟨w6, hw6⟩ : ∃ w6, w5.setRow T CB.toArray = w6 := ⟨_, rfl⟩
  rw [hw6] at T6 f6 m6 i6 st6
  have t0 := T6.c0
  have t34 := T6.c34
  have dd := f6.c3
  obtain ⟨bk0, hbk0⟩ : ∃ x, BS0.bank = x := ⟨_, rfl⟩
  obtain ⟨ct0, hct0⟩ : ∃ x, BS0.counter = x := ⟨_, rfl⟩
  obtain ⟨DD, hDD⟩ : ∃ x, s.dead = x := ⟨_, rfl⟩
  obtain ⟨NL, hNL⟩ : ∃ x, name.length = x := ⟨_, rfl⟩
  have hns : name.toArray.size = NL := by simpa using hNL
  have HNL := Lib.hid hNL
  rw [hbk0] at t0
  rw [hct0] at t34
  rw [hDD] at dd
  have hask : askedS s name m counter mind = if s.pg.length < 96 then 1 else if DD = true then 11 else if 512 < m.length ∨ 12 < NL ∨ 2000 < mind.length then 10 else if counter < 0 ∨ 1073741824 < counter then 1 else 0 := by rw [askedS, hDD, hNL]
  replace hT5 := Lib.hid hT5
  replace T5 := Lib.hid T5
  replace T6 := Lib.hid T6
  replace f4 := Lib.hid f4
  replace f5 := Lib.hid f5
  replace f6 := Lib.hid f6
  replace m4 := Lib.hid m4
  replace m5 := Lib.hid m5
  replace m6 := Lib.hid m6
  replace i4 := Lib.hid i4
  replace i5 := Lib.hid i5
  replace i6 := Lib.hid i6
  replace b4 := Lib.hid b4
  replace r4 := Lib.hid r4
  replace st6 := Lib.hid st6
  replace hw5 := Lib.hid hw5
  replace ho5 := Lib.hid ho5
  replace hT := Lib.hid hT
  replace hbi := Lib.hid hbi
  replace hb1 := Lib.hid hb1
  replace hbl := Lib.hid hbl
  replace hCB := Lib.hid hCB
  replace hw6 := Lib.hid hw6
  replace hbk0 := Lib.hid hbk0
  replace hct0 := Lib.hid hct0
  replace hDD := Lib.hid hDD
  replace hask := Lib.hid hask
  clear s4 s5 s6
  go_wp2_with (refine holdSt 72 ?_)
  apply Hold.mk
  rw [show w4.alloc (.cells (Value.int .i64 0 :: .int .i64 0 :: .int .u8 0 :: .int .u8 0 :: .int .u8 0 :: .int .u8 0 :: .int .u8 0 :: .int .u8 0 :: .int .u8 0 :: .int .u8 0 :: .int .u8 0 :: .int .u8 0 :: .int .u8 0 :: .int .u8 0 :: .int .u8 0 :: .int .u8 0 :: .int .u8 0 :: .int .u8 0 :: .int .u8 0 :: .int .u8 0 :: .int .u8 0 :: .int .u8 0 :: .int .u8 0 :: .int .u8 0 :: .int .u8 0 :: .int .u8 0 :: .int .u8 0 :: .int .u8 0 :: .int .u8 0 :: .int .u8 0 :: .int .u8 0 :: .int .u8 0 :: .int .u8 0 :: .int .u8 0 :: .int .i64 0 :: .string ⟨#[]⟩ :: .slice none 0 0 :: []).toArray 72) = w5 from hw5.out, hT.out, hCB.out]
  refine wpList_store_row rfl 72 _ _ rfl T CB.toArray rfl rfl 72 _ hT5.out (by rw [hbi.out]; simp) (by simp [hbl.out, cellsBS_len (t := zeroBS) (vm := .slice none 0 0) rfl]) hb1.out ?_
  rw [hw6.out]
  clear hNL
  by_cases hE1 : E = 1
  · subst hE1
    have h96 := hone.out.1 rfl
    have hv1 : LS = (s, 1) := by rw [hv.out, hask.out, if_pos h96]; rfl
    replace hv := Lib.hid hv1
    clear hv1 t0 t34 dd
    go_wp2
    go_ret
    exact fin.out _ _ _ st6.out hv.out
  have h96 : ¬ s.pg.length < 96 := fun x => hE1 (hone.out.2 x)
  have g1 : (E == 1) = false := by simpa using hE1
  replace hask := Lib.hid (by rw [hask.out, if_neg h96] : askedS s name m counter mind = _)
  cases DD with
  | true =>
    have hv1 : LS = (s, 11) := by rw [hv.out, hask.out, if_pos rfl]; rfl
    replace hv := Lib.hid hv1
    clear hv1 t0 t34
    go_wp2
    go_ret
    exact fin.out _ _ _ st6.out hv.out
  | false =>
    replace hask := Lib.hid (by rw [hask.out, if_neg (by simp)] : askedS s name m counter mind = _)
    obtain ⟨B1, hB1⟩ : ∃ b, decide ((512 : Int) < (m.length : Int)) = b := ⟨_, rfl⟩
    obtain ⟨B2, hB2⟩ : ∃ b, decide ((12 : Int) < (NL : Int)) = b := ⟨_, rfl⟩
    obtain ⟨B3, hB3⟩ : ∃ b, decide ((2000 : Int) < (mind.length : Int)) = b := ⟨_, rfl⟩
    obtain ⟨B4, hB4⟩ : ∃ b, decide (counter < 0) = b := ⟨_, rfl⟩
    obtain ⟨B5, hB5⟩ : ∃ b, decide ((1073741824 : Int) < counter) = b := ⟨_, rfl⟩
    have hcs : (B1 = true ∨ (B1 = false ∧ (B2 = true ∨ (B2 = false ∧ B3 = true)))) ∨ (B1 = false ∧ B2 = false ∧ B3 = false) := by cases B1 <;> cases B2 <;> cases B3 <;> simp
    rcases hcs with hlong | ⟨rfl, rfl, rfl⟩
    · have hx : 512 < m.length ∨ 12 < NL ∨ 2000 < mind.length := by
        rcases hlong with rfl | ⟨rfl, rfl | ⟨rfl, rfl⟩⟩
        · have := of_decide_eq_true hB1; omega
        · have := of_decide_eq_true hB2; omega
        · have := of_decide_eq_true hB3; omega
      have hv1 : LS = (s, 10) := by rw [hv.out, hask.out, if_pos hx]; rfl
      replace hv := Lib.hid hv1
      replace hx := Lib.hid hx
      clear hv1 t0 t34 hB4 hB5
      rcases hlong with rfl | ⟨rfl, rfl | ⟨rfl, rfl⟩⟩
      all_goals
        go_wp2
        go_ret
        exact fin.out _ _ _ st6.out hv.out
    have hx : m.length ≤ 512 ∧ NL ≤ 12 ∧ mind.length ≤ 2000 := by
      have := of_decide_eq_false hB1
      have := of_decide_eq_false hB2
      have := of_decide_eq_false hB3
      omega
    replace hask := Lib.hid (by rw [hask.out, if_neg (by omega)] : askedS s name m counter mind = _)
    have hcs : (B4 = true ∨ (B4 = false ∧ B5 = true)) ∨ (B4 = false ∧ B5 = false) := by cases B4 <;> cases B5 <;> simp
    rcases hcs with hlong | ⟨rfl, rfl⟩
    · have hy : counter < 0 ∨ 1073741824 < counter := by
        rcases hlong with rfl | ⟨rfl, rfl⟩
        · exact .inl (of_decide_eq_true hB4)
        · exact .inr (of_decide_eq_true hB5)
      have hv1 : LS = (s, 1) := by rw [hv.out, hask.out, if_pos hy]; rfl
      replace hv := Lib.hid hv1
      replace hy := Lib.hid hy
      clear hv1 t0 t34
      rcases hlong with rfl | ⟨rfl, rfl⟩
      all_goals
        go_wp2
        go_ret
        exact fin.out _ _ _ st6.out hv.out
    have hy : 0 ≤ counter ∧ counter ≤ 1073741824 := by
      have := of_decide_eq_false hB4
      have := of_decide_eq_false hB5
      omega
    replace hask := Lib.hid (by rw [hask.out, if_neg (by omega)] : askedS s name m counter mind = 0)
    replace hv := Lib.hid (by rw [hv.out, hask.out, if_neg (by simp)] : LS = _)
    by_cases hbad : (E ≠ 0 ∧ E ≠ 9)
    · have g2 : (E == 0) = false := by simpa using hbad.1
      have g3 : (E != 0) = true := by simpa using hbad.1
      have g4 : (E != 9) = true := by simpa using hbad.2
      have hv1 : LS = (s, E) := by
        rw [hv.out, if_neg (fun x => hbad.1 x.1), if_pos hbad]
      replace hv := Lib.hid hv1
      replace hbad := Lib.hid hbad
      clear hv1 t0 t34
      go_wp2
      go_ret
      exact fin.out _ _ _ st6.out hv.out
    by_cases hold : E = 0 ∧ counter < ct0
    · obtain ⟨rfl, hlt⟩ := hold
      have g2 : decide (counter < ct0) = true := decide_eq_true hlt
      have hv1 : LS = (s, 5) := by rw [hv.out, if_pos ⟨rfl, by rw [hct0.out]; exact hlt⟩]
      replace hv := Lib.hid hv1
      clear hv1 t0
      go_wp2
      go_ret
      exact fin.out _ _ _ st6.out hv.out
    have hcE : E = 0 ∨ E = 9 := by omega
    rcases hcE with rfl | rfl
    · have hnlt : ¬ counter < ct0 := fun x => hold ⟨rfl, x⟩
      have g2 : decide (counter < ct0) = false := decide_eq_false hnlt
      -- the record that is to be
      have hsm := xsum_calls c2 _ m w6 o5 m6.out (by omega)
      obtain ⟨H, hH⟩ : ∃ H, sha m = H := ⟨_, rfl⟩
      have hHl : H.length = 32 := by rw [← hH]; exact sha_len m
      rw [hH] at hsm
      have hbu := xbuilt_next (m.length : Int) counter H name Ai mind.length capI mind hHl
      obtain ⟨NX, hNX⟩ : ∃ NX, (⟨0, (m.length : Int), H, counter, name, mind⟩ : BS) = NX := ⟨_, rfl⟩
      rw [hNX] at hbu
      have hNXs : NX.sum.length = 32 := by rw [← hNX]; exact hHl
      have hNXm : NX.mind = mind := by rw [← hNX]
      have hNi := xstateInfo (vm := .slice Ai mind.length capI) hNXs
      have hN1 := cells_one NX Ai mind.length capI
      have hNl := cellsBS_len (vm := .slice Ai mind.length capI) hNXs
      obtain ⟨CL, hCL⟩ : ∃ CL, cellsBS NX (.slice Ai mind.length capI) = CL := ⟨_, rfl⟩
      rw [hCL] at hbu hNi hN1 hNl
      replace hH := Lib.hid hH
      replace hHl := Lib.hid hHl
      replace hNX := Lib.hid hNX
      replace hNXs := Lib.hid hNXs
      replace hNXm := Lib.hid hNXm
      replace hNi := Lib.hid hNi
      replace hN1 := Lib.hid hN1
      replace hNl := Lib.hid hNl
      replace hCL := Lib.hid hCL
      replace hbu := Lib.hid hbu
      have s7 : Stp [] w6 o5 (w6.alloc (.cells (cellsBS zeroBS (.slice none 0 0)).toArray 72)) (paint o5 w6.heap.size e) := (Stp.refl [] w6 o5).alloc _ e
      obtain ⟨OW, hOW⟩ : ∃ OW : Prop, OW = True := ⟨_, rfl⟩
      clear hOW OW
      go_wp2_with fail
      refine hsm.mono ?_
      clear hsm s7
      rintro ex w7 ⟨r, o7, rfl, s7, rfl⟩
      have f7 := f6.out.stp s7 (by simp) (by simp)
      have m7 := m6.out.stp s7 (by simp)
      have i7 := i6.out.stp s7 (by simp)
      have T7 := T6.out.stp s7 (by simp)
      have st7 := st6.out.trans s7.none
      have s8 : Stp [] w7 o7 (w7.alloc (.cells (cellsBS zeroBS (.slice none 0 0)).toArray 72)) (paint o7 w7.heap.size e) := (Stp.refl [] w7 o7).alloc _ e
      have N8 := Xb.new w7 o7 e zeroBS (.slice none 0 0) rfl
      have f8 := f7.stp s8 (by simp) (by simp)
      have m8 := m7.stp s8 (by simp)
      have i8 := i7.stp s8 (by simp)
      have T8 := T7.stp s8 (by simp)
      obtain ⟨w8, hw8⟩ : ∃ w8, w7.alloc (.cells (cellsBS zeroBS (.slice none 0 0)).toArray 72) = w8 := ⟨_, rfl⟩
      obtain ⟨o8, ho8⟩ : ∃ o8, paint o7 w7.heap.size e = o8 := ⟨_, rfl⟩
      obtain ⟨B, hB⟩ : ∃ B, w7.heap.size = B := ⟨_, rfl⟩
      have hTB : T ≠ B := by
        have := (Array.getElem?_eq_some_iff.1 T7.blk).1
        omega
      rw [hw8, ho8] at s8 N8 f8 m8 i8 T8
      rw [hB] at N8
      have s9 : Stp [e] w8 o8 (w8.setRow B CL.toArray) o8 := setRow_stp (by rw [N8.col]; simp) _
      have N9 : Xb (w8.setRow B CL.toArray) o8 e B NX (.slice Ai mind.length capI) := ⟨by rw [← hCL.out]; exact setRow_heap _ _ _ _ _ _ N8.blk, N8.col, hNXs.out⟩
      have T9 : Xb (w8.setRow B CL.toArray) o8 e T BS0 (.slice Ab BS0.mind.length capb) := ⟨(setRow_other w8 B T _ hTB).trans T8.blk, T8.col, hbs.out⟩
      have f9 := f8.stp s9 (by simpa using fun x => he1.1 x.symm) (by simpa using fun x => he1.2.2.2 x.symm)
      have m9 := m8.stp s9 (by simpa using fun x => he1.2.1 x.symm)
      have i9 := i8.stp s9 (by simpa using fun x => he1.2.2.1 x.symm)
      have st9 : Stp [e] w o _ _ := (st7.trans s8.none).trans s9
      have hN8 := N8.blk
      obtain ⟨w9, hw9⟩ : ∃ w9, w8.setRow B CL.toArray = w9 := ⟨_, rfl⟩
      rw [hw9] at N9 T9 f9 m9 i9 st9
      have t0 := T9.c0
      have n0 := N9.c0
      have n0f := N9.free 0
      have hnx0 : NX.bank = 0 := by rw [← hNX.out]
      rw [hbk0.out] at t0
      rw [hnx0] at n0
      replace hN8 := Lib.hid hN8
      replace N8 := Lib.hid N8
      replace N9 := Lib.hid N9
      replace T7 := Lib.hid T7
      replace T8 := Lib.hid T8
      replace T9 := Lib.hid T9
      replace f7 := Lib.hid f7
      replace f8 := Lib.hid f8
      replace f9 := Lib.hid f9
      replace m7 := Lib.hid m7
      replace m8 := Lib.hid m8
      replace m9 := Lib.hid m9
      replace i7 := Lib.hid i7
      replace i8 := Lib.hid i8
      replace i9 := Lib.hid i9
      replace st7 := Lib.hid st7
      replace st9 := Lib.hid st9
      replace hw8 := Lib.hid hw8
      replace ho8 := Lib.hid ho8
      replace hB := Lib.hid hB
      replace hw9 := Lib.hid hw9
      replace hTB := Lib.hid hTB
      replace hnx0 := Lib.hid hnx0
      clear s7 s8 s9 t34 dd
      go_wp2_with (refine holdAt 80 ?_)
      apply Hold.mk
      refine wpList_buildTo rfl 72 _ rfl (some 80) rfl CL.toArray ?_ ?_
      · have hb' := hbu.out
        simp
        exact hb'
      go_wp2_with (refine holdSt 72 ?_)
      apply Hold.mk
      rw [show w7.alloc (.cells (Value.int .i64 0 :: .int .i64 0 :: .int .u8 0 :: .int .u8 0 :: .int .u8 0 :: .int .u8 0 :: .int .u8 0 :: .int .u8 0 :: .int .u8 0 :: .int .u8 0 :: .int .u8 0 :: .int .u8 0 :: .int .u8 0 :: .int .u8 0 :: .int .u8 0 :: .int .u8 0 :: .int .u8 0 :: .int .u8 0 :: .int .u8 0 :: .int .u8 0 :: .int .u8 0 :: .int .u8 0 :: .int .u8 0 :: .int .u8 0 :: .int .u8 0 :: .int .u8 0 :: .int .u8 0 :: .int .u8 0 :: .int .u8 0 :: .int .u8 0 :: .int .u8 0 :: .int .u8 0 :: .int .u8 0 :: .int .u8 0 :: .int .i64 0 :: .string ⟨#[]⟩ :: .slice none 0 0 :: []).toArray 72) = w8 from hw8.out, hB.out]
      refine wpList_store_row rfl 72 _ _ rfl B CL.toArray rfl rfl 72 _ hN8.out (by rw [hNi.out]; simp) (by simp [hNl.out, cellsBS_len (t := zeroBS) (vm := .slice none 0 0) rfl]) hN1.out ?_
      rw [hw9.out]
      have hbb0 : 0 ≤ bk0 ∧ bk0 ≤ 1 := by have := hbb.out; rw [hbk0.out] at this; exact this
      obtain ⟨BK, hBKe⟩ : ∃ x : Int, 1 - bk0 = x := ⟨_, rfl⟩
      have hBK : 0 ≤ BK ∧ BK ≤ 1 := by omega
      obtain ⟨K, hK⟩ : ∃ K, 80 + BK.toNat * 8 = K := ⟨_, rfl⟩
      have hKI : 80 + BK * 8 = (K : Int) := by omega
      obtain ⟨NB, hNB⟩ : ∃ NB, ({ NX with bank := BK } : BS) = NB := ⟨_, rfl⟩
      have hNB0 : NB.bank = BK := by rw [← hNB]
      have hFm := Lib.hid (show NB.mind = mind by rw [← hNB]; exact hNXm.out)
      have hFn := Lib.hid (show NB.name.length ≤ 12 by rw [← hNB, ← hNX.out]; show name.length ≤ 12; rw [HNL.out]; omega)
      have hrec : recB (nextB BK name m counter mind) = recB NB := by rw [← hNB, ← hNX.out, ← hH.out]; rfl
      have hv6 : LS = if (layB s K m).2 ≠ 0 then layB s K m else saveS (layB s K m).1 (recB NB) := by
        have e1 : bankOf (BS0, IM, 0) = BK := by
          show 1 - BS0.bank = BK
          rw [hbk0.out]
          exact hBKe
        rw [hv.out, if_neg (by rintro ⟨_, h9⟩; have h8 := hct0.out; have h9 : counter < BS0.counter := h9; omega), if_neg (by rintro ⟨h9, _⟩; exact h9 rfl), e1, hK, hrec]
      replace hv := Lib.hid hv6
      clear hv6
      have h7 := blk_set (j := 0) N9.out.blk (.int .i64 BK)
      rw [cells_set0, hNB] at h7
      have sa : Stp [e] w9 o8 (w9.setCell ⟨B, 0, none⟩ (.int .i64 BK)) o8 := (Stp.refl [e] w9 o8).setCell (fun _ => by show o8 B ∈ _; rw [N9.out.col]; simp) _
      have Na : Xb (w9.setCell ⟨B, 0, none⟩ (.int .i64 BK)) o8 e B NB (.slice Ai mind.length capI) := ⟨h7, N9.out.col, by rw [← hNB]; exact hNXs.out⟩
      have fa := f9.out.stp sa (by simpa using fun x => he1.1 x.symm) (by simpa using fun x => he1.2.2.2 x.symm)
      have ma := m9.out.stp sa (by simpa using fun x => he1.2.1 x.symm)
      have ia := i9.out.stp sa (by simpa using fun x => he1.2.2.1 x.symm)
      have sta := st9.out.trans sa
      have hBKi : (1 : Int) - bk0 = BK := hBKe
      obtain ⟨wa, hwa⟩ : ∃ wa, w9.setCell ⟨B, 0, none⟩ (.int .i64 BK) = wa := ⟨_, rfl⟩
      rw [hwa] at Na fa ma ia sta
      have na := Na.c0
      rw [hNB0] at na
      replace hNB := Lib.hid hNB
      replace hK := Lib.hid hK
      replace hrec := Lib.hid hrec
      replace h7 := Lib.hid h7
      replace Na := Lib.hid Na
      replace fa := Lib.hid fa
      replace ma := Lib.hid ma
      replace ia := Lib.hid ia
      replace sta := Lib.hid sta
      replace hwa := Lib.hid hwa
      replace hBKe := Lib.hid hBKe
      replace hbad := Lib.hid hbad
      replace hold := Lib.hid hold
      replace hnlt := Lib.hid hnlt
      clear sa
      obtain ⟨n, hn⟩ : ∃ n, manyN m = n := ⟨_, rfl⟩
      have hnI : Int.tdiv ((m.length : Int) + 64 - 1) 64 = (n : Int) := by
        rw [← hn, manyN]
        have : (m.length : Int) + 64 - 1 = ((m.length + 63 : Nat) : Int) := by omega
        rw [this]
        rfl
      have hnI2 : ((m.length : Int) + 64 - 1) / 64 = (n : Int) := by rw [← hn, manyN]; omega
      have hnb : n ≤ 20000 ∧ n * 64 ≤ m.length + 63 ∧ m.length ≤ n * 64 := by rw [← hn, manyN]; omega
      have hlay : layB s K m = if (erasesS s K n).2 = 0 then progsB (erasesS s K n).1 K m n else erasesS s K n := by rw [layB, hn]
      have hKb : K ≤ 88 := by omega
      have hKb2 : (0 : Int) ≤ (K : Int) ∧ (K : Int) ≤ 88 := by omega
      obtain ⟨LY, hLY⟩ : ∃ LY, layB s K m = LY := ⟨_, rfl⟩
      rw [hLY] at hlay
      replace hv := Lib.hid (by rw [hv.out, hLY] : LS = if LY.2 ≠ 0 then LY else saveS LY.1 (recB NB))
      replace hLY := Lib.hid hLY
      replace hn := Lib.hid hn
      replace hlay := Lib.hid hlay
      go_wp2_with fail
      rw [hwa.out]
      clear t0 n0 n0f
      go_wp2_with fail
      clear na
      have bk_ : ∀ (U : FS × Int), U.2 ≠ 0 → LY = U → LS = U := fun U hz e => by rw [hv.out, e, if_pos hz]
      replace bk_ := Lib.hid bk_
      go_loopw [17] (XlE wa o8 c cf p vP vs s K n) (fun x _ => n - (intOf x).toNat)
      case atStart => exact ⟨0, o8, rfl, Nat.zero_le _, Stp.refl _ _ _, fa.out, rfl⟩
      case round =>
        obtain ⟨i, o1, rfl, hi, st, hF, hE⟩ := hrel
        by_cases hlt : i < n
        · have g4 : decide ((i : Int) < (n : Int)) = true := decide_eq_true (by omega)
          obtain ⟨j, hj⟩ : ∃ j, K + i = j := ⟨_, rfl⟩
          have hjI : (K : Int) + (i : Int) = (j : Int) := by omega
          have hnx : erasesS s K (i + 1) = (eraseS (erasesS s K i).1 (j : Int), eraseE (erasesS s K i).1 (j : Int)) := by rw [erasesS, if_pos hE, hj]
          have hcall := xerase_calls c cf p vP vs _ (j : Int) wr o1 hF hcf
          have hE1 : (erasesS s K (i + 1)).2 = eraseE (erasesS s K i).1 (j : Int) := by rw [hnx]
          have hF1 : (erasesS s K (i + 1)).1 = eraseS (erasesS s K i).1 (j : Int) := by rw [hnx]
          rw [← hE1, ← hF1] at hcall
          have hstuck := fun x => erasesS_stuck s K (i := i + 1) x n (by omega)
          obtain ⟨U, hU⟩ : ∃ U, erasesS s K (i + 1) = U := ⟨_, rfl⟩
          rw [hU] at hcall hstuck hnx hE1 hF1
          have hib : (i : Int) < 20000 := by omega
          replace hj := Lib.hid hj
          replace hnx := Lib.hid hnx
          replace hE1 := Lib.hid hE1
          replace hF1 := Lib.hid hF1
          replace hF := Lib.hid hF
          replace hE := Lib.hid hE
          replace st := Lib.hid st
          by_cases hz : U.2 = 0
          · have g5 : (U.2 != 0) = false := by simp [hz]
            have hz' := Lib.hid hz
            clear hstuck hz
            go_wp2_with fail
            refine hcall.mono ?_
            clear hcall
            rintro ex w5' ⟨r, o5', rfl, s5, rfl, F5⟩
            have st5 := Lib.hid (st.out.trans s5)
            replace F5 := Lib.hid F5
            clear s5
            go_wp2
            go_roundw
            case rel => exact ⟨i + 1, o5', by go_num, by omega, st5.out, by rw [hU]; exact F5.out, by rw [hU]; exact hz'.out⟩
            case measure => simp [intOf]; omega
          · have g5 : (U.2 != 0) = true := by simp [hz]
            have hend : LS = U := bk_.out U hz (by rw [hlay.out, hstuck hz, if_neg hz])
            replace hend := Lib.hid hend
            replace hz := Lib.hid hz
            clear hstuck
            go_wp2_with fail
            refine hcall.mono ?_
            clear hcall
            rintro ex w5' ⟨r, o5', rfl, s5, rfl, F5⟩
            have st5 := Lib.hid ((sta.out.mono (by simp) : Stp [e, c, cf] _ _ _ _).trans ((st.out.trans s5).mono (D := [e, c, cf]) (by simp)))
            replace F5 := Lib.hid F5
            clear s5
            go_wp2
            go_ret
            exact Post.mk (st5.out.drop hef) ⟨by rw [hend.out]; rfl, by rw [hend.out]; exact F5.out⟩
        have hin : i = n := by omega
        have g4 : decide ((i : Int) < (n : Int)) = false := decide_eq_false (by omega)
        rw [hin] at hE hF
        have hlay2 : LY = progsB (erasesS s K n).1 K m n := by rw [hlay.out, if_pos hE]
        obtain ⟨s1, hs1⟩ : ∃ s1, (erasesS s K n).1 = s1 := ⟨_, rfl⟩
        rw [hs1] at hlay2 hF
        have m1 := ma.out.stp st (by simp; exact ⟨h2, h2f⟩)
        have i1 := ia.out.stp st (by simp; exact ⟨h3, h3f⟩)
        have N1 := Na.out.stp st (by simp; exact ⟨he1.1, he1.2.2.2⟩)
        have st1 := (sta.out.mono (by simp) : Stp [e, c, cf] _ _ _ _).trans (st.mono (D := [e, c, cf]) (by simp))
        replace hlay2 := Lib.hid hlay2
        replace m1 := Lib.hid m1
        replace i1 := Lib.hid i1
        replace N1 := Lib.hid N1
        replace st1 := Lib.hid st1
        replace hF := Lib.hid hF
        replace hE := Lib.hid hE
        replace hs1 := Lib.hid hs1
        replace hin := Lib.hid hin
        replace st := Lib.hid st
        go_wp2_with fail
        obtain ⟨w1, hw1⟩ : ∃ w1, wr = w1 := ⟨_, rfl⟩
        subst hw1
        go_loopw [19] (XlP wr o1 c cf p vP vs s1 K n m) (fun x _ => n - (intOf x).toNat)
        case atStart => exact ⟨0, o1, rfl, Nat.zero_le _, Stp.refl _ _ _, hF.out, rfl⟩
        case round =>
          obtain ⟨q, o2, rfl, hq, st2, hF2, hE2⟩ := hrel
          by_cases hlt2 : q < n
          · have g5 : decide ((q : Int) < (n : Int)) = true := decide_eq_true (by omega)
            obtain ⟨km, hkm⟩ : ∃ km, K + q = km := ⟨_, rfl⟩
            obtain ⟨a, ha⟩ : ∃ a, q * 64 = a := ⟨_, rfl⟩
            obtain ⟨a2, ha2⟩ : ∃ a2, (q + 1) * 64 = a2 := ⟨_, rfl⟩
            obtain ⟨hi2, hhi⟩ : ∃ hi2, min a2 m.length = hi2 := ⟨_, rfl⟩
            have hkI : (K : Int) + (q : Int) = (km : Int) := by omega
            have haI : (q : Int) * 64 = (a : Int) := by omega
            have ha2I : ((q : Int) + 1) * 64 = (a2 : Int) := by omega
            have hqb : (0 : Int) ≤ (q : Int) ∧ (q : Int) < 20000 := by omega
            have hcs : (a2 < m.length ∧ hi2 = a2) ∨ (¬ a2 < m.length ∧ hi2 = m.length) := by omega
            have hah : a ≤ hi2 ∧ hi2 ≤ m.length := by omega
            have mm := m1.out.stp st2 (by simp; exact ⟨h2, h2f⟩)
            have rP := part_rd mm (i := q) (by omega)
            rw [ha, ha2, hhi] at rP
            have hcall := xprog_calls c cf p vP vs (progsB s1 K m q).1 (km : Int) c2 (partV A capA a hi2) (partB m q) wr o2 hF2 rP h2 h2f
            have hnx : progsB s1 K m (q + 1) = (progS (progsB s1 K m q).1 (km : Int) (partB m q), progE (progsB s1 K m q).1 (km : Int) (partB m q)) := by rw [progsB, if_pos hE2, hkm]
            have hE1 : (progsB s1 K m (q + 1)).2 = progE (progsB s1 K m q).1 (km : Int) (partB m q) := by rw [hnx]
            have hF1 : (progsB s1 K m (q + 1)).1 = progS (progsB s1 K m q).1 (km : Int) (partB m q) := by rw [hnx]
            rw [← hE1, ← hF1] at hcall
            have hstuck := fun x => progsB_stuck s1 K m (i := q + 1) x n (by omega)
            obtain ⟨U, hU⟩ : ∃ U, progsB s1 K m (q + 1) = U := ⟨_, rfl⟩
            rw [hU] at hcall hstuck hnx hE1 hF1
            replace hkm := Lib.hid hkm
            replace ha := Lib.hid ha
            replace ha2 := Lib.hid ha2
            replace hhi := Lib.hid hhi
            replace hnx := Lib.hid hnx
            replace hE1 := Lib.hid hE1
            replace hF1 := Lib.hid hF1
            replace hF2 := Lib.hid hF2
            replace hE2 := Lib.hid hE2
            replace st2 := Lib.hid st2
            replace mm := Lib.hid mm
            replace rP := Lib.hid rP
            replace hcall := Lib.hid hcall
            replace hstuck := Lib.hid hstuck
            rcases hcs with ⟨q1, q2⟩ | ⟨q1, q2⟩
            all_goals subst q2
            · have g3 : decide ((hi2 : Int) < (m.length : Int)) = true := decide_eq_true (by omega)
              have g6 : (hi2 : Int) < (m.length : Int) := by omega
              go_wp2_with (refine holdAt 127 ?_)
              apply Hold.mk
              refine slcX _ _ _ rfl rfl a hi2 rfl rfl rfl hah.1 hah.2 hlc ?_
              obtain ⟨V, hV⟩ : ∃ V, partV A capA a hi2 = V := ⟨_, rfl⟩
              have hc := hcall.out
              rw [hV] at hc ⊢
              replace hV := Lib.hid hV
              by_cases hz : U.2 = 0
              · have g7 : (U.2 != 0) = false := by simp [hz]
                have hz' := Lib.hid hz
                clear hz
                go_wp2_with fail
                refine hc.mono ?_
                clear hc
                rintro ex w6' ⟨r, o6, rfl, s6, rfl, F6⟩
                have st6' := Lib.hid (st2.out.trans (s6.mono (D := [c, cf]) (by simp)))
                replace F6 := Lib.hid F6
                clear s6
                go_wp2
                go_roundw
                case rel => exact ⟨q + 1, o6, by go_num, by omega, st6'.out, by rw [hU]; exact F6.out, by rw [hU]; exact hz'.out⟩
                case measure => simp [intOf]; omega
              · have g7 : (U.2 != 0) = true := by simp [hz]
                have hend : LS = U := bk_.out U hz (by rw [hlay2.out, hstuck.out hz])
                replace hend := Lib.hid hend
                replace hz := Lib.hid hz
                go_wp2_with fail
                refine hc.mono ?_
                clear hc
                rintro ex w6' ⟨r, o6, rfl, s6, rfl, F6⟩
                have st6' := Lib.hid (st1.out.trans ((st2.out.trans (s6.mono (D := [c, cf]) (by simp))).mono (D := [e, c, cf]) (by simp)))
                replace F6 := Lib.hid F6
                clear s6
                go_wp2
                go_ret
                exact Post.mk (st6'.out.drop hef) ⟨by rw [hend.out]; rfl, by rw [hend.out]; exact F6.out⟩
            · have g3 : decide ((a2 : Int) < (m.length : Int)) = false := decide_eq_false (by omega)
              have g6 : (m.length : Int) ≤ (a2 : Int) := by omega
              go_wp2_with (refine holdAt 127 ?_)
              apply Hold.mk
              refine slcX _ _ _ rfl rfl a m.length rfl rfl rfl hah.1 hah.2 hlc ?_
              obtain ⟨V, hV⟩ : ∃ V, partV A capA a m.length = V := ⟨_, rfl⟩
              have hc := hcall.out
              rw [hV] at hc ⊢
              replace hV := Lib.hid hV
              by_cases hz : U.2 = 0
              · have g7 : (U.2 != 0) = false := by simp [hz]
                have hz' := Lib.hid hz
                clear hz
                go_wp2_with fail
                refine hc.mono ?_
                clear hc
                rintro ex w6' ⟨r, o6, rfl, s6, rfl, F6⟩
                have st6' := Lib.hid (st2.out.trans (s6.mono (D := [c, cf]) (by simp)))
                replace F6 := Lib.hid F6
                clear s6
                go_wp2
                go_roundw
                case rel => exact ⟨q + 1, o6, by go_num, by omega, st6'.out, by rw [hU]; exact F6.out, by rw [hU]; exact hz'.out⟩
                case measure => simp [intOf]; omega
              · have g7 : (U.2 != 0) = true := by simp [hz]
                have hend : LS = U := bk_.out U hz (by rw [hlay2.out, hstuck.out hz])
                replace hend := Lib.hid hend
                replace hz := Lib.hid hz
                go_wp2_with fail
                refine hc.mono ?_
                clear hc
                rintro ex w6' ⟨r, o6, rfl, s6, rfl, F6⟩
                have st6' := Lib.hid (st1.out.trans ((st2.out.trans (s6.mono (D := [c, cf]) (by simp))).mono (D := [e, c, cf]) (by simp)))
                replace F6 := Lib.hid F6
                clear s6
                go_wp2
                go_ret
                exact Post.mk (st6'.out.drop hef) ⟨by rw [hend.out]; rfl, by rw [hend.out]; exact F6.out⟩
          · have hjn : q = n := by omega
            have g5 : decide ((q : Int) < (n : Int)) = false := decide_eq_false (by omega)
            rw [hjn, ← hlay2.out] at hF2 hE2
            have hv2 : LS = saveS LY.1 (recB NB) := by rw [hv.out, if_neg (by rw [hE2]; simp)]
            have i2' := i1.out.stp st2 (by simp; exact ⟨h3, h3f⟩)
            have N2 := N1.out.stp st2 (by simp; exact ⟨he1.1, he1.2.2.2⟩)
            have st3 := st1.out.trans (st2.mono (D := [e, c, cf]) (by simp))
            have hall := N2.all
            have hCNi := xstateInfo (vm := .slice Ai mind.length capI) N2.sum
            have hrc := xrecord_calls c3 d NB (.slice Ai mind.length capI) wr o2 (by rw [hFm.out]; exact i2') N2.sum (by have := hFn.out; omega) (by rw [hFm.out]; omega)
            obtain ⟨CN, hCN⟩ : ∃ CN, cellsBS NB (.slice Ai mind.length capI) = CN := ⟨_, rfl⟩
            obtain ⟨RC, hRC⟩ : ∃ RC, recB NB = RC := ⟨_, rfl⟩
            rw [hCN] at hall hCNi hrc
            rw [hRC] at hrc hv2
            replace hv2 := Lib.hid hv2
            replace hall := Lib.hid hall
            replace hCNi := Lib.hid hCNi
            replace hCN := Lib.hid hCN
            replace hRC := Lib.hid hRC
            replace i2' := Lib.hid i2'
            replace N2 := Lib.hid N2
            replace st3 := Lib.hid st3
            replace hF2 := Lib.hid hF2
            replace hE2 := Lib.hid hE2
            replace st2 := Lib.hid st2
            replace hjn := Lib.hid hjn
            go_wp2_with (refine list_load rfl 72 _ rfl ⟨B, 0, none⟩ rfl CN _ hall.out Try.underlying72 rfl hCNi.out ?_)
            refine hrc.mono ?_
            clear hrc
            rintro ex w9' ⟨r, o9, rfl, s9, q9⟩
            obtain ⟨A9, cap9, rfl⟩ := Own.shape q9
            have F9 := hF2.out.stp s9 (by simp) (by simp)
            have st9' := st3.out.trans s9.none
            have hsv := xsave_calls c cf d p vP vs LY.1 _ RC w9' o9 F9 (OwnB.rd q9) hd1.1 hd1.2.2.2.1 hcf
            rw [← hv2.out] at hsv
            replace q9 := Lib.hid q9
            replace F9 := Lib.hid F9
            replace st9' := Lib.hid st9'
            clear s9
            go_wp2_with fail
            refine hsv.mono ?_
            clear hsv
            rintro ex wz ⟨r, oz, rfl, sz, rfl, fz⟩
            have stz := Lib.hid (st9'.out.trans (sz.mono (D := [e, c, cf]) (by simp)))
            replace fz := Lib.hid fz
            clear sz
            go_wp2
            go_ret
            exact Post.mk (stz.out.drop hef) ⟨rfl, fz.out⟩
    · have g9 : ((9 : Int) == 0) = false := rfl
      -- the record that is to be
      have hsm := xsum_calls c2 _ m w6 o5 m6.out (by omega)
      obtain ⟨H, hH⟩ : ∃ H, sha m = H := ⟨_, rfl⟩
      have hHl : H.length = 32 := by rw [← hH]; exact sha_len m
      rw [hH] at hsm
      have hbu := xbuilt_next (m.length : Int) counter H name Ai mind.length capI mind hHl
      obtain ⟨NX, hNX⟩ : ∃ NX, (⟨0, (m.length : Int), H, counter, name, mind⟩ : BS) = NX := ⟨_, rfl⟩
      rw [hNX] at hbu
      have hNXs : NX.sum.length = 32 := by rw [← hNX]; exact hHl
      have hNXm : NX.mind = mind := by rw [← hNX]
      have hNi := xstateInfo (vm := .slice Ai mind.length capI) hNXs
      have hN1 := cells_one NX Ai mind.length capI
      have hNl := cellsBS_len (vm := .slice Ai mind.length capI) hNXs
      obtain ⟨CL, hCL⟩ : ∃ CL, cellsBS NX (.slice Ai mind.length capI) = CL := ⟨_, rfl⟩
      rw [hCL] at hbu hNi hN1 hNl
      replace hH := Lib.hid hH
      replace hHl := Lib.hid hHl
      replace hNX := Lib.hid hNX
      replace hNXs := Lib.hid hNXs
      replace hNXm := Lib.hid hNXm
      replace hNi := Lib.hid hNi
      replace hN1 := Lib.hid hN1
      replace hNl := Lib.hid hNl
      replace hCL := Lib.hid hCL
      replace hbu := Lib.hid hbu
      have s7 : Stp [] w6 o5 (w6.alloc (.cells (cellsBS zeroBS (.slice none 0 0)).toArray 72)) (paint o5 w6.heap.size e) := (Stp.refl [] w6 o5).alloc _ e
      obtain ⟨OW, hOW⟩ : ∃ OW : Prop, OW = True := ⟨_, rfl⟩
      clear hOW OW
      go_wp2_with fail
      refine hsm.mono ?_
      clear hsm s7
      rintro ex w7 ⟨r, o7, rfl, s7, rfl⟩
      have f7 := f6.out.stp s7 (by simp) (by simp)
      have m7 := m6.out.stp s7 (by simp)
      have i7 := i6.out.stp s7 (by simp)
      have T7 := T6.out.stp s7 (by simp)
      have st7 := st6.out.trans s7.none
      have s8 : Stp [] w7 o7 (w7.alloc (.cells (cellsBS zeroBS (.slice none 0 0)).toArray 72)) (paint o7 w7.heap.size e) := (Stp.refl [] w7 o7).alloc _ e
      have N8 := Xb.new w7 o7 e zeroBS (.slice none 0 0) rfl
      have f8 := f7.stp s8 (by simp) (by simp)
      have m8 := m7.stp s8 (by simp)
      have i8 := i7.stp s8 (by simp)
      have T8 := T7.stp s8 (by simp)
      obtain ⟨w8, hw8⟩ : ∃ w8, w7.alloc (.cells (cellsBS zeroBS (.slice none 0 0)).toArray 72) = w8 := ⟨_, rfl⟩
      obtain ⟨o8, ho8⟩ : ∃ o8, paint o7 w7.heap.size e = o8 := ⟨_, rfl⟩
      obtain ⟨B, hB⟩ : ∃ B, w7.heap.size = B := ⟨_, rfl⟩
      have hTB : T ≠ B := by
        have := (Array.getElem?_eq_some_iff.1 T7.blk).1
        omega
      rw [hw8, ho8] at s8 N8 f8 m8 i8 T8
      rw [hB] at N8
      have s9 : Stp [e] w8 o8 (w8.setRow B CL.toArray) o8 := setRow_stp (by rw [N8.col]; simp) _
      have N9 : Xb (w8.setRow B CL.toArray) o8 e B NX (.slice Ai mind.length capI) := ⟨by rw [← hCL.out]; exact setRow_heap _ _ _ _ _ _ N8.blk, N8.col, hNXs.out⟩
      have T9 : Xb (w8.setRow B CL.toArray) o8 e T BS0 (.slice Ab BS0.mind.length capb) := ⟨(setRow_other w8 B T _ hTB).trans T8.blk, T8.col, hbs.out⟩
      have f9 := f8.stp s9 (by simpa using fun x => he1.1 x.symm) (by simpa using fun x => he1.2.2.2 x.symm)
      have m9 := m8.stp s9 (by simpa using fun x => he1.2.1 x.symm)
      have i9 := i8.stp s9 (by simpa using fun x => he1.2.2.1 x.symm)
      have st9 : Stp [e] w o _ _ := (st7.trans s8.none).trans s9
      have hN8 := N8.blk
      obtain ⟨w9, hw9⟩ : ∃ w9, w8.setRow B CL.toArray = w9 := ⟨_, rfl⟩
      rw [hw9] at N9 T9 f9 m9 i9 st9
      have t0 := T9.c0
      have n0 := N9.c0
      have n0f := N9.free 0
      have hnx0 : NX.bank = 0 := by rw [← hNX.out]
      rw [hbk0.out] at t0
      rw [hnx0] at n0
      replace hN8 := Lib.hid hN8
      replace N8 := Lib.hid N8
      replace N9 := Lib.hid N9
      replace T7 := Lib.hid T7
      replace T8 := Lib.hid T8
      replace T9 := Lib.hid T9
      replace f7 := Lib.hid f7
      replace f8 := Lib.hid f8
      replace f9 := Lib.hid f9
      replace m7 := Lib.hid m7
      replace m8 := Lib.hid m8
      replace m9 := Lib.hid m9
      replace i7 := Lib.hid i7
      replace i8 := Lib.hid i8
      replace i9 := Lib.hid i9
      replace st7 := Lib.hid st7
      replace st9 := Lib.hid st9
      replace hw8 := Lib.hid hw8
      replace ho8 := Lib.hid ho8
      replace hB := Lib.hid hB
      replace hw9 := Lib.hid hw9
      replace hTB := Lib.hid hTB
      replace hnx0 := Lib.hid hnx0
      clear s7 s8 s9 t34 dd
      go_wp2_with (refine holdAt 80 ?_)
      apply Hold.mk
      refine wpList_buildTo rfl 72 _ rfl (some 80) rfl CL.toArray ?_ ?_
      · have hb' := hbu.out
        simp
        exact hb'
      go_wp2_with (refine holdSt 72 ?_)
      apply Hold.mk
      rw [show w7.alloc (.cells (Value.int .i64 0 :: .int .i64 0 :: .int .u8 0 :: .int .u8 0 :: .int .u8 0 :: .int .u8 0 :: .int .u8 0 :: .int .u8 0 :: .int .u8 0 :: .int .u8 0 :: .int .u8 0 :: .int .u8 0 :: .int .u8 0 :: .int .u8 0 :: .int .u8 0 :: .int .u8 0 :: .int .u8 0 :: .int .u8 0 :: .int .u8 0 :: .int .u8 0 :: .int .u8 0 :: .int .u8 0 :: .int .u8 0 :: .int .u8 0 :: .int .u8 0 :: .int .u8 0 :: .int .u8 0 :: .int .u8 0 :: .int .u8 0 :: .int .u8 0 :: .int .u8 0 :: .int .u8 0 :: .int .u8 0 :: .int .u8 0 :: .int .i64 0 :: .string ⟨#[]⟩ :: .slice none 0 0 :: []).toArray 72) = w8 from hw8.out, hB.out]
      refine wpList_store_row rfl 72 _ _ rfl B CL.toArray rfl rfl 72 _ hN8.out (by rw [hNi.out]; simp) (by simp [hNl.out, cellsBS_len (t := zeroBS) (vm := .slice none 0 0) rfl]) hN1.out ?_
      rw [hw9.out]
      obtain ⟨BK, hBKe⟩ : ∃ x : Int, (0 : Int) = x := ⟨_, rfl⟩
      have hBK : 0 ≤ BK ∧ BK ≤ 1 := by omega
      obtain ⟨K, hK⟩ : ∃ K, 80 + BK.toNat * 8 = K := ⟨_, rfl⟩
      have hKI : 80 + BK * 8 = (K : Int) := by omega
      obtain ⟨NB, hNB⟩ : ∃ NB, NX = NB := ⟨_, rfl⟩
      have hNB0 : NB.bank = BK := by rw [← hNB, ← hBKe]; exact hnx0.out
      have hFm := Lib.hid (show NB.mind = mind by rw [← hNB]; exact hNXm.out)
      have hFn := Lib.hid (show NB.name.length ≤ 12 by rw [← hNB, ← hNX.out]; show name.length ≤ 12; rw [HNL.out]; omega)
      have hrec : recB (nextB BK name m counter mind) = recB NB := by rw [← hNB, ← hBKe, ← hNX.out, ← hH.out]; rfl
      have hv6 : LS = if (layB s K m).2 ≠ 0 then layB s K m else saveS (layB s K m).1 (recB NB) := by
        have e1 : bankOf (BS0, IM, 9) = BK := hBKe
        rw [hv.out, if_neg (by rintro ⟨h9, _⟩; exact absurd h9 (by decide)), if_neg (by rintro ⟨_, h9⟩; exact h9 rfl), e1, hK, hrec]
      replace hv := Lib.hid hv6
      clear hv6
      have Na := N9.out
      rw [hNB] at Na
      have fa := f9.out
      have ma := m9.out
      have ia := i9.out
      have sta := st9.out
      have na := Na.c0
      rw [hNB0] at na
      replace hNB := Lib.hid hNB
      replace hK := Lib.hid hK
      replace hrec := Lib.hid hrec
      replace Na := Lib.hid Na
      replace fa := Lib.hid fa
      replace ma := Lib.hid ma
      replace ia := Lib.hid ia
      replace sta := Lib.hid sta
      replace hBKe := Lib.hid hBKe
      replace hbad := Lib.hid hbad
      replace hold := Lib.hid hold
      clear n0 t0 n0f
      obtain ⟨n, hn⟩ : ∃ n, manyN m = n := ⟨_, rfl⟩
      have hnI : Int.tdiv ((m.length : Int) + 64 - 1) 64 = (n : Int) := by
        rw [← hn, manyN]
        have : (m.length : Int) + 64 - 1 = ((m.length + 63 : Nat) : Int) := by omega
        rw [this]
        rfl
      have hnI2 : ((m.length : Int) + 64 - 1) / 64 = (n : Int) := by rw [← hn, manyN]; omega
      have hnb : n ≤ 20000 ∧ n * 64 ≤ m.length + 63 ∧ m.length ≤ n * 64 := by rw [← hn, manyN]; omega
      have hlay : layB s K m = if (erasesS s K n).2 = 0 then progsB (erasesS s K n).1 K m n else erasesS s K n := by rw [layB, hn]
      have hKb : K ≤ 88 := by omega
      have hKb2 : (0 : Int) ≤ (K : Int) ∧ (K : Int) ≤ 88 := by omega
      obtain ⟨LY, hLY⟩ : ∃ LY, layB s K m = LY := ⟨_, rfl⟩
      rw [hLY] at hlay
      replace hv := Lib.hid (by rw [hv.out, hLY] : LS = if LY.2 ≠ 0 then LY else saveS LY.1 (recB NB))
      replace hLY := Lib.hid hLY
      replace hn := Lib.hid hn
      replace hlay := Lib.hid hlay
      go_wp2_with fail
      clear na
      have bk_ : ∀ (U : FS × Int), U.2 ≠ 0 → LY = U → LS = U := fun U hz e => by rw [hv.out, e, if_pos hz]
      replace bk_ := Lib.hid bk_
      go_loopw [17] (XlE w9 o8 c cf p vP vs s K n) (fun x _ => n - (intOf x).toNat)
      case atStart => exact ⟨0, o8, rfl, Nat.zero_le _, Stp.refl _ _ _, fa.out, rfl⟩
      case round =>
        obtain ⟨i, o1, rfl, hi, st, hF, hE⟩ := hrel
        by_cases hlt : i < n
        · have g4 : decide ((i : Int) < (n : Int)) = true := decide_eq_true (by omega)
          obtain ⟨j, hj⟩ : ∃ j, K + i = j := ⟨_, rfl⟩
          have hjI : (K : Int) + (i : Int) = (j : Int) := by omega
          have hnx : erasesS s K (i + 1) = (eraseS (erasesS s K i).1 (j : Int), eraseE (erasesS s K i).1 (j : Int)) := by rw [erasesS, if_pos hE, hj]
          have hcall := xerase_calls c cf p vP vs _ (j : Int) wr o1 hF hcf
          have hE1 : (erasesS s K (i + 1)).2 = eraseE (erasesS s K i).1 (j : Int) := by rw [hnx]
          have hF1 : (erasesS s K (i + 1)).1 = eraseS (erasesS s K i).1 (j : Int) := by rw [hnx]
          rw [← hE1, ← hF1] at hcall
          have hstuck := fun x => erasesS_stuck s K (i := i + 1) x n (by omega)
          obtain ⟨U, hU⟩ : ∃ U, erasesS s K (i + 1) = U := ⟨_, rfl⟩
          rw [hU] at hcall hstuck hnx hE1 hF1
          have hib : (i : Int) < 20000 := by omega
          replace hj := Lib.hid hj
          replace hnx := Lib.hid hnx
          replace hE1 := Lib.hid hE1
          replace hF1 := Lib.hid hF1
          replace hF := Lib.hid hF
          replace hE := Lib.hid hE
          replace st := Lib.hid st
          by_cases hz : U.2 = 0
          · have g5 : (U.2 != 0) = false := by simp [hz]
            have hz' := Lib.hid hz
            clear hstuck hz
            go_wp2_with fail
            refine hcall.mono ?_
            clear hcall
            rintro ex w5' ⟨r, o5', rfl, s5, rfl, F5⟩
            have st5 := Lib.hid (st.out.trans s5)
            replace F5 := Lib.hid F5
            clear s5
            go_wp2
            go_roundw
            case rel => exact ⟨i + 1, o5', by go_num, by omega, st5.out, by rw [hU]; exact F5.out, by rw [hU]; exact hz'.out⟩
            case measure => simp [intOf]; omega
          · have g5 : (U.2 != 0) = true := by simp [hz]
            have hend : LS = U := bk_.out U hz (by rw [hlay.out, hstuck hz, if_neg hz])
            replace hend := Lib.hid hend
            replace hz := Lib.hid hz
            clear hstuck
            go_wp2_with fail
            refine hcall.mono ?_
            clear hcall
            rintro ex w5' ⟨r, o5', rfl, s5, rfl, F5⟩
            have st5 := Lib.hid ((sta.out.mono (by simp) : Stp [e, c, cf] _ _ _ _).trans ((st.out.trans s5).mono (D := [e, c, cf]) (by simp)))
            replace F5 := Lib.hid F5
            clear s5
            go_wp2
            go_ret
            exact Post.mk (st5.out.drop hef) ⟨by rw [hend.out]; rfl, by rw [hend.out]; exact F5.out⟩
        have hin : i = n := by omega
        have g4 : decide ((i : Int) < (n : Int)) = false := decide_eq_false (by omega)
        rw [hin] at hE hF
        have hlay2 : LY = progsB (erasesS s K n).1 K m n := by rw [hlay.out, if_pos hE]
        obtain ⟨s1, hs1⟩ : ∃ s1, (erasesS s K n).1 = s1 := ⟨_, rfl⟩
        rw [hs1] at hlay2 hF
        have m1 := ma.out.stp st (by simp; exact ⟨h2, h2f⟩)
        have i1 := ia.out.stp st (by simp; exact ⟨h3, h3f⟩)
        have N1 := Na.out.stp st (by simp; exact ⟨he1.1, he1.2.2.2⟩)
        have st1 := (sta.out.mono (by simp) : Stp [e, c, cf] _ _ _ _).trans (st.mono (D := [e, c, cf]) (by simp))
        replace hlay2 := Lib.hid hlay2
        replace m1 := Lib.hid m1
        replace i1 := Lib.hid i1
        replace N1 := Lib.hid N1
        replace st1 := Lib.hid st1
        replace hF := Lib.hid hF
        replace hE := Lib.hid hE
        replace hs1 := Lib.hid hs1
        replace hin := Lib.hid hin
        replace st := Lib.hid st
        go_wp2_with fail
        obtain ⟨w1, hw1⟩ : ∃ w1, wr = w1 := ⟨_, rfl⟩
        subst hw1
        go_loopw [19] (XlP wr o1 c cf p vP vs s1 K n m) (fun x _ => n - (intOf x).toNat)
        case atStart => exact ⟨0, o1, rfl, Nat.zero_le _, Stp.refl _ _ _, hF.out, rfl⟩
        case round =>
          obtain ⟨q, o2, rfl, hq, st2, hF2, hE2⟩ := hrel
          by_cases hlt2 : q < n
          · have g5 : decide ((q : Int) < (n : Int)) = true := decide_eq_true (by omega)
            obtain ⟨km, hkm⟩ : ∃ km, K + q = km := ⟨_, rfl⟩
            obtain ⟨a, ha⟩ : ∃ a, q * 64 = a := ⟨_, rfl⟩
            obtain ⟨a2, ha2⟩ : ∃ a2, (q + 1) * 64 = a2 := ⟨_, rfl⟩
            obtain ⟨hi2, hhi⟩ : ∃ hi2, min a2 m.length = hi2 := ⟨_, rfl⟩
            have hkI : (K : Int) + (q : Int) = (km : Int) := by omega
            have haI : (q : Int) * 64 = (a : Int) := by omega
            have ha2I : ((q : Int) + 1) * 64 = (a2 : Int) := by omega
            have hqb : (0 : Int) ≤ (q : Int) ∧ (q : Int) < 20000 := by omega
            have hcs : (a2 < m.length ∧ hi2 = a2) ∨ (¬ a2 < m.length ∧ hi2 = m.length) := by omega
            have hah : a ≤ hi2 ∧ hi2 ≤ m.length := by omega
            have mm := m1.out.stp st2 (by simp; exact ⟨h2, h2f⟩)
            have rP := part_rd mm (i := q) (by omega)
            rw [ha, ha2, hhi] at rP
            have hcall := xprog_calls c cf p vP vs (progsB s1 K m q).1 (km : Int) c2 (partV A capA a hi2) (partB m q) wr o2 hF2 rP h2 h2f
            have hnx : progsB s1 K m (q + 1) = (progS (progsB s1 K m q).1 (km : Int) (partB m q), progE (progsB s1 K m q).1 (km : Int) (partB m q)) := by rw [progsB, if_pos hE2, hkm]
            have hE1 : (progsB s1 K m (q + 1)).2 = progE (progsB s1 K m q).1 (km : Int) (partB m q) := by rw [hnx]
            have hF1 : (progsB s1 K m (q + 1)).1 = progS (progsB s1 K m q).1 (km : Int) (partB m q) := by rw [hnx]
            rw [← hE1, ← hF1] at hcall
            have hstuck := fun x => progsB_stuck s1 K m (i := q + 1) x n (by omega)
            obtain ⟨U, hU⟩ : ∃ U, progsB s1 K m (q + 1) = U := ⟨_, rfl⟩
            rw [hU] at hcall hstuck hnx hE1 hF1
            replace hkm := Lib.hid hkm
            replace ha := Lib.hid ha
            replace ha2 := Lib.hid ha2
            replace hhi := Lib.hid hhi
            replace hnx := Lib.hid hnx
            replace hE1 := Lib.hid hE1
            replace hF1 := Lib.hid hF1
            replace hF2 := Lib.hid hF2
            replace hE2 := Lib.hid hE2
            replace st2 := Lib.hid st2
            replace mm := Lib.hid mm
            replace rP := Lib.hid rP
            replace hcall := Lib.hid hcall
            replace hstuck := Lib.hid hstuck
            rcases hcs with ⟨q1, q2⟩ | ⟨q1, q2⟩
            all_goals subst q2
            · have g3 : decide ((hi2 : Int) < (m.length : Int)) = true := decide_eq_true (by omega)
              have g6 : (hi2 : Int) < (m.length : Int) := by omega
              go_wp2_with (refine holdAt 127 ?_)
              apply Hold.mk
              refine slcX _ _ _ rfl rfl a hi2 rfl rfl rfl hah.1 hah.2 hlc ?_
              obtain ⟨V, hV⟩ : ∃ V, partV A capA a hi2 = V := ⟨_, rfl⟩
              have hc := hcall.out
              rw [hV] at hc ⊢
              replace hV := Lib.hid hV
              by_cases hz : U.2 = 0
              · have g7 : (U.2 != 0) = false := by simp [hz]
                have hz' := Lib.hid hz
                clear hz
                go_wp2_with fail
                refine hc.mono ?_
                clear hc
                rintro ex w6' ⟨r, o6, rfl, s6, rfl, F6⟩
                have st6' := Lib.hid (st2.out.trans (s6.mono (D := [c, cf]) (by simp)))
                replace F6 := Lib.hid F6
                clear s6
                go_wp2
                go_roundw
                case rel => exact ⟨q + 1, o6, by go_num, by omega, st6'.out, by rw [hU]; exact F6.out, by rw [hU]; exact hz'.out⟩
                case measure => simp [intOf]; omega
              · have g7 : (U.2 != 0) = true := by simp [hz]
                have hend : LS = U := bk_.out U hz (by rw [hlay2.out, hstuck.out hz])
                replace hend := Lib.hid hend
                replace hz := Lib.hid hz
                go_wp2_with fail
                refine hc.mono ?_
                clear hc
                rintro ex w6' ⟨r, o6, rfl, s6, rfl, F6⟩
                have st6' := Lib.hid (st1.out.trans ((st2.out.trans (s6.mono (D := [c, cf]) (by simp))).mono (D := [e, c, cf]) (by simp)))
                replace F6 := Lib.hid F6
                clear s6
                go_wp2
                go_ret
                exact Post.mk (st6'.out.drop hef) ⟨by rw [hend.out]; rfl, by rw [hend.out]; exact F6.out⟩
            · have g3 : decide ((a2 : Int) < (m.length : Int)) = false := decide_eq_false (by omega)
              have g6 : (m.length : Int) ≤ (a2 : Int) := by omega
              go_wp2_with (refine holdAt 127 ?_)
              apply Hold.mk
              refine slcX _ _ _ rfl rfl a m.length rfl rfl rfl hah.1 hah.2 hlc ?_
              obtain ⟨V, hV⟩ : ∃ V, partV A capA a m.length = V := ⟨_, rfl⟩
              have hc := hcall.out
              rw [hV] at hc ⊢
              replace hV := Lib.hid hV
              by_cases hz : U.2 = 0
              · have g7 : (U.2 != 0) = false := by simp [hz]
                have hz' := Lib.hid hz
                clear hz
                go_wp2_with fail
                refine hc.mono ?_
                clear hc
                rintro ex w6' ⟨r, o6, rfl, s6, rfl, F6⟩
                have st6' := Lib.hid (st2.out.trans (s6.mono (D := [c, cf]) (by simp)))
                replace F6 := Lib.hid F6
                clear s6
                go_wp2
                go_roundw
                case rel => exact ⟨q + 1, o6, by go_num, by omega, st6'.out, by rw [hU]; exact F6.out, by rw [hU]; exact hz'.out⟩
                case measure => simp [intOf]; omega
              · have g7 : (U.2 != 0) = true := by simp [hz]
                have hend : LS = U := bk_.out U hz (by rw [hlay2.out, hstuck.out hz])
                replace hend := Lib.hid hend
                replace hz := Lib.hid hz
                go_wp2_with fail
                refine hc.mono ?_
                clear hc
                rintro ex w6' ⟨r, o6, rfl, s6, rfl, F6⟩
                have st6' := Lib.hid (st1.out.trans ((st2.out.trans (s6.mono (D := [c, cf]) (by simp))).mono (D := [e, c, cf]) (by simp)))
                replace F6 := Lib.hid F6
                clear s6
                go_wp2
                go_ret
                exact Post.mk (st6'.out.drop hef) ⟨by rw [hend.out]; rfl, by rw [hend.out]; exact F6.out⟩
          · have hjn : q = n := by omega
            have g5 : decide ((q : Int) < (n : Int)) = false := decide_eq_false (by omega)
            rw [hjn, ← hlay2.out] at hF2 hE2
            have hv2 : LS = saveS LY.1 (recB NB) := by rw [hv.out, if_neg (by rw [hE2]; simp)]
            have i2' := i1.out.stp st2 (by simp; exact ⟨h3, h3f⟩)
            have N2 := N1.out.stp st2 (by simp; exact ⟨he1.1, he1.2.2.2⟩)
            have st3 := st1.out.trans (st2.mono (D := [e, c, cf]) (by simp))
            have hall := N2.all
            have hCNi := xstateInfo (vm := .slice Ai mind.length capI) N2.sum
            have hrc := xrecord_calls c3 d NB (.slice Ai mind.length capI) wr o2 (by rw [hFm.out]; exact i2') N2.sum (by have := hFn.out; omega) (by rw [hFm.out]; omega)
            obtain ⟨CN, hCN⟩ : ∃ CN, cellsBS NB (.slice Ai mind.length capI) = CN := ⟨_, rfl⟩
            obtain ⟨RC, hRC⟩ : ∃ RC, recB NB = RC := ⟨_, rfl⟩
            rw [hCN] at hall hCNi hrc
            rw [hRC] at hrc hv2
            replace hv2 := Lib.hid hv2
            replace hall := Lib.hid hall
            replace hCNi := Lib.hid hCNi
            replace hCN := Lib.hid hCN
            replace hRC := Lib.hid hRC
            replace i2' := Lib.hid i2'
            replace N2 := Lib.hid N2
            replace st3 := Lib.hid st3
            replace hF2 := Lib.hid hF2
            replace hE2 := Lib.hid hE2
            replace st2 := Lib.hid st2
            replace hjn := Lib.hid hjn
            go_wp2_with (refine list_load rfl 72 _ rfl ⟨B, 0, none⟩ rfl CN _ hall.out Try.underlying72 rfl hCNi.out ?_)
            refine hrc.mono ?_
            clear hrc
            rintro ex w9' ⟨r, o9, rfl, s9, q9⟩
            obtain ⟨A9, cap9, rfl⟩ := Own.shape q9
            have F9 := hF2.out.stp s9 (by simp) (by simp)
            have st9' := st3.out.trans s9.none
            have hsv := xsave_calls c cf d p vP vs LY.1 _ RC w9' o9 F9 (OwnB.rd q9) hd1.1 hd1.2.2.2.1 hcf
            rw [← hv2.out] at hsv
            replace q9 := Lib.hid q9
            replace F9 := Lib.hid F9
            replace st9' := Lib.hid st9'
            clear s9
            go_wp2_with fail
            refine hsv.mono ?_
            clear hsv
            rintro ex wz ⟨r, oz, rfl, sz, rfl, fz⟩
            have stz := Lib.hid (st9'.out.trans (sz.mono (D := [e, c, cf]) (by simp)))
            replace fz := Lib.hid fz
            clear sz
            go_wp2
            go_ret
            exact Post.mk (stz.out.drop hef) ⟨rfl, fz.out⟩
end Go.Proofs.Ytpjnmijfmfgdpaa
