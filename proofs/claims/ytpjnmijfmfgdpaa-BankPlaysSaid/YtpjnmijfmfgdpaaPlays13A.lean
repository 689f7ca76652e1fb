/- BankPlays: acts, what the law calls, the walk. Made of ActsN, Plays13 and Plays13W. -/
import Derived.Test.YtpjnmijfmfgdpaaRead
import Derived.Test.YtpjnmijfmfgdpaaBankQR
import Derived.Stop.BytesEq
import Derived.Test.YtpjnmijfmfgdpaaBankV
import Derived.Test.YtpjnmijfmfgdpaaBankH
import Derived.Test.YtpjnmijfmfgdpaaRef11c
import Derived.Deep.RegionHeldLaw
namespace Go.Proofs.Ytpjnmijfmfgdpaa
set_option linter.unusedVariables false
set_option linter.unusedSimpArgs false
section
open Go.ChangeShapes Go.WideShapes Go.ChangeAt Go.RowKit Go.Deep

/-- An act: its six cells; what its rows of bytes read as. -/
structure ActN where
  kind : Int
  name : List UInt8
  vb : Value
  b : List UInt8
  n : Int
  vm : Value
  m : List UInt8
  tear : Int
def ActN.cells (a : ActN) : List Value := [.int .i64 a.kind, .string ⟨a.name.toArray⟩, a.vb, .int .i64 a.n, a.vm, .int .i64 a.tear]
/-- A row of acts that is read: colour c. -/
structure ActsN (w : World) (o : Col) (c : Nat) (v : Value) (l : List ActN) : Prop where
  is : ∃ A cap, v = .slice A l.length cap ∧ l.length ≤ cap ∧ l.length ≤ 9223372036854775807 ∧ (0 < l.length → ∃ a, A = some a ∧ o a.block = c ∧ ∀ (k : Nat) (x : ActN), l[k]? = some x → ∀ (j : Nat) (u : Value), x.cells[j]? = some u → w.cell? (a.add (k * 6 + j)) = some u)
  byt : ∀ x ∈ l, RdB w o c x.vb x.b ∧ RdB w o c x.vm x.m ∧ x.n ≤ 9223372036854775807
theorem ActsN.stp {C : List Nat} {w w1 : World} {o o1 : Col} {c : Nat} {v : Value} {l : List ActN} (h : ActsN w o c v l) (hs : Stp C w o w1 o1) (hn : c ∉ C) : ActsN w1 o1 c v l := by
  obtain ⟨⟨A, cap, h1, h2, h3, h4⟩, h5⟩ := h
  refine ⟨⟨A, cap, h1, h2, h3, fun h0 => ?_⟩, fun x hx => ⟨(h5 x hx).1.stp hs hn, (h5 x hx).2.1.stp hs hn, (h5 x hx).2.2⟩⟩
  obtain ⟨a, e, ha, hc⟩ := h4 h0
  have hcell := hc 0 l[0] (by simp [h0]) 0 _ rfl
  rw [show a.add (0 * 6 + 0) = a from rfl] at hcell
  exact ⟨a, e, (hs.colc hcell).trans ha, fun k x hk j u hu => hs.cell (hc k x hk j u hu) (by rw [add_block, ha]; exact hn)⟩

theorem six_of {α : Type} {l : List α} (h : l.length = 6) : ∃ a b c d e f, l = [a, b, c, d, e, f] := by
  rcases l with _ | ⟨a, _ | ⟨b, _ | ⟨c, _ | ⟨d, _ | ⟨e, _ | ⟨f, _ | ⟨g, t⟩⟩⟩⟩⟩⟩⟩
  · cases h
  · cases h
  · cases h
  · cases h
  · cases h
  · cases h
  · exact ⟨a, b, c, d, e, f, rfl⟩
  · simp at h
section
variable {H : Type} {enc : TypeId × Value → H} {W : World} {fuel : Nat} {v : Value} {x : DataW H × List MemPlace}
theorem read_actN {n : Nat} {cs : List Value} {y : DataW H × List MemPlace} (h : DataW.trod enc Try.prog W 0 (fun _ => true) true n 70 cs = some y) :
    ∃ a : ActN, cs = a.cells ∧ RdB W (fun _ => 0) 0 a.vb a.b ∧ RdB W (fun _ => 0) 0 a.vm a.m ∧ a.n ≤ 9223372036854775807 := by
  obtain ⟨xs, m, _, _, hl, hxl, hf⟩ := DataW.trod_struct Try.underlying70 h
  have hC : Try.prog.cellsOf 70 = 6 := by kernel_rfl
  rw [hC] at hl
  obtain ⟨v0, v1, v2, v3, v4, v5, rfl⟩ : ∃ v0 v1 v2 v3 v4 v5, cs = [v0, v1, v2, v3, v4, v5] := six_of hl
  have hi : Try.prog.cellsOf 3 = 1 := by kernel_rfl
  have hb : Try.prog.cellsOf 22 = 1 := by kernel_rfl
  have hsg : Try.prog.cellsOf 9 = 1 := by kernel_rfl
  have ho : xs.length = 6 := hxl
  obtain ⟨x0, x1, x2, x3, x4, x5, rfl⟩ := six_of ho
  have fld : ∀ (i : Nat) (F : Field) (t : TypeId), _ → F.type = t → F.offset = i → Try.prog.cellsOf t = 1 → DataW.trod enc Try.prog W 0 (fun _ => true) true m t (([v0, v1, v2, v3, v4, v5].drop i).take 1) = [x0, x1, x2, x3, x4, x5][i]? := fun i F t hF ht ho hc => by
    have := hf i F hF
    rw [ht, ho, hc] at this
    exact this
  have f0 := fld 0 _ 3 rfl rfl rfl hi
  have f1 := fld 1 _ 9 rfl rfl rfl hsg
  have f2 := fld 2 _ 22 rfl rfl rfl hb
  have f3 := fld 3 _ 3 rfl rfl rfl hi
  have f4 := fld 4 _ 22 rfl rfl rfl hb
  have f5 := fld 5 _ 3 rfl rfl rfl hi
  obtain ⟨a0, e0, _, w0⟩ := DataW.trod_int Try.underlying3 f0
  obtain ⟨a1, e1, _⟩ := DataW.trod_string Try.underlying9 f1
  obtain ⟨l2, h2⟩ := read_bytes f2
  obtain ⟨a3, e3, _, w3⟩ := DataW.trod_int Try.underlying3 f3
  obtain ⟨l4, h4⟩ := read_bytes f4
  obtain ⟨a5, e5, _, w5⟩ := DataW.trod_int Try.underlying3 f5
  simp at e0 e1 e3 e5
  subst e0 e1 e3 e5
  refine ⟨⟨a0, a1.data.toList, v2, l2, a3, v4, l4, a5⟩, ?_, h2, h4, ?_⟩
  · show _ = [_, Value.string ⟨a1.data.toList.toArray⟩, _, _, _, _]
    simp
  · have h1 : IntKind.i64.min ≤ a3 ∧ a3 ≤ IntKind.i64.max := by simpa [Lit.wf] using w3
    exact h1.2
theorem read_actsN (h : DataW.trod enc Try.prog W 0 (fun _ => true) true fuel 67 [v] = some x) : ∃ l, ActsN W (fun _ => 0) 0 v l := by
  rcases open_slice Try.underlying67 h with ⟨hcs, _⟩ | ⟨a, len, cap, m, n, D, Pl, hcs, hb, hl, hm, hmm, hx, hi⟩
  · injection hcs with hcs
    subst hcs
    exact ⟨[], ⟨none, 0, rfl, by simp, by simp, by simp⟩, by simp⟩
  · injection hcs with hcs
    subst hcs
    simp only [if_true] at hmm
    subst hmm
    simp only [maxLen] at hm
    have hC : Try.prog.cellsOf 70 = 6 := by kernel_rfl
    have key : ∀ k, k < m → ∃ x : ActN, (∀ (j : Nat) (u : Value), x.cells[j]? = some u → W.cell? (a.add (k * 6 + j)) = some u) ∧ RdB W (fun _ => 0) 0 x.vb x.b ∧ RdB W (fun _ => 0) 0 x.vm x.m ∧ x.n ≤ 9223372036854775807 := by
      intro k hk
      obtain ⟨cs', h1, h2⟩ := hi k hk
      rw [hC] at h1
      obtain ⟨y, rfl, h3, h4⟩ := read_actN h2
      obtain ⟨_, _, h5⟩ := World.cells?_some h1
      refine ⟨y, fun j u hu => ?_, h3, h4⟩
      have hj := (List.getElem?_eq_some_iff.1 hu).1
      rw [← add_add, h5 j (by simpa [ActN.cells] using hj)]
      exact hu
    have list : ∀ n, n ≤ m → ∃ l : List ActN, l.length = n ∧ ∀ (k : Nat) (x : ActN), l[k]? = some x → (∀ (j : Nat) (u : Value), x.cells[j]? = some u → W.cell? (a.add (k * 6 + j)) = some u) ∧ RdB W (fun _ => 0) 0 x.vb x.b ∧ RdB W (fun _ => 0) 0 x.vm x.m ∧ x.n ≤ 9223372036854775807 := by
      intro n
      induction n with
      | zero => exact fun _ => ⟨[], rfl, by simp⟩
      | succ n ih =>
        intro hn
        obtain ⟨l, h1, h2⟩ := ih (by omega)
        obtain ⟨y, hy⟩ := key n (by omega)
        refine ⟨l ++ [y], by simp [h1], fun k x hk => ?_⟩
        by_cases hkl : k < l.length
        · rw [List.getElem?_append_left hkl] at hk
          exact h2 k x hk
        · rw [List.getElem?_append_right (by omega)] at hk
          have hk0 : k - l.length = 0 := by
            have := (List.getElem?_eq_some_iff.1 hk).1
            simp at this
            omega
          rw [hk0] at hk
          simp only [List.getElem?_cons_zero, Option.some.injEq] at hk
          subst hk
          have : k = n := by omega
          subst this
          exact hy
    obtain ⟨l, h1, h2⟩ := list len hl
    refine ⟨l, ⟨some a, m, by rw [h1], by omega, by omega, fun h0 => ⟨a, rfl, rfl, fun k x hk => (h2 k x hk).1⟩⟩, fun x hx => ?_⟩
    obtain ⟨k, hk, rfl⟩ := List.getElem_of_mem hx
    exact (h2 k _ (by simp [hk])).2
end
end
section
open Go.RowKit

/-- What the loop of 'long' keeps. -/
def LgN (w0 : World) (n : Nat) (x y : Value) (wr : World) : Prop := ∃ (k : Nat) (z : Int), y = .int .i64 k ∧ k ≤ n ∧ x = .int .i64 z ∧ ∃ m, wr = w0.drewN m
set_option maxHeartbeats 1000000 in
set_option maxRecDepth 100000 in
theorem long13_calls (c : Nat) (v : Value) (l : List ActN) (w : World) (o : Col) (h : ActsN w o c v l) : Calls Try.prog 40 #[v] w fun e w' => ∃ b m, e = .returned (.bool b) ∧ w' = w.drewN m := by
  obtain ⟨⟨A, cap, rfl, hl, hb, hc⟩, hby⟩ := h
  go_enter Try.func40, Try.ntmps40
  go_wp2_with fail
  go_loopw [3, 4] (LgN w l.length) (fun _ y _ => l.length - (intOf y).toNat)
  case atStart => exact ⟨0, 0, rfl, Nat.zero_le _, rfl, 0, rfl⟩
  case round =>
    obtain ⟨k, z, rfl, hk, rfl, mm, rfl⟩ := hrel
    by_cases hlt : k < l.length
    · by_cases hk80 : k < 16
      · obtain ⟨a, rfl, _, hcell⟩ := hc (by omega)
        obtain ⟨x, hx⟩ : ∃ x, l[k]? = some x := ⟨l[k], by simp [hlt]⟩
        have hc1 := hcell k x hx 1 _ rfl
        have hc2 := hcell k x hx 2 _ rfl
        have hc4 := hcell k x hx 4 _ rfl
        obtain ⟨A2, cap2, hvb, _, _⟩ := (hby x (List.mem_of_getElem? hx)).1.shape
        obtain ⟨A4, cap4, hvm, _, _⟩ := (hby x (List.mem_of_getElem? hx)).2.1.shape
        rw [← add_add, show (a.add (k * 6)).add 1 = ⟨(a.add (k * 6)).block, (a.add (k * 6)).off + 1, none⟩ from rfl] at hc1
        rw [hvb, ← add_add, show (a.add (k * 6)).add 2 = ⟨(a.add (k * 6)).block, (a.add (k * 6)).off + 2, none⟩ from rfl] at hc2
        rw [hvm, ← add_add, show (a.add (k * 6)).add 4 = ⟨(a.add (k * 6)).block, (a.add (k * 6)).off + 4, none⟩ from rfl] at hc4
        have g1 : decide ((k : Int) < (l.length : Int)) = true := decide_eq_true (by omega)
        have g2 : decide ((k : Int) < 16) = true := decide_eq_true (by omega)
        have g3 : (0 : Int) ≤ (k : Int) ∧ (k : Int) < (l.length : Int) := by omega
        obtain ⟨Z, hZ⟩ : ∃ Z, wrap64 (wrap64 (wrap64 (wrap64 (z + 1) + (x.name.length : Int)) + (x.b.length : Int)) + (x.m.length : Int)) = Z := ⟨_, rfl⟩
        clear hcell hc hby hvb hvm
        replace hc1 : ∀ q, (w.drewN q).cell? ⟨(a.add (k * 6)).block, (a.add (k * 6)).off + 1, none⟩ = some (.string ⟨x.name.toArray⟩) := fun _ => hc1
        replace hc2 : ∀ q, (w.drewN q).cell? ⟨(a.add (k * 6)).block, (a.add (k * 6)).off + 2, none⟩ = some (.slice A2 x.b.length cap2) := fun _ => hc2
        replace hc4 : ∀ q, (w.drewN q).cell? ⟨(a.add (k * 6)).block, (a.add (k * 6)).off + 4, none⟩ = some (.slice A4 x.m.length cap4) := fun _ => hc4
        by_cases hbig : 12000 < Z
        · go_wp2_with fail
          go_quiet (fail)
          go_wp2
          go_ret
          exact ⟨true, _, rfl, rfl⟩
        · have hbig2 : decide (12000 < Z) = false := decide_eq_false hbig
          go_wp2_with fail
          go_quiet (fail)
          go_wp2
          go_roundw
          case rel => exact ⟨k + 1, Z, by go_num, by omega, by rw [← hZ], _, rfl⟩
          case measure => simp [intOf]; omega
      · have g1 : decide ((k : Int) < (l.length : Int)) = true := decide_eq_true (by omega)
        have g2 : decide ((k : Int) < 16) = false := decide_eq_false (by omega)
        go_wp2
        go_ret
        exact ⟨false, _, rfl, rfl⟩
    · have g1 : decide ((k : Int) < (l.length : Int)) = false := decide_eq_false (by omega)
      go_wp2
      go_ret
      exact ⟨false, _, rfl, rfl⟩

theorem list_loadG {w : World} {ops : Array Oper} {rest : List Oper} {op : Oper} {a : Act} {Q : Exit → Act → World → Prop} (hgd : Region.wanted op (yielded ops a.tmps) = true) (ty : TypeId) (x : Operand) (ho : op.op = .load ty x) (ad : Addr) (hx : a.eval x = .pointer (some ad)) (cs : List Value) (d : TypeDesc)
    (hc : ∀ (j : Nat) (u : Value), cs[j]? = some u → w.cell? (ad.add j) = some u) (hu : Try.prog.underlying ty = some d) (hd : d.isRow = true) (hi : (Try.prog.info? ty).map (·.size) = some cs.length) (h : wpList Try.prog ops Q rest (a.put op.dst (.agg cs.toArray)) w) : wpList Try.prog ops Q (op :: rest) a w :=
  wpList_w hgd fun _ hK => wp_load_cells ty x ho ad hx cs d hc hu hd hi (hK _ _ h)
theorem range_add {w : World} {g k : Nat} {cs : List Value} (h : w.rangeAt g k cs) (j : Nat) (u : Value) (hu : cs[j]? = some u) : w.cell? ((⟨g, k, none⟩ : Addr).add j) = some u := by rw [Addr.add_lit]; exact h j u hu
set_option maxHeartbeats 4000000 in
set_option maxRecDepth 100000 in
theorem same13_calls (c : Nat) (t : BS) (v1 v2 : Value) (w : World) (o : Col) (h1 : RdB w o c v1 t.mind) (h2 : RdB w o c v2 t.mind) (hs : t.sum.length = 32) :
    Calls Try.prog 45 #[.agg (cellsBS t v1).toArray, .agg (cellsBS t v2).toArray] w (Post [] w o fun r _ _ => r = .bool true) := by
  obtain ⟨A1, cap1, rfl, _, _⟩ := h1.shape
  obtain ⟨A2, cap2, rfl, _, _⟩ := h2.shape
  obtain ⟨e, he1, _, hef⟩ := fresh o w.heap.size [c]
  have SB := Sb.new w o e t (.slice A1 t.mind.length cap1) hs
  have s1 : Stp [] w o (w.alloc (.cells (cellsBS t (.slice A1 t.mind.length cap1)).toArray 59)) (paint o w.heap.size e) := (Stp.refl [] w o).alloc _ e
  have a1 := h1.stp s1 (by simp)
  have a2 := h2.stp s1 (by simp)
  obtain ⟨V1, hV1⟩ : ∃ V, (cellsBS t (.slice A1 t.mind.length cap1)).toArray = V := ⟨_, rfl⟩
  rw [hV1] at SB s1 a1 a2 ⊢
  obtain ⟨w1, hw1⟩ : ∃ w1, w.alloc (.cells V1 59) = w1 := ⟨_, rfl⟩
  obtain ⟨o1, ho1⟩ : ∃ o1, paint o w.heap.size e = o1 := ⟨_, rfl⟩
  obtain ⟨B, hB⟩ : ∃ B, w.heap.size = B := ⟨_, rfl⟩
  rw [hw1, ho1] at SB s1 a1 a2
  rw [hB] at SB
  have XB := Xb.new w1 o1 e t (.slice A2 t.mind.length cap2) hs
  have s2 : Stp [] w1 o1 (w1.alloc (.cells (cellsBS t (.slice A2 t.mind.length cap2)).toArray 72)) (paint o1 w1.heap.size e) := (Stp.refl [] w1 o1).alloc _ e
  have b1 := a1.stp s2 (by simp)
  have b2 := a2.stp s2 (by simp)
  have SB2 := SB.stp s2 (by simp)
  obtain ⟨V2, hV2⟩ : ∃ V, (cellsBS t (.slice A2 t.mind.length cap2)).toArray = V := ⟨_, rfl⟩
  rw [hV2] at XB s2 b1 b2 SB2 ⊢
  obtain ⟨w2, hw2⟩ : ∃ w2, w1.alloc (.cells V2 72) = w2 := ⟨_, rfl⟩
  obtain ⟨o2, ho2⟩ : ∃ o2, paint o1 w1.heap.size e = o2 := ⟨_, rfl⟩
  have hsz1 : w1.heap.size = B + 1 := by rw [← hw1, World.size_alloc, hB]
  obtain ⟨X, hX⟩ : ∃ X, B + 1 = X := ⟨_, rfl⟩
  rw [hw2, ho2] at XB s2 b1 b2 SB2
  rw [hsz1, hX] at XB
  have st := s1.trans s2
  have cv1 := convBS b1 rfl
  have cv2 := convBS b2 rfl
  have x0 := SB2.c0
  have x1 := SB2.c1
  have x34 := SB2.c34
  have x35 := SB2.c35
  have x36 := SB2.c36
  have y0 := XB.c0
  have y1 := XB.c1
  have y34 := XB.c34
  have y35 := XB.c35
  have y36 := XB.c36
  have rg1 := SB2.range
  have rg2 := XB.range
  have hi57 : (Try.prog.info? 57).map (·.size) = some (vbs t.sum).length := by
    rw [vbs_length, hs]
    kernel_rfl
  have heq : (Op.equalIn 10000 57 (.agg (vbs t.sum).toArray) (.agg (vbs t.sum).toArray)).run Try.prog w2 = .ok true w2 := by
    have := run_equalIn_bytes (P := Try.prog) w2 9998 57 5 32 Try.underlying57 Try.underlying5 sizeU8 t.sum t.sum hs hs
    rw [beq_self_eq_true] at this
    exact this
  obtain ⟨HS, hHS⟩ : ∃ HS, vbs t.sum = HS := ⟨_, rfl⟩
  rw [hHS] at rg1 rg2 hi57 heq
  replace rg1 := Lib.hid rg1
  replace rg2 := Lib.hid rg2
  replace hi57 := Lib.hid hi57
  replace hHS := Lib.hid hHS
  replace hV1 := Lib.hid hV1
  replace hV2 := Lib.hid hV2
  replace hw1 := Lib.hid hw1
  replace hw2 := Lib.hid hw2
  replace ho1 := Lib.hid ho1
  replace ho2 := Lib.hid ho2
  replace hB := Lib.hid hB
  replace hX := Lib.hid hX
  replace hsz1 := Lib.hid hsz1
  replace SB := Lib.hid SB
  replace SB2 := Lib.hid SB2
  replace XB := Lib.hid XB
  replace a1 := Lib.hid a1
  replace a2 := Lib.hid a2
  replace b1 := Lib.hid b1
  replace b2 := Lib.hid b2
  replace h1 := Lib.hid h1
  replace h2 := Lib.hid h2
  replace s1 := Lib.hid s1
  replace s2 := Lib.hid s2
  replace st := Lib.hid st
  replace hs := Lib.hid hs
  obtain ⟨TB, hTB⟩ : ∃ x, t.bank = x := ⟨_, rfl⟩
  obtain ⟨TZ, hTZ⟩ : ∃ x, t.size = x := ⟨_, rfl⟩
  obtain ⟨TC, hTC⟩ : ∃ x, t.counter = x := ⟨_, rfl⟩
  obtain ⟨TN, hTN⟩ : ∃ x, (⟨t.name.toArray⟩ : ByteArray) = x := ⟨_, rfl⟩
  rw [hTB] at x0 y0
  rw [hTZ] at x1 y1
  rw [hTC] at x34 y34
  rw [hTN] at x35 y35
  replace hTB := Lib.hid hTB
  replace hTZ := Lib.hid hTZ
  replace hTC := Lib.hid hTC
  replace hTN := Lib.hid hTN
  go_enter Try.func45, Try.ntmps45
  go_wp2_with (refine holdAt 5 ?_)
  apply Hold.mk
  rw [hw1.out, hB.out, hX.out, hw2.out]
  go_wp2_with (first
    | (refine list_loadG rfl 57 _ rfl ⟨B, 2, none⟩ rfl HS _ (range_add rg1.out) Try.underlying57 rfl hi57.out ?_)
    | (refine list_loadG rfl 57 _ rfl ⟨X, 2, none⟩ rfl HS _ (range_add rg2.out) Try.underlying57 rfl hi57.out ?_))
  go_ret
  exact Post.mk st.out rfl
end
section
open Go.RowKit

/-- What an act makes of a flash. -/
def actN (s : FS) (x : ActN) : FS := if x.kind = 1 then (installS s x.name x.b x.n x.m).1 else if x.kind = 2 then (keepS s x.m).1 else if x.kind = 3 then fuseS s x.n x.tear else bootS s
/-- What the loop of BankPlays keeps. -/
def PnR (w0 : World) (o0 : Col) (C : List Nat) (cx ex p g cap px : Nat) (vP : Value) (vs : List Value) (n : Nat) (x : Value) (wr : World) : Prop :=
  ∃ (k : Nat) (o' : Col) (s : FS), x = .int .i64 k ∧ k ≤ n ∧ Stp C w0 o0 wr o' ∧ Fl wr o' 1 p g cap s ∧ XFl wr o' cx ex px vP vs s
def PnI (w0 : World) (o0 : Col) (n : Nat) (x : Value) (wr : World) : Prop := ∃ (k : Nat) (o' : Col), x = .int .i64 k ∧ k ≤ n ∧ Stp [] w0 o0 wr o'
def zeroAct : List Value := [.int .i64 0, .string ⟨#[]⟩, .slice none 0 0, .int .i64 0, .slice none 0 0, .int .i64 0]
set_option maxHeartbeats 16000000 in
set_option maxRecDepth 100000 in
theorem plays13_law (n : Int) (v : Value) (l : List ActN) (w : World) (_hn : (Lit.int .i64 n).wf = true) (h : ActsN w (fun _ => 0) 0 v l) : Calls Try.prog 14 #[.int .i64 n, v] w (Post [] w (fun _ => 0) fun r _ _ => r = .bool true) := by
  obtain ⟨⟨A, cap0, rfl, hl, hb, hc⟩, hby⟩ := h
  have hA : ActsN w (fun _ => 0) 0 (.slice A l.length cap0) l := ⟨⟨A, cap0, rfl, hl, hb, hc⟩, hby⟩
  replace hc := Lib.hid hc
  replace hby := Lib.hid hby
  go_enter Try.func14, Try.ntmps14
  go_wp2_with fail
  refine (long13_calls 0 _ l w _ hA).mono ?_
  rintro e w' ⟨b, m, rfl, rfl⟩
  have sD : Stp [] w (fun _ => 0) (w.drewN m) (fun _ => 0) := (Stp.refl [] w _).drewN m
  obtain ⟨wd, hwd⟩ : ∃ wd, w.drewN m = wd := ⟨_, rfl⟩
  rw [hwd] at sD ⊢
  replace hwd := Lib.hid hwd
  have hAd := hA.stp sD (by simp)
  cases b with
  | true =>
    go_wp2
    go_ret
    exact Post.mk sD rfl
  | false =>
    by_cases hn30 : 110 < n
    · have g1 : decide (110 < n) = true := decide_eq_true hn30
      go_wp2
      go_ret
      exact Post.mk sD rfl
    · have g1 : decide (110 < n) = false := decide_eq_false hn30
      obtain ⟨N, hN⟩ : ∃ N : Nat, (N : Int) = min (max n 1) 256 := ⟨(min (max n 1) 256).toNat, by omega⟩
      replace sD := Lib.hid sD
      replace hA := Lib.hid hA
      go_wp2_with fail
      refine (new_calls 1 n wd (fun _ => 0) N hN).mono ?_
      rintro e w1 ⟨r, o1, rfl, s1, p, g, cap, rfl, f1⟩
      obtain ⟨cx, hx1, hx2, hx3⟩ := fresh o1 w1.heap.size [0, 1]
      obtain ⟨ex, he1, he2, he3⟩ := fresh o1 w1.heap.size [0, 1, cx]
      simp only [List.mem_cons, List.not_mem_nil, or_false, not_or] at hx1 he1
      obtain ⟨S0, hS0⟩ : ∃ S0, (⟨List.replicate N blankPage, -1, 0, false⟩ : FS) = S0 := ⟨_, rfl⟩
      rw [hS0] at f1
      replace f1 := Lib.hid f1
      go_wp2_with fail
      refine (xnew_calls cx ex n w1 o1 N hN hx3 he3 (fun e => he1.2.2 e.symm)).mono ?_
      rintro e w2 ⟨r, o2, rfl, s2, px, vP, vs, rfl, x2⟩
      rw [hS0] at x2
      have f2 := Lib.hid (f1.out.stp s2 (by simp))
      have st := Lib.hid (sD.out.trans (s1.trans s2))
      have A2 := Lib.hid (hAd.stp (s1.trans s2) (by simp))
      replace x2 := Lib.hid x2
      replace hx1 := Lib.hid hx1
      replace he1 := Lib.hid he1
      replace hN := Lib.hid hN
      clear s1 s2 hS0 f1 hx3 he3 hn30 hAd
      go_wp2_with fail
      refine (bpages_calls w2).mono ?_
      rintro e w2 ⟨rfl, rfl⟩
      go_wp2_with fail
      refine (xpages_calls w2).mono ?_
      rintro e w2 ⟨rfl, rfl⟩
      go_wp2_with fail
      go_loopw [7] (PnR w2 o2 [1, cx, ex] cx ex p g cap px vP vs l.length) (fun x _ => l.length - (intOf x).toNat)
      case atStart => exact ⟨0, o2, S0, rfl, Nat.zero_le _, Stp.refl _ _ _, f2.out, x2.out⟩
      case round =>
        obtain ⟨k, o3, s, rfl, hk, hs, f3, x3⟩ := hrel
        have hC0 : ¬ 0 ∈ [1, cx, ex] := by simp; exact ⟨fun e => hx2 e.symm, fun e => he2 e.symm⟩
        have A3 := A2.out.stp hs hC0
        replace hs := Lib.hid hs
        have last : (¬ k < l.length ∨ ¬ k < 16) → Calls Try.prog 37 #[] wr (Post [] w (fun _ => 0) fun r _ _ => r = .bool true) := by
          intro _
          refine (known13_calls wr o3).mono ?_
          rintro e w9 ⟨r, o9, rfl, s9, rfl⟩
          have t := st.out.none.trans (hs.out.trans s9.none)
          exact Post.mk (t.law hC0) rfl
        replace last := Lib.hid last
        by_cases hlt : k < l.length
        · have g2 : decide ((k : Int) < (l.length : Int)) = true := decide_eq_true (by omega)
          by_cases hk80 : k < 16
          · have g3 : decide ((k : Int) < 16) = true := decide_eq_true (by omega)
            have g4 : (0 : Int) ≤ (k : Int) ∧ (k : Int) < (l.length : Int) := by omega
            obtain ⟨⟨A', cap', e1, _, _, hc3⟩, hby3⟩ := A3
            injection e1 with e1 _ cap_eq
            subst e1
            obtain ⟨a, rfl, hab, hcell⟩ := hc3 (by omega)
            obtain ⟨x, hx⟩ : ∃ x, l[k]? = some x := ⟨l[k], by simp [hlt]⟩
            have hcx : ∀ (j : Nat) (u : Value), x.cells[j]? = some u → wr.cell? ((a.add (k * 6)).add j) = some u := fun j u hu => by rw [add_add]; exact hcell k x hx j u hu
            obtain ⟨hbx, hmx, hnx⟩ := hby3 x (List.mem_of_getElem? hx)
            obtain ⟨e9, he9, _, hf9⟩ := fresh o3 wr.heap.size [0, 1, cx, ex]
            simp only [List.mem_cons, List.not_mem_nil, or_false, not_or] at he9
            obtain ⟨kind, name, vb, b, nn, vm, mi, tear⟩ := x
            dsimp only at hbx hnx hmx
            obtain ⟨Ab, capb, rfl, _, _⟩ := hbx.shape
            obtain ⟨Am, capm, rfl, _, _⟩ := hmx.shape
            obtain ⟨CA, hCA⟩ : ∃ CA, ActN.cells ⟨kind, name, .slice Ab b.length capb, b, nn, .slice Am mi.length capm, mi, tear⟩ = CA := ⟨_, rfl⟩
            rw [hCA] at hcx
            have hCAl : CA.length = 6 := by rw [← hCA]; rfl
            have hCAi : (Try.prog.info? 70).map (·.size) = some CA.length := by rw [hCAl]; kernel_rfl
            have hCA1 : CA.toArray.all (·.oneCell') = true := by rw [← hCA]; simp [ActN.cells, Value.oneCell']
            -- the act laid into a block of its own
            have s4 : Stp [e9] wr o3 (wr.alloc (.cells zeroAct.toArray 70)) (paint o3 wr.heap.size e9) := (Stp.refl [e9] wr o3).alloc _ e9
            have hbz : (wr.alloc (.cells zeroAct.toArray 70)).heap[wr.heap.size]? = some (.cells zeroAct.toArray 70 (0, 0)) := heap_alloc_new _ _
            have hbc : paint o3 wr.heap.size e9 wr.heap.size = e9 := paint_at _ _ _
            obtain ⟨w4, hw4⟩ : ∃ w4, wr.alloc (.cells zeroAct.toArray 70) = w4 := ⟨_, rfl⟩
            obtain ⟨o4, ho4⟩ : ∃ o4, paint o3 wr.heap.size e9 = o4 := ⟨_, rfl⟩
            obtain ⟨B, hB⟩ : ∃ B, wr.heap.size = B := ⟨_, rfl⟩
            rw [hw4, ho4] at s4
            rw [hw4, hB] at hbz
            rw [ho4, hB] at hbc
            have s5 : Stp [e9] w4 o4 (w4.setRow B CA.toArray) o4 := setRow_stp (by rw [hbc]; simp) _
            have hb5 := setRow_heap w4 B _ CA.toArray _ _ hbz
            obtain ⟨w5, hw5⟩ : ∃ w5, w4.setRow B CA.toArray = w5 := ⟨_, rfl⟩
            rw [hw5] at s5 hb5
            have sE : Stp [e9] wr o3 w5 o4 := s4.trans s5
            have f5 := f3.stp sE (by simpa using fun x => he9.2.1 x.symm)
            have x5 := x3.stp sE (by simpa using fun x => he9.2.2.1 x.symm) (by simpa using fun x => he9.2.2.2 x.symm)
            have b5 := hbx.stp sE (by simpa using fun x => he9.1 x.symm)
            have m5 := hmx.stp sE (by simpa using fun x => he9.1 x.symm)
            have hsf : Stp [e9, 1, cx, ex] wr o3 w5 o4 := sE.mono (by simp)
            have cl : ∀ j : Nat, w5.cell? ⟨B, j, none⟩ = CA[j]? := fun j => by rw [blk_cell hb5]; simp
            have n1 : ¬ (0 : Nat) ∈ [1] := by simp
            have n2 : ¬ (0 : Nat) ∈ [cx, ex] := by simp; exact ⟨fun e => hx2 e.symm, fun e => he2 e.symm⟩
            have n3 : ¬ 1 ∈ [cx, ex] := by simp; exact ⟨fun e => hx1.out.2 e.symm, fun e => he1.out.2.1 e.symm⟩
            have n4 : ¬ cx ∈ [1] := by simpa using hx1.out.2
            have n5 : ¬ ex ∈ [1] := by simpa using he1.out.2.1
            have n7 : ¬ 1 ∈ [ex] := by simpa using fun e => he1.out.2.1 e.symm
            have n8 : ¬ e9 ∈ [1] := by simpa using he9.2.1
            have n9 : ¬ e9 ∈ [cx, ex] := by simpa using ⟨he9.2.2.1, he9.2.2.2⟩
            have n9x : ¬ e9 ∈ [ex] := by simpa using he9.2.2.2
            have hce : cx ≠ ex := fun e => he1.out.2.2 e.symm
            have q0 : w5.cell? ⟨B, 0, none⟩ = some (.int .i64 kind) := by rw [cl, ← hCA]; rfl
            have q1 : w5.cell? ⟨B, 1, none⟩ = some (.string ⟨name.toArray⟩) := by rw [cl, ← hCA]; rfl
            have q2 : w5.cell? ⟨B, 2, none⟩ = some (.slice Ab b.length capb) := by rw [cl, ← hCA]; rfl
            have q3 : w5.cell? ⟨B, 3, none⟩ = some (.int .i64 nn) := by rw [cl, ← hCA]; rfl
            have q4 : w5.cell? ⟨B, 4, none⟩ = some (.slice Am mi.length capm) := by rw [cl, ← hCA]; rfl
            have q5 : w5.cell? ⟨B, 5, none⟩ = some (.int .i64 tear) := by rw [cl, ← hCA]; rfl
            replace hcx := Lib.hid hcx
            replace hCA := Lib.hid hCA
            replace hCAl := Lib.hid hCAl
            replace hCAi := Lib.hid hCAi
            replace hCA1 := Lib.hid hCA1
            replace s4 := Lib.hid s4
            replace s5 := Lib.hid s5
            replace sE := Lib.hid sE
            replace hbz := Lib.hid hbz
            replace hbc := Lib.hid hbc
            replace hb5 := Lib.hid hb5
            replace hw4 := Lib.hid hw4
            replace hw5 := Lib.hid hw5
            replace ho4 := Lib.hid ho4
            replace hB := Lib.hid hB
            replace f3 := Lib.hid f3
            replace x3 := Lib.hid x3
            replace hbx := Lib.hid hbx
            replace hmx := Lib.hid hmx
            replace f5 := Lib.hid f5
            replace x5 := Lib.hid x5
            replace b5 := Lib.hid b5
            replace m5 := Lib.hid m5
            replace hsf := Lib.hid hsf
            replace n1 := Lib.hid n1
            replace n2 := Lib.hid n2
            replace n3 := Lib.hid n3
            replace n4 := Lib.hid n4
            replace n5 := Lib.hid n5
            replace n7 := Lib.hid n7
            replace n8 := Lib.hid n8
            replace n9 := Lib.hid n9
            replace n9x := Lib.hid n9x
            replace hce := Lib.hid hce
            replace he9 := Lib.hid he9
            replace hf9 := Lib.hid hf9
            replace hab := Lib.hid hab
            replace hx := Lib.hid hx
            clear hcell hc3 hby3 cap_eq cl
            have Q1 := Lib.hid q1
            have Q2 := Lib.hid q2
            have Q3 := Lib.hid q3
            have Q4 := Lib.hid q4
            have Q5 := Lib.hid q5
            go_wp2_with (first | (refine list_load rfl 70 _ rfl (a.add (k * 6)) rfl CA _ hcx.out Try.underlying70 rfl hCAi.out ?_) | (refine holdSt 70 ?_))
            apply Hold.mk
            rw [show wr.alloc (.cells #[.int .i64 0, .string ⟨#[]⟩, .slice none 0 0, .int .i64 0, .slice none 0 0, .int .i64 0] 70) = w4 from hw4.out, hB.out]
            refine wpList_store_row rfl 70 _ _ rfl B CA.toArray rfl rfl 70 _ hbz.out (by rw [hCAi.out]; simp) (by rw [List.size_toArray, List.size_toArray, hCAl.out]; rfl) hCA1.out ?_
            rw [hw5.out]
            by_cases k1 : kind = 1
            · subst k1
              obtain ⟨S', hS'⟩ : ∃ S', (installS s name b nn mi).1 = S' := ⟨_, rfl⟩
              obtain ⟨EE, hEE⟩ : ∃ EE, (installS s name b nn mi).2 = EE := ⟨_, rfl⟩
              have sd : Stp [] w5 o4 w5.drew o4 := (Stp.refl [] w5 o4).drew
              have fd := f5.out.stp sd (by simp)
              have xd := x5.out.stp sd (by simp) (by simp)
              have bd := b5.out.stp sd (by simp)
              have md := m5.out.stp sd (by simp)
              have bl5 := hb5.out
              have bld := sd.blk bl5 (by simp)
              have hcF := fun w' o' (h' : Fl w' o' 1 p g cap s) (h1' : RdB w' o' 0 (.slice Ab b.length capb) b) (h2' : RdB w' o' 0 (.slice Am mi.length capm) mi) => install_calls 1 0 0 p g cap s name b mi _ _ nn w' o' h' h1' h2' (by decide) (by decide)
              have hcX := fun w' o' (h' : XFl w' o' cx ex px vP vs s) (h1' : RdB w' o' 0 (.slice Ab b.length capb) b) (h2' : RdB w' o' 0 (.slice Am mi.length capm) mi) => xinstall_calls cx ex 0 0 px vP vs s name b mi _ _ nn w' o' h' h1' h2' (fun e => hx2 e.symm) (fun e => he2 e.symm) (fun e => hx2 e.symm) (fun e => he2 e.symm) hce.out
              rw [hS', hEE] at hcF hcX
              have hSd := Lib.hid (show w5.drew.cell? ⟨B, 1, none⟩ = some (.string ⟨name.toArray⟩) ∧ w5.drew.cell? ⟨B, 2, none⟩ = some (.slice Ab b.length capb) ∧ w5.drew.cell? ⟨B, 3, none⟩ = some (.int .i64 nn) ∧ w5.drew.cell? ⟨B, 4, none⟩ = some (.slice Am mi.length capm) from ⟨Q1.out, Q2.out, Q3.out, Q4.out⟩)
              have hSe := hSd
              have hSf := hSd
              replace fd := Lib.hid fd
              replace xd := Lib.hid xd
              replace bd := Lib.hid bd
              replace md := Lib.hid md
              replace sd := Lib.hid sd
              replace hcF := Lib.hid hcF
              replace hcX := Lib.hid hcX
              replace hS' := Lib.hid hS'
              replace hEE := Lib.hid hEE
              replace bl5 := Lib.hid bl5
              replace bld := Lib.hid bld
              go_wp2_with fail
              clear q0 q1 q2 q3 q4 q5
              go_region_held_law (fun w' => w'.cell? ⟨B, 1, none⟩ = some (.string ⟨name.toArray⟩) ∧ w'.cell? ⟨B, 2, none⟩ = some (.slice Ab b.length capb) ∧ w'.cell? ⟨B, 3, none⟩ = some (.int .i64 nn) ∧ w'.cell? ⟨B, 4, none⟩ = some (.slice Am mi.length capm)) (first | with_reducible exact hSd.out | with_reducible exact hSe.out | with_reducible exact hSf.out)
                (first
                  | (go_at_call 35
                     refine (hcF.out _ _ fd.out bd.out md.out).mono ?_
                     rintro e wa ⟨ra, oa, rfl, sa, rfl, fN⟩
                     have xC := Lib.hid (xd.out.stp sa n4.out n5.out)
                     have st1 := Lib.hid (sd.out.none.trans (sa.mono (D := [e9, 1, cx, ex]) (by simp)))
                     have bC := Lib.hid (bd.out.stp sa n1.out)
                     have mC := Lib.hid (md.out.stp sa n1.out)
                     have nb : o4 B ∉ [1] := by rw [hbc.out]; exact n8.out
                     have oB : oa B = e9 := (sa.colb bld.out).trans hbc.out
                     have hSe := Lib.hid (show wa.cell? ⟨B, 1, none⟩ = some (.string ⟨name.toArray⟩) ∧ wa.cell? ⟨B, 2, none⟩ = some (.slice Ab b.length capb) ∧ wa.cell? ⟨B, 3, none⟩ = some (.int .i64 nn) ∧ wa.cell? ⟨B, 4, none⟩ = some (.slice Am mi.length capm) from ⟨sa.cell hSd.out.1 nb, sa.cell hSd.out.2.1 nb, sa.cell hSd.out.2.2.1 nb, sa.cell hSd.out.2.2.2 nb⟩)
                     replace oB := Lib.hid oB
                     replace fN := Lib.hid fN
                     clear sa nb)
                  | (go_at_call 42
                     refine (hcX.out _ _ xC.out bC.out mC.out).mono ?_
                     rintro e w6 ⟨rb, o6, rfl, sb, rfl, x6⟩
                     have f6 := Lib.hid (fN.out.stp sb n3.out)
                     have st6 := Lib.hid (hsf.out.trans (st1.out.trans (sb.mono (D := [e9, 1, cx, ex]) (by simp))))
                     have nb : oa B ∉ [cx, ex] := by rw [oB.out]; exact n9.out
                     have hSf := Lib.hid (show w6.cell? ⟨B, 1, none⟩ = some (.string ⟨name.toArray⟩) ∧ w6.cell? ⟨B, 2, none⟩ = some (.slice Ab b.length capb) ∧ w6.cell? ⟨B, 3, none⟩ = some (.int .i64 nn) ∧ w6.cell? ⟨B, 4, none⟩ = some (.slice Am mi.length capm) from ⟨sb.cell hSe.out.1 nb, sb.cell hSe.out.2.1 nb, sb.cell hSe.out.2.2.1 nb, sb.cell hSe.out.2.2.2 nb⟩)
                     replace x6 := Lib.hid x6
                     clear sb nb))
              obtain ⟨BT, hBT⟩ : ∃ BT, bootB S' = BT := ⟨_, rfl⟩
              obtain ⟨BS0, IM, E⟩ := BT
              have hbs := boot_sum S'
              have hb1 := bboot_calls 1 e9 e9 p g cap S' w6 o6 f6.out
              rw [hBT] at hb1 hbs
              dsimp only at hb1 hbs
              have hb2 := fun w' o' (h' : XFl w' o' cx ex px vP vs S') => xbboot_calls cx ex e9 e9 px vP vs S' w' o' h'
              rw [hBT] at hb2
              dsimp only at hb2
              replace hb2 := Lib.hid hb2
              replace hBT := Lib.hid hBT
              replace hbs := Lib.hid hbs
              go_wp2_with fail
              refine hb1.mono ?_
              clear hb1
              rintro e w7 ⟨r, o7, rfl, s7, v7, i7, rfl, b7, r7⟩
              obtain ⟨A7, cap7, rfl⟩ := Own.shape b7
              obtain ⟨Ai7, capi7, rfl, _, _⟩ := r7.shape
              obtain ⟨w8, w9, o9, hw8, hw9, hz8, s9, T9, hi9, hl9, h19⟩ := Sb.lay (w := w7) (o := o7) (e := e9) BS0 (.slice A7 BS0.mind.length cap7) A7 BS0.mind.length cap7 rfl hbs.out
              have f9 := (f6.out.stp s7 (by simp)).stp s9 (by simp)
              have x9 := (x6.out.stp s7 (by simp) (by simp)).stp s9 (by simp) (by simp)
              have b9 := OwnB.stp b7 s9 (by simp)
              have r9 := r7.stp s9 (by simp)
              have st9 := (st6.out.trans s7.none).trans s9.none
              obtain ⟨T, hT⟩ : ∃ T, w7.heap.size = T := ⟨_, rfl⟩
              rw [hT] at hw9 hz8 T9
              obtain ⟨CB, hCB⟩ : ∃ CB, (cellsBS BS0 (.slice A7 BS0.mind.length cap7)) = CB := ⟨_, rfl⟩
              rw [hCB] at hw9 hi9 hl9 h19
              replace hw8 := Lib.hid hw8
              replace hw9 := Lib.hid hw9
              replace hz8 := Lib.hid hz8
              replace s9 := Lib.hid s9
              replace T9 := Lib.hid T9
              replace hi9 := Lib.hid hi9
              replace hl9 := Lib.hid hl9
              replace h19 := Lib.hid h19
              replace f9 := Lib.hid f9
              replace x9 := Lib.hid x9
              replace b9 := Lib.hid b9
              replace r9 := Lib.hid r9
              replace st9 := Lib.hid st9
              replace hT := Lib.hid hT
              replace hCB := Lib.hid hCB
              replace b7 := Lib.hid b7
              replace r7 := Lib.hid r7
              clear s7
              go_wp2_with (refine holdSt 59 ?_)
              apply Hold.mk
              rw [show w7.alloc (.cells (Value.int .i64 0 :: .int .i64 0 :: .int .u8 0 :: .int .u8 0 :: .int .u8 0 :: .int .u8 0 :: .int .u8 0 :: .int .u8 0 :: .int .u8 0 :: .int .u8 0 :: .int .u8 0 :: .int .u8 0 :: .int .u8 0 :: .int .u8 0 :: .int .u8 0 :: .int .u8 0 :: .int .u8 0 :: .int .u8 0 :: .int .u8 0 :: .int .u8 0 :: .int .u8 0 :: .int .u8 0 :: .int .u8 0 :: .int .u8 0 :: .int .u8 0 :: .int .u8 0 :: .int .u8 0 :: .int .u8 0 :: .int .u8 0 :: .int .u8 0 :: .int .u8 0 :: .int .u8 0 :: .int .u8 0 :: .int .u8 0 :: .int .i64 0 :: .string ⟨#[]⟩ :: .slice none 0 0 :: []).toArray 59) = w8 from hw8.out, hT.out, hCB.out]
              refine wpList_store_row rfl 59 _ _ rfl T CB.toArray rfl rfl 59 _ hz8.out hi9.out hl9.out h19.out ?_
              rw [hw9.out]
              have hb2 := hb2.out _ _ x9.out
              go_wp2_with fail
              refine hb2.mono ?_
              clear hb2
              rintro e wa ⟨r, oa, rfl, sa, va, ia, rfl, ba, ra⟩
              obtain ⟨Aa, capa, rfl⟩ := Own.shape ba
              obtain ⟨Ai, capi, rfl, _, _⟩ := ra.shape
              obtain ⟨wb, wc, oc, hwb, hwc, hzb, sc, Tc, hic, hlc, h1c⟩ := Xb.lay (w := wa) (o := oa) (e := e9) BS0 (.slice Aa BS0.mind.length capa) Aa BS0.mind.length capa rfl hbs.out
              have fc := (f9.out.stp sa (by simp)).stp sc (by simp)
              have xc := (x9.out.stp sa (by simp) (by simp)).stp sc (by simp) (by simp)
              have bc := (OwnB.stp (OwnB.stp b9.out sa (by simp)) sc (by simp))
              have rc := (r9.out.stp sa (by simp)).stp sc (by simp)
              have bd := OwnB.stp ba sc (by simp)
              have rd := ra.stp sc (by simp)
              have T2 := (T9.out.stp sa (by simp)).stp sc (by simp)
              have stc := (st9.out.trans sa.none).trans sc.none
              obtain ⟨U, hU⟩ : ∃ U, wa.heap.size = U := ⟨_, rfl⟩
              rw [hU] at hwc hzb Tc
              have all1 := T2.all
              have all2 := Tc.all
              rw [hCB.out] at all1
              obtain ⟨CC, hCC⟩ : ∃ CC, (cellsBS BS0 (.slice Aa BS0.mind.length capa)) = CC := ⟨_, rfl⟩
              rw [hCC] at hwc hic hlc h1c all2
              have hsame := same13_calls e9 BS0 (.slice A7 BS0.mind.length cap7) (.slice Aa BS0.mind.length capa) wc oc (OwnB.rd bc) (OwnB.rd bd) hbs.out
              rw [hCB.out, hCC] at hsame
              have hi9' : (Try.prog.info? 59).map (·.size) = some CB.length := by rw [hi9.out]; simp
              have hic' : (Try.prog.info? 72).map (·.size) = some CC.length := by rw [hic]; simp
              have rc' : RdB wc oc e9 (.slice Ai7 IM.length capi7) IM := rc
              have rd' : RdB wc oc e9 (.slice Ai IM.length capi) IM := rd
              replace hwb := Lib.hid hwb
              replace hwc := Lib.hid hwc
              replace hzb := Lib.hid hzb
              replace Tc := Lib.hid Tc
              replace hic := Lib.hid hic
              replace hlc := Lib.hid hlc
              replace h1c := Lib.hid h1c
              replace fc := Lib.hid fc
              replace xc := Lib.hid xc
              replace bc := Lib.hid bc
              replace rc := Lib.hid rc
              replace bd := Lib.hid bd
              replace rd := Lib.hid rd
              replace rc' := Lib.hid rc'
              replace rd' := Lib.hid rd'
              replace T2 := Lib.hid T2
              replace stc := Lib.hid stc
              replace hU := Lib.hid hU
              replace hCC := Lib.hid hCC
              replace ba := Lib.hid ba
              replace ra := Lib.hid ra
              replace all1 := Lib.hid all1
              replace all2 := Lib.hid all2
              replace hi9' := Lib.hid hi9'
              replace hic' := Lib.hid hic'
              replace hsame := Lib.hid hsame
              replace sc := Lib.hid sc
              clear sa
              go_wp2_with (refine holdSt 72 ?_)
              apply Hold.mk
              rw [show wa.alloc (.cells (Value.int .i64 0 :: .int .i64 0 :: .int .u8 0 :: .int .u8 0 :: .int .u8 0 :: .int .u8 0 :: .int .u8 0 :: .int .u8 0 :: .int .u8 0 :: .int .u8 0 :: .int .u8 0 :: .int .u8 0 :: .int .u8 0 :: .int .u8 0 :: .int .u8 0 :: .int .u8 0 :: .int .u8 0 :: .int .u8 0 :: .int .u8 0 :: .int .u8 0 :: .int .u8 0 :: .int .u8 0 :: .int .u8 0 :: .int .u8 0 :: .int .u8 0 :: .int .u8 0 :: .int .u8 0 :: .int .u8 0 :: .int .u8 0 :: .int .u8 0 :: .int .u8 0 :: .int .u8 0 :: .int .u8 0 :: .int .u8 0 :: .int .i64 0 :: .string ⟨#[]⟩ :: .slice none 0 0 :: []).toArray 72) = wb from hwb.out, hU.out, hCC.out]
              refine wpList_store_row rfl 72 _ _ rfl U CC.toArray rfl rfl 72 _ hzb.out hic.out hlc.out h1c.out ?_
              rw [hwc.out]
              go_wp2_with (first | (refine list_load rfl 59 _ rfl ⟨T, 0, none⟩ rfl CB _ all1.out Try.underlying59 rfl hi9'.out ?_) | (refine list_load rfl 72 _ rfl ⟨U, 0, none⟩ rfl CC _ all2.out Try.underlying72 rfl hic'.out ?_))
              have hsm := hsame.out
              refine hsm.mono ?_
              clear hsm
              rintro e we ⟨r, oe, rfl, se, rfl⟩
              have fe := fc.out.stp se (by simp)
              have xe := xc.out.stp se (by simp) (by simp)
              have ste := stc.out.trans se.none
              have cv1 := convBS (rc'.out.stp se (by simp)) rfl
              have cv2 := convBS (rd'.out.stp se (by simp)) rfl
              have hokp := fe.ok.2.1
              replace fe := Lib.hid fe
              replace xe := Lib.hid xe
              replace ste := Lib.hid ste
              replace hokp := Lib.hid hokp
              clear se
              go_wp2_with fail
              clear cv1 cv2
              obtain ⟨AP, capP, hvP⟩ := xe.out.shape
              go_loopw [15] (PnI we oe S'.pg.length) (fun x _ => S'.pg.length - (intOf x).toNat)
              case atStart => exact ⟨0, oe, rfl, Nat.zero_le _, Stp.refl _ _ _⟩
              case round =>
                obtain ⟨j, of, rfl, hj, sf⟩ := hrel
                have xf := xe.out.stp sf (by simp) (by simp)
                have c0 := xf.c0
                rw [hvP] at c0 xf
                by_cases hltp : j < S'.pg.length
                · have ff := Lib.hid (fe.out.stp sf (by simp))
                  obtain ⟨ad, vv, qq, ead, hca, hv, hq, hcell, hown, hql⟩ := xf.slot (i := j) hltp
                  subst ead
                  have hbk : hasB S' (j : Int) = true := by simp [hasB]; omega
                  have hE : readE S' (j : Int) = 0 := by rw [readE, hbk]; rfl
                  have hR : readB S' (j : Int) = qq := readB_get hq
                  have hrd := read_calls 1 e9 p g cap S' (j : Int) wr of ff.out
                  rw [hE, hR] at hrd
                  obtain ⟨PL, hPL⟩ : ∃ PL, S'.pg.length = PL := ⟨_, rfl⟩
                  have hk256 : j < 256 := by have := hokp.out; omega
                  rw [hPL] at c0
                  have g5 : decide ((j : Int) < (PL : Int)) = true := decide_eq_true (by omega)
                  have g6 : (0 : Int) ≤ (j : Int) ∧ (j : Int) < (PL : Int) := by omega
                  replace hPL := Lib.hid hPL
                  replace hE := Lib.hid hE
                  replace hR := Lib.hid hR
                  replace hq := Lib.hid hq
                  replace hv := Lib.hid hv
                  replace hca := Lib.hid hca
                  replace xf := Lib.hid xf
                  replace sf := Lib.hid sf
                  replace hql := Lib.hid hql
                  have Hcell := Lib.hid hcell
                  have C0 := Lib.hid c0
                  clear hcell
                  go_wp2_with fail
                  refine hrd.mono ?_
                  clear hrd
                  rintro e wg ⟨r, og, rfl, sg, v2, rfl, h2⟩
                  have d0 := sg.cell C0.out (by simp)
                  have dc := sg.cell Hcell.out (by simp)
                  have hown2 := OwnB.stp hown sg (by simp)
                  obtain ⟨A2, cap2, rfl⟩ := Own.shape h2
                  obtain ⟨A3, cap3, rfl⟩ := Own.shape hown2
                  have h2' : OwnB wg og e9 (.slice A2 qq.length cap2) qq := h2
                  have h3' : OwnB wg og cx (.slice A3 qq.length cap3) qq := hown2
                  have cv1 : ∀ n, (convert 22 9 (.slice A2 qq.length cap2)).run Try.prog (wg.drewN n) = .ok (.string ⟨qq.toArray⟩) (wg.drewN n) := fun n => convBS ((OwnB.rd h2').stp ((Stp.refl [] wg og).drewN n) (by simp)) rfl
                  have cv2 : ∀ n, (convert 22 9 (.slice A3 qq.length cap3)).run Try.prog (wg.drewN n) = .ok (.string ⟨qq.toArray⟩) (wg.drewN n) := fun n => convBS ((OwnB.rd h3').stp ((Stp.refl [] wg og).drewN n) (by simp)) rfl
                  have stg := Lib.hid (sf.out.trans sg)
                  replace h2 := Lib.hid h2
                  replace h2' := Lib.hid h2'
                  replace h3' := Lib.hid h3'
                  replace hown := Lib.hid hown
                  replace hown2 := Lib.hid hown2
                  clear sg c0
                  go_wp2_with fail
                  go_quiet (fail)
                  go_wp2
                  go_roundw
                  case rel => exact ⟨j + 1, og, by go_num, by omega, stg.out.drewN _⟩
                  case measure => simp [intOf]; omega
                · have g5 : decide ((j : Int) < (S'.pg.length : Int)) = false := decide_eq_false (by omega)
                  have fz := Lib.hid (fe.out.stp sf (by simp))
                  have xz := Lib.hid (xe.out.stp sf (by simp) (by simp))
                  have stz := Lib.hid (hs.out.trans ((ste.out.trans sf.none).drop hf9.out))
                  replace sf := Lib.hid sf
                  replace xf := Lib.hid xf
                  go_wp2
                  go_roundw
                  case rel => exact ⟨k + 1, of, S', by go_num, by omega, stz.out, fz.out, xz.out⟩
                  case measure => simp [intOf]; omega
            have j1 : (kind == 1) = false := by simpa using k1
            by_cases k2 : kind = 2
            · subst k2
              obtain ⟨S', hS'⟩ : ∃ S', (keepS s mi).1 = S' := ⟨_, rfl⟩
              obtain ⟨EE, hEE⟩ : ∃ EE, (keepS s mi).2 = EE := ⟨_, rfl⟩
              have sd : Stp [] w5 o4 w5.drew o4 := (Stp.refl [] w5 o4).drew
              have fd := f5.out.stp sd (by simp)
              have xd := x5.out.stp sd (by simp) (by simp)
              have md := m5.out.stp sd (by simp)
              have bl5 := hb5.out
              have bld := sd.blk bl5 (by simp)
              have hcF := fun w' o' (h' : Fl w' o' 1 p g cap s) (h2' : RdB w' o' 0 (.slice Am mi.length capm) mi) => keep_calls 1 0 p g cap s mi _ w' o' h' h2' (by decide)
              have hcX := fun w' o' (h' : XFl w' o' cx ex px vP vs s) (h2' : RdB w' o' 0 (.slice Am mi.length capm) mi) => xkeep_calls cx ex 0 px vP vs s mi _ w' o' h' h2' (fun e => hx2 e.symm) (fun e => he2 e.symm) hce.out
              rw [hS', hEE] at hcF hcX
              have hSd := Lib.hid (show w5.drew.cell? ⟨B, 4, none⟩ = some (.slice Am mi.length capm) from Q4.out)
              have hSe := hSd
              have hSf := hSd
              replace fd := Lib.hid fd
              replace xd := Lib.hid xd
              replace md := Lib.hid md
              replace sd := Lib.hid sd
              replace hcF := Lib.hid hcF
              replace hcX := Lib.hid hcX
              replace hS' := Lib.hid hS'
              replace hEE := Lib.hid hEE
              replace bl5 := Lib.hid bl5
              replace bld := Lib.hid bld
              go_wp2_with fail
              clear q0 q1 q2 q3 q4 q5
              go_region_held_law (fun w' => w'.cell? ⟨B, 4, none⟩ = some (.slice Am mi.length capm)) (first | with_reducible exact hSd.out | with_reducible exact hSe.out | with_reducible exact hSf.out)
                (first
                  | (go_at_call 39
                     refine (hcF.out _ _ fd.out md.out).mono ?_
                     rintro e wa ⟨ra, oa, rfl, sa, rfl, fN⟩
                     have xC := Lib.hid (xd.out.stp sa n4.out n5.out)
                     have st1 := Lib.hid (sd.out.none.trans (sa.mono (D := [e9, 1, cx, ex]) (by simp)))
                     have mC := Lib.hid (md.out.stp sa n1.out)
                     have nb : o4 B ∉ [1] := by rw [hbc.out]; exact n8.out
                     have oB : oa B = e9 := (sa.colb bld.out).trans hbc.out
                     have hSe := Lib.hid (sa.cell hSd.out nb)
                     replace oB := Lib.hid oB
                     replace fN := Lib.hid fN
                     clear sa nb)
                  | (go_at_call 43
                     refine (hcX.out _ _ xC.out mC.out).mono ?_
                     rintro e w6 ⟨rb, o6, rfl, sb, rfl, x6⟩
                     have f6 := Lib.hid (fN.out.stp sb n3.out)
                     have st6 := Lib.hid (hsf.out.trans (st1.out.trans (sb.mono (D := [e9, 1, cx, ex]) (by simp))))
                     have nb : oa B ∉ [cx, ex] := by rw [oB.out]; exact n9.out
                     have hSf := Lib.hid (sb.cell hSe.out nb)
                     replace x6 := Lib.hid x6
                     clear sb nb))
              obtain ⟨BT, hBT⟩ : ∃ BT, bootB S' = BT := ⟨_, rfl⟩
              obtain ⟨BS0, IM, E⟩ := BT
              have hbs := boot_sum S'
              have hb1 := bboot_calls 1 e9 e9 p g cap S' w6 o6 f6.out
              rw [hBT] at hb1 hbs
              dsimp only at hb1 hbs
              have hb2 := fun w' o' (h' : XFl w' o' cx ex px vP vs S') => xbboot_calls cx ex e9 e9 px vP vs S' w' o' h'
              rw [hBT] at hb2
              dsimp only at hb2
              replace hb2 := Lib.hid hb2
              replace hBT := Lib.hid hBT
              replace hbs := Lib.hid hbs
              go_wp2_with fail
              refine hb1.mono ?_
              clear hb1
              rintro e w7 ⟨r, o7, rfl, s7, v7, i7, rfl, b7, r7⟩
              obtain ⟨A7, cap7, rfl⟩ := Own.shape b7
              obtain ⟨Ai7, capi7, rfl, _, _⟩ := r7.shape
              obtain ⟨w8, w9, o9, hw8, hw9, hz8, s9, T9, hi9, hl9, h19⟩ := Sb.lay (w := w7) (o := o7) (e := e9) BS0 (.slice A7 BS0.mind.length cap7) A7 BS0.mind.length cap7 rfl hbs.out
              have f9 := (f6.out.stp s7 (by simp)).stp s9 (by simp)
              have x9 := (x6.out.stp s7 (by simp) (by simp)).stp s9 (by simp) (by simp)
              have b9 := OwnB.stp b7 s9 (by simp)
              have r9 := r7.stp s9 (by simp)
              have st9 := (st6.out.trans s7.none).trans s9.none
              obtain ⟨T, hT⟩ : ∃ T, w7.heap.size = T := ⟨_, rfl⟩
              rw [hT] at hw9 hz8 T9
              obtain ⟨CB, hCB⟩ : ∃ CB, (cellsBS BS0 (.slice A7 BS0.mind.length cap7)) = CB := ⟨_, rfl⟩
              rw [hCB] at hw9 hi9 hl9 h19
              replace hw8 := Lib.hid hw8
              replace hw9 := Lib.hid hw9
              replace hz8 := Lib.hid hz8
              replace s9 := Lib.hid s9
              replace T9 := Lib.hid T9
              replace hi9 := Lib.hid hi9
              replace hl9 := Lib.hid hl9
              replace h19 := Lib.hid h19
              replace f9 := Lib.hid f9
              replace x9 := Lib.hid x9
              replace b9 := Lib.hid b9
              replace r9 := Lib.hid r9
              replace st9 := Lib.hid st9
              replace hT := Lib.hid hT
              replace hCB := Lib.hid hCB
              replace b7 := Lib.hid b7
              replace r7 := Lib.hid r7
              clear s7
              go_wp2_with (refine holdSt 59 ?_)
              apply Hold.mk
              rw [show w7.alloc (.cells (Value.int .i64 0 :: .int .i64 0 :: .int .u8 0 :: .int .u8 0 :: .int .u8 0 :: .int .u8 0 :: .int .u8 0 :: .int .u8 0 :: .int .u8 0 :: .int .u8 0 :: .int .u8 0 :: .int .u8 0 :: .int .u8 0 :: .int .u8 0 :: .int .u8 0 :: .int .u8 0 :: .int .u8 0 :: .int .u8 0 :: .int .u8 0 :: .int .u8 0 :: .int .u8 0 :: .int .u8 0 :: .int .u8 0 :: .int .u8 0 :: .int .u8 0 :: .int .u8 0 :: .int .u8 0 :: .int .u8 0 :: .int .u8 0 :: .int .u8 0 :: .int .u8 0 :: .int .u8 0 :: .int .u8 0 :: .int .u8 0 :: .int .i64 0 :: .string ⟨#[]⟩ :: .slice none 0 0 :: []).toArray 59) = w8 from hw8.out, hT.out, hCB.out]
              refine wpList_store_row rfl 59 _ _ rfl T CB.toArray rfl rfl 59 _ hz8.out hi9.out hl9.out h19.out ?_
              rw [hw9.out]
              have hb2 := hb2.out _ _ x9.out
              go_wp2_with fail
              refine hb2.mono ?_
              clear hb2
              rintro e wa ⟨r, oa, rfl, sa, va, ia, rfl, ba, ra⟩
              obtain ⟨Aa, capa, rfl⟩ := Own.shape ba
              obtain ⟨Ai, capi, rfl, _, _⟩ := ra.shape
              obtain ⟨wb, wc, oc, hwb, hwc, hzb, sc, Tc, hic, hlc, h1c⟩ := Xb.lay (w := wa) (o := oa) (e := e9) BS0 (.slice Aa BS0.mind.length capa) Aa BS0.mind.length capa rfl hbs.out
              have fc := (f9.out.stp sa (by simp)).stp sc (by simp)
              have xc := (x9.out.stp sa (by simp) (by simp)).stp sc (by simp) (by simp)
              have bc := (OwnB.stp (OwnB.stp b9.out sa (by simp)) sc (by simp))
              have rc := (r9.out.stp sa (by simp)).stp sc (by simp)
              have bd := OwnB.stp ba sc (by simp)
              have rd := ra.stp sc (by simp)
              have T2 := (T9.out.stp sa (by simp)).stp sc (by simp)
              have stc := (st9.out.trans sa.none).trans sc.none
              obtain ⟨U, hU⟩ : ∃ U, wa.heap.size = U := ⟨_, rfl⟩
              rw [hU] at hwc hzb Tc
              have all1 := T2.all
              have all2 := Tc.all
              rw [hCB.out] at all1
              obtain ⟨CC, hCC⟩ : ∃ CC, (cellsBS BS0 (.slice Aa BS0.mind.length capa)) = CC := ⟨_, rfl⟩
              rw [hCC] at hwc hic hlc h1c all2
              have hsame := same13_calls e9 BS0 (.slice A7 BS0.mind.length cap7) (.slice Aa BS0.mind.length capa) wc oc (OwnB.rd bc) (OwnB.rd bd) hbs.out
              rw [hCB.out, hCC] at hsame
              have hi9' : (Try.prog.info? 59).map (·.size) = some CB.length := by rw [hi9.out]; simp
              have hic' : (Try.prog.info? 72).map (·.size) = some CC.length := by rw [hic]; simp
              have rc' : RdB wc oc e9 (.slice Ai7 IM.length capi7) IM := rc
              have rd' : RdB wc oc e9 (.slice Ai IM.length capi) IM := rd
              replace hwb := Lib.hid hwb
              replace hwc := Lib.hid hwc
              replace hzb := Lib.hid hzb
              replace Tc := Lib.hid Tc
              replace hic := Lib.hid hic
              replace hlc := Lib.hid hlc
              replace h1c := Lib.hid h1c
              replace fc := Lib.hid fc
              replace xc := Lib.hid xc
              replace bc := Lib.hid bc
              replace rc := Lib.hid rc
              replace bd := Lib.hid bd
              replace rd := Lib.hid rd
              replace rc' := Lib.hid rc'
              replace rd' := Lib.hid rd'
              replace T2 := Lib.hid T2
              replace stc := Lib.hid stc
              replace hU := Lib.hid hU
              replace hCC := Lib.hid hCC
              replace ba := Lib.hid ba
              replace ra := Lib.hid ra
              replace all1 := Lib.hid all1
              replace all2 := Lib.hid all2
              replace hi9' := Lib.hid hi9'
              replace hic' := Lib.hid hic'
              replace hsame := Lib.hid hsame
              replace sc := Lib.hid sc
              clear sa
              go_wp2_with (refine holdSt 72 ?_)
              apply Hold.mk
              rw [show wa.alloc (.cells (Value.int .i64 0 :: .int .i64 0 :: .int .u8 0 :: .int .u8 0 :: .int .u8 0 :: .int .u8 0 :: .int .u8 0 :: .int .u8 0 :: .int .u8 0 :: .int .u8 0 :: .int .u8 0 :: .int .u8 0 :: .int .u8 0 :: .int .u8 0 :: .int .u8 0 :: .int .u8 0 :: .int .u8 0 :: .int .u8 0 :: .int .u8 0 :: .int .u8 0 :: .int .u8 0 :: .int .u8 0 :: .int .u8 0 :: .int .u8 0 :: .int .u8 0 :: .int .u8 0 :: .int .u8 0 :: .int .u8 0 :: .int .u8 0 :: .int .u8 0 :: .int .u8 0 :: .int .u8 0 :: .int .u8 0 :: .int .u8 0 :: .int .i64 0 :: .string ⟨#[]⟩ :: .slice none 0 0 :: []).toArray 72) = wb from hwb.out, hU.out, hCC.out]
              refine wpList_store_row rfl 72 _ _ rfl U CC.toArray rfl rfl 72 _ hzb.out hic.out hlc.out h1c.out ?_
              rw [hwc.out]
              go_wp2_with (first | (refine list_load rfl 59 _ rfl ⟨T, 0, none⟩ rfl CB _ all1.out Try.underlying59 rfl hi9'.out ?_) | (refine list_load rfl 72 _ rfl ⟨U, 0, none⟩ rfl CC _ all2.out Try.underlying72 rfl hic'.out ?_))
              have hsm := hsame.out
              refine hsm.mono ?_
              clear hsm
              rintro e we ⟨r, oe, rfl, se, rfl⟩
              have fe := fc.out.stp se (by simp)
              have xe := xc.out.stp se (by simp) (by simp)
              have ste := stc.out.trans se.none
              have cv1 := convBS (rc'.out.stp se (by simp)) rfl
              have cv2 := convBS (rd'.out.stp se (by simp)) rfl
              have hokp := fe.ok.2.1
              replace fe := Lib.hid fe
              replace xe := Lib.hid xe
              replace ste := Lib.hid ste
              replace hokp := Lib.hid hokp
              clear se
              go_wp2_with fail
              clear cv1 cv2
              obtain ⟨AP, capP, hvP⟩ := xe.out.shape
              go_loopw [15] (PnI we oe S'.pg.length) (fun x _ => S'.pg.length - (intOf x).toNat)
              case atStart => exact ⟨0, oe, rfl, Nat.zero_le _, Stp.refl _ _ _⟩
              case round =>
                obtain ⟨j, of, rfl, hj, sf⟩ := hrel
                have xf := xe.out.stp sf (by simp) (by simp)
                have c0 := xf.c0
                rw [hvP] at c0 xf
                by_cases hltp : j < S'.pg.length
                · have ff := Lib.hid (fe.out.stp sf (by simp))
                  obtain ⟨ad, vv, qq, ead, hca, hv, hq, hcell, hown, hql⟩ := xf.slot (i := j) hltp
                  subst ead
                  have hbk : hasB S' (j : Int) = true := by simp [hasB]; omega
                  have hE : readE S' (j : Int) = 0 := by rw [readE, hbk]; rfl
                  have hR : readB S' (j : Int) = qq := readB_get hq
                  have hrd := read_calls 1 e9 p g cap S' (j : Int) wr of ff.out
                  rw [hE, hR] at hrd
                  obtain ⟨PL, hPL⟩ : ∃ PL, S'.pg.length = PL := ⟨_, rfl⟩
                  have hk256 : j < 256 := by have := hokp.out; omega
                  rw [hPL] at c0
                  have g5 : decide ((j : Int) < (PL : Int)) = true := decide_eq_true (by omega)
                  have g6 : (0 : Int) ≤ (j : Int) ∧ (j : Int) < (PL : Int) := by omega
                  replace hPL := Lib.hid hPL
                  replace hE := Lib.hid hE
                  replace hR := Lib.hid hR
                  replace hq := Lib.hid hq
                  replace hv := Lib.hid hv
                  replace hca := Lib.hid hca
                  replace xf := Lib.hid xf
                  replace sf := Lib.hid sf
                  replace hql := Lib.hid hql
                  have Hcell := Lib.hid hcell
                  have C0 := Lib.hid c0
                  clear hcell
                  go_wp2_with fail
                  refine hrd.mono ?_
                  clear hrd
                  rintro e wg ⟨r, og, rfl, sg, v2, rfl, h2⟩
                  have d0 := sg.cell C0.out (by simp)
                  have dc := sg.cell Hcell.out (by simp)
                  have hown2 := OwnB.stp hown sg (by simp)
                  obtain ⟨A2, cap2, rfl⟩ := Own.shape h2
                  obtain ⟨A3, cap3, rfl⟩ := Own.shape hown2
                  have h2' : OwnB wg og e9 (.slice A2 qq.length cap2) qq := h2
                  have h3' : OwnB wg og cx (.slice A3 qq.length cap3) qq := hown2
                  have cv1 : ∀ n, (convert 22 9 (.slice A2 qq.length cap2)).run Try.prog (wg.drewN n) = .ok (.string ⟨qq.toArray⟩) (wg.drewN n) := fun n => convBS ((OwnB.rd h2').stp ((Stp.refl [] wg og).drewN n) (by simp)) rfl
                  have cv2 : ∀ n, (convert 22 9 (.slice A3 qq.length cap3)).run Try.prog (wg.drewN n) = .ok (.string ⟨qq.toArray⟩) (wg.drewN n) := fun n => convBS ((OwnB.rd h3').stp ((Stp.refl [] wg og).drewN n) (by simp)) rfl
                  have stg := Lib.hid (sf.out.trans sg)
                  replace h2 := Lib.hid h2
                  replace h2' := Lib.hid h2'
                  replace h3' := Lib.hid h3'
                  replace hown := Lib.hid hown
                  replace hown2 := Lib.hid hown2
                  clear sg c0
                  go_wp2_with fail
                  go_quiet (fail)
                  go_wp2
                  go_roundw
                  case rel => exact ⟨j + 1, og, by go_num, by omega, stg.out.drewN _⟩
                  case measure => simp [intOf]; omega
                · have g5 : decide ((j : Int) < (S'.pg.length : Int)) = false := decide_eq_false (by omega)
                  have fz := Lib.hid (fe.out.stp sf (by simp))
                  have xz := Lib.hid (xe.out.stp sf (by simp) (by simp))
                  have stz := Lib.hid (hs.out.trans ((ste.out.trans sf.none).drop hf9.out))
                  replace sf := Lib.hid sf
                  replace xf := Lib.hid xf
                  go_wp2
                  go_roundw
                  case rel => exact ⟨k + 1, of, S', by go_num, by omega, stz.out, fz.out, xz.out⟩
                  case measure => simp [intOf]; omega
            have j2 : (kind == 2) = false := by simpa using k2
            by_cases k3 : kind = 3
            · subst k3
              obtain ⟨S', hS'⟩ : ∃ S', fuseS s nn tear = S' := ⟨_, rfl⟩
              have hcF := fun w' o' (h' : Fl w' o' 1 p g cap s) => fuse_calls 1 p g cap s nn tear w' o' h' hnx
              have hcX := fun w' o' (h' : XFl w' o' cx ex px vP vs s) => xfuse_calls cx ex px vP vs s nn tear w' o' h' hnx
              rw [hS'] at hcF hcX
              replace hcF := Lib.hid hcF
              replace hcX := Lib.hid hcX
              replace hS' := Lib.hid hS'
              go_wp2_with fail
              refine (hcF.out _ _ f5.out).mono ?_
              rintro e wa ⟨ra, oa, rfl, sa, rfl, fN⟩
              have xC := Lib.hid (x5.out.stp sa n4.out n5.out)
              have nb : o4 B ∉ [1] := by rw [hbc.out]; exact n8.out
              have r3 := sa.cell q3 nb
              have r5 := sa.cell q5 nb
              have st1 := Lib.hid (hsf.out.trans (sa.mono (D := [e9, 1, cx, ex]) (by simp)))
              replace fN := Lib.hid fN
              clear sa nb q0 q1 q2 q3 q4 q5
              go_wp2_with fail
              refine (hcX.out _ _ xC.out).mono ?_
              rintro e w6 ⟨rb, o6, rfl, sb, rfl, x6⟩
              have f6 := Lib.hid (fN.out.stp sb n7.out)
              have st6 := Lib.hid (st1.out.trans (sb.mono (D := [e9, 1, cx, ex]) (by simp)))
              replace x6 := Lib.hid x6
              clear sb r3 r5
              obtain ⟨BT, hBT⟩ : ∃ BT, bootB S' = BT := ⟨_, rfl⟩
              obtain ⟨BS0, IM, E⟩ := BT
              have hbs := boot_sum S'
              have hb1 := bboot_calls 1 e9 e9 p g cap S' w6 o6 f6.out
              rw [hBT] at hb1 hbs
              dsimp only at hb1 hbs
              have hb2 := fun w' o' (h' : XFl w' o' cx ex px vP vs S') => xbboot_calls cx ex e9 e9 px vP vs S' w' o' h'
              rw [hBT] at hb2
              dsimp only at hb2
              replace hb2 := Lib.hid hb2
              replace hBT := Lib.hid hBT
              replace hbs := Lib.hid hbs
              go_wp2_with fail
              refine hb1.mono ?_
              clear hb1
              rintro e w7 ⟨r, o7, rfl, s7, v7, i7, rfl, b7, r7⟩
              obtain ⟨A7, cap7, rfl⟩ := Own.shape b7
              obtain ⟨Ai7, capi7, rfl, _, _⟩ := r7.shape
              obtain ⟨w8, w9, o9, hw8, hw9, hz8, s9, T9, hi9, hl9, h19⟩ := Sb.lay (w := w7) (o := o7) (e := e9) BS0 (.slice A7 BS0.mind.length cap7) A7 BS0.mind.length cap7 rfl hbs.out
              have f9 := (f6.out.stp s7 (by simp)).stp s9 (by simp)
              have x9 := (x6.out.stp s7 (by simp) (by simp)).stp s9 (by simp) (by simp)
              have b9 := OwnB.stp b7 s9 (by simp)
              have r9 := r7.stp s9 (by simp)
              have st9 := (st6.out.trans s7.none).trans s9.none
              obtain ⟨T, hT⟩ : ∃ T, w7.heap.size = T := ⟨_, rfl⟩
              rw [hT] at hw9 hz8 T9
              obtain ⟨CB, hCB⟩ : ∃ CB, (cellsBS BS0 (.slice A7 BS0.mind.length cap7)) = CB := ⟨_, rfl⟩
              rw [hCB] at hw9 hi9 hl9 h19
              replace hw8 := Lib.hid hw8
              replace hw9 := Lib.hid hw9
              replace hz8 := Lib.hid hz8
              replace s9 := Lib.hid s9
              replace T9 := Lib.hid T9
              replace hi9 := Lib.hid hi9
              replace hl9 := Lib.hid hl9
              replace h19 := Lib.hid h19
              replace f9 := Lib.hid f9
              replace x9 := Lib.hid x9
              replace b9 := Lib.hid b9
              replace r9 := Lib.hid r9
              replace st9 := Lib.hid st9
              replace hT := Lib.hid hT
              replace hCB := Lib.hid hCB
              replace b7 := Lib.hid b7
              replace r7 := Lib.hid r7
              clear s7
              go_wp2_with (refine holdSt 59 ?_)
              apply Hold.mk
              rw [show w7.alloc (.cells (Value.int .i64 0 :: .int .i64 0 :: .int .u8 0 :: .int .u8 0 :: .int .u8 0 :: .int .u8 0 :: .int .u8 0 :: .int .u8 0 :: .int .u8 0 :: .int .u8 0 :: .int .u8 0 :: .int .u8 0 :: .int .u8 0 :: .int .u8 0 :: .int .u8 0 :: .int .u8 0 :: .int .u8 0 :: .int .u8 0 :: .int .u8 0 :: .int .u8 0 :: .int .u8 0 :: .int .u8 0 :: .int .u8 0 :: .int .u8 0 :: .int .u8 0 :: .int .u8 0 :: .int .u8 0 :: .int .u8 0 :: .int .u8 0 :: .int .u8 0 :: .int .u8 0 :: .int .u8 0 :: .int .u8 0 :: .int .u8 0 :: .int .i64 0 :: .string ⟨#[]⟩ :: .slice none 0 0 :: []).toArray 59) = w8 from hw8.out, hT.out, hCB.out]
              refine wpList_store_row rfl 59 _ _ rfl T CB.toArray rfl rfl 59 _ hz8.out hi9.out hl9.out h19.out ?_
              rw [hw9.out]
              have hb2 := hb2.out _ _ x9.out
              go_wp2_with fail
              refine hb2.mono ?_
              clear hb2
              rintro e wa ⟨r, oa, rfl, sa, va, ia, rfl, ba, ra⟩
              obtain ⟨Aa, capa, rfl⟩ := Own.shape ba
              obtain ⟨Ai, capi, rfl, _, _⟩ := ra.shape
              obtain ⟨wb, wc, oc, hwb, hwc, hzb, sc, Tc, hic, hlc, h1c⟩ := Xb.lay (w := wa) (o := oa) (e := e9) BS0 (.slice Aa BS0.mind.length capa) Aa BS0.mind.length capa rfl hbs.out
              have fc := (f9.out.stp sa (by simp)).stp sc (by simp)
              have xc := (x9.out.stp sa (by simp) (by simp)).stp sc (by simp) (by simp)
              have bc := (OwnB.stp (OwnB.stp b9.out sa (by simp)) sc (by simp))
              have rc := (r9.out.stp sa (by simp)).stp sc (by simp)
              have bd := OwnB.stp ba sc (by simp)
              have rd := ra.stp sc (by simp)
              have T2 := (T9.out.stp sa (by simp)).stp sc (by simp)
              have stc := (st9.out.trans sa.none).trans sc.none
              obtain ⟨U, hU⟩ : ∃ U, wa.heap.size = U := ⟨_, rfl⟩
              rw [hU] at hwc hzb Tc
              have all1 := T2.all
              have all2 := Tc.all
              rw [hCB.out] at all1
              obtain ⟨CC, hCC⟩ : ∃ CC, (cellsBS BS0 (.slice Aa BS0.mind.length capa)) = CC := ⟨_, rfl⟩
              rw [hCC] at hwc hic hlc h1c all2
              have hsame := same13_calls e9 BS0 (.slice A7 BS0.mind.length cap7) (.slice Aa BS0.mind.length capa) wc oc (OwnB.rd bc) (OwnB.rd bd) hbs.out
              rw [hCB.out, hCC] at hsame
              have hi9' : (Try.prog.info? 59).map (·.size) = some CB.length := by rw [hi9.out]; simp
              have hic' : (Try.prog.info? 72).map (·.size) = some CC.length := by rw [hic]; simp
              have rc' : RdB wc oc e9 (.slice Ai7 IM.length capi7) IM := rc
              have rd' : RdB wc oc e9 (.slice Ai IM.length capi) IM := rd
              replace hwb := Lib.hid hwb
              replace hwc := Lib.hid hwc
              replace hzb := Lib.hid hzb
              replace Tc := Lib.hid Tc
              replace hic := Lib.hid hic
              replace hlc := Lib.hid hlc
              replace h1c := Lib.hid h1c
              replace fc := Lib.hid fc
              replace xc := Lib.hid xc
              replace bc := Lib.hid bc
              replace rc := Lib.hid rc
              replace bd := Lib.hid bd
              replace rd := Lib.hid rd
              replace rc' := Lib.hid rc'
              replace rd' := Lib.hid rd'
              replace T2 := Lib.hid T2
              replace stc := Lib.hid stc
              replace hU := Lib.hid hU
              replace hCC := Lib.hid hCC
              replace ba := Lib.hid ba
              replace ra := Lib.hid ra
              replace all1 := Lib.hid all1
              replace all2 := Lib.hid all2
              replace hi9' := Lib.hid hi9'
              replace hic' := Lib.hid hic'
              replace hsame := Lib.hid hsame
              replace sc := Lib.hid sc
              clear sa
              go_wp2_with (refine holdSt 72 ?_)
              apply Hold.mk
              rw [show wa.alloc (.cells (Value.int .i64 0 :: .int .i64 0 :: .int .u8 0 :: .int .u8 0 :: .int .u8 0 :: .int .u8 0 :: .int .u8 0 :: .int .u8 0 :: .int .u8 0 :: .int .u8 0 :: .int .u8 0 :: .int .u8 0 :: .int .u8 0 :: .int .u8 0 :: .int .u8 0 :: .int .u8 0 :: .int .u8 0 :: .int .u8 0 :: .int .u8 0 :: .int .u8 0 :: .int .u8 0 :: .int .u8 0 :: .int .u8 0 :: .int .u8 0 :: .int .u8 0 :: .int .u8 0 :: .int .u8 0 :: .int .u8 0 :: .int .u8 0 :: .int .u8 0 :: .int .u8 0 :: .int .u8 0 :: .int .u8 0 :: .int .u8 0 :: .int .i64 0 :: .string ⟨#[]⟩ :: .slice none 0 0 :: []).toArray 72) = wb from hwb.out, hU.out, hCC.out]
              refine wpList_store_row rfl 72 _ _ rfl U CC.toArray rfl rfl 72 _ hzb.out hic.out hlc.out h1c.out ?_
              rw [hwc.out]
              go_wp2_with (first | (refine list_load rfl 59 _ rfl ⟨T, 0, none⟩ rfl CB _ all1.out Try.underlying59 rfl hi9'.out ?_) | (refine list_load rfl 72 _ rfl ⟨U, 0, none⟩ rfl CC _ all2.out Try.underlying72 rfl hic'.out ?_))
              have hsm := hsame.out
              refine hsm.mono ?_
              clear hsm
              rintro e we ⟨r, oe, rfl, se, rfl⟩
              have fe := fc.out.stp se (by simp)
              have xe := xc.out.stp se (by simp) (by simp)
              have ste := stc.out.trans se.none
              have cv1 := convBS (rc'.out.stp se (by simp)) rfl
              have cv2 := convBS (rd'.out.stp se (by simp)) rfl
              have hokp := fe.ok.2.1
              replace fe := Lib.hid fe
              replace xe := Lib.hid xe
              replace ste := Lib.hid ste
              replace hokp := Lib.hid hokp
              clear se
              go_wp2_with fail
              clear cv1 cv2
              obtain ⟨AP, capP, hvP⟩ := xe.out.shape
              go_loopw [15] (PnI we oe S'.pg.length) (fun x _ => S'.pg.length - (intOf x).toNat)
              case atStart => exact ⟨0, oe, rfl, Nat.zero_le _, Stp.refl _ _ _⟩
              case round =>
                obtain ⟨j, of, rfl, hj, sf⟩ := hrel
                have xf := xe.out.stp sf (by simp) (by simp)
                have c0 := xf.c0
                rw [hvP] at c0 xf
                by_cases hltp : j < S'.pg.length
                · have ff := Lib.hid (fe.out.stp sf (by simp))
                  obtain ⟨ad, vv, qq, ead, hca, hv, hq, hcell, hown, hql⟩ := xf.slot (i := j) hltp
                  subst ead
                  have hbk : hasB S' (j : Int) = true := by simp [hasB]; omega
                  have hE : readE S' (j : Int) = 0 := by rw [readE, hbk]; rfl
                  have hR : readB S' (j : Int) = qq := readB_get hq
                  have hrd := read_calls 1 e9 p g cap S' (j : Int) wr of ff.out
                  rw [hE, hR] at hrd
                  obtain ⟨PL, hPL⟩ : ∃ PL, S'.pg.length = PL := ⟨_, rfl⟩
                  have hk256 : j < 256 := by have := hokp.out; omega
                  rw [hPL] at c0
                  have g5 : decide ((j : Int) < (PL : Int)) = true := decide_eq_true (by omega)
                  have g6 : (0 : Int) ≤ (j : Int) ∧ (j : Int) < (PL : Int) := by omega
                  replace hPL := Lib.hid hPL
                  replace hE := Lib.hid hE
                  replace hR := Lib.hid hR
                  replace hq := Lib.hid hq
                  replace hv := Lib.hid hv
                  replace hca := Lib.hid hca
                  replace xf := Lib.hid xf
                  replace sf := Lib.hid sf
                  replace hql := Lib.hid hql
                  have Hcell := Lib.hid hcell
                  have C0 := Lib.hid c0
                  clear hcell
                  go_wp2_with fail
                  refine hrd.mono ?_
                  clear hrd
                  rintro e wg ⟨r, og, rfl, sg, v2, rfl, h2⟩
                  have d0 := sg.cell C0.out (by simp)
                  have dc := sg.cell Hcell.out (by simp)
                  have hown2 := OwnB.stp hown sg (by simp)
                  obtain ⟨A2, cap2, rfl⟩ := Own.shape h2
                  obtain ⟨A3, cap3, rfl⟩ := Own.shape hown2
                  have h2' : OwnB wg og e9 (.slice A2 qq.length cap2) qq := h2
                  have h3' : OwnB wg og cx (.slice A3 qq.length cap3) qq := hown2
                  have cv1 : ∀ n, (convert 22 9 (.slice A2 qq.length cap2)).run Try.prog (wg.drewN n) = .ok (.string ⟨qq.toArray⟩) (wg.drewN n) := fun n => convBS ((OwnB.rd h2').stp ((Stp.refl [] wg og).drewN n) (by simp)) rfl
                  have cv2 : ∀ n, (convert 22 9 (.slice A3 qq.length cap3)).run Try.prog (wg.drewN n) = .ok (.string ⟨qq.toArray⟩) (wg.drewN n) := fun n => convBS ((OwnB.rd h3').stp ((Stp.refl [] wg og).drewN n) (by simp)) rfl
                  have stg := Lib.hid (sf.out.trans sg)
                  replace h2 := Lib.hid h2
                  replace h2' := Lib.hid h2'
                  replace h3' := Lib.hid h3'
                  replace hown := Lib.hid hown
                  replace hown2 := Lib.hid hown2
                  clear sg c0
                  go_wp2_with fail
                  go_quiet (fail)
                  go_wp2
                  go_roundw
                  case rel => exact ⟨j + 1, og, by go_num, by omega, stg.out.drewN _⟩
                  case measure => simp [intOf]; omega
                · have g5 : decide ((j : Int) < (S'.pg.length : Int)) = false := decide_eq_false (by omega)
                  have fz := Lib.hid (fe.out.stp sf (by simp))
                  have xz := Lib.hid (xe.out.stp sf (by simp) (by simp))
                  have stz := Lib.hid (hs.out.trans ((ste.out.trans sf.none).drop hf9.out))
                  replace sf := Lib.hid sf
                  replace xf := Lib.hid xf
                  go_wp2
                  go_roundw
                  case rel => exact ⟨k + 1, of, S', by go_num, by omega, stz.out, fz.out, xz.out⟩
                  case measure => simp [intOf]; omega
            · have j3 : (kind == 3) = false := by simpa using k3
              obtain ⟨S', hS'⟩ : ∃ S', bootS s = S' := ⟨_, rfl⟩
              have hcF := fun w' o' (h' : Fl w' o' 1 p g cap s) => boot_calls 1 p g cap s w' o' h'
              have hcX := fun w' o' (h' : XFl w' o' cx ex px vP vs s) => xboot_calls cx ex px vP vs s w' o' h'
              rw [hS'] at hcF hcX
              replace hcF := Lib.hid hcF
              replace hcX := Lib.hid hcX
              replace hS' := Lib.hid hS'
              go_wp2_with fail
              refine (hcF.out _ _ f5.out).mono ?_
              rintro e wa ⟨ra, oa, rfl, sa, rfl, fN⟩
              have xC := Lib.hid (x5.out.stp sa n4.out n5.out)
              have st1 := Lib.hid (hsf.out.trans (sa.mono (D := [e9, 1, cx, ex]) (by simp)))
              replace fN := Lib.hid fN
              clear sa q0 q1 q2 q3 q4 q5
              go_wp2_with fail
              refine (hcX.out _ _ xC.out).mono ?_
              rintro e w6 ⟨rb, o6, rfl, sb, rfl, x6⟩
              have f6 := Lib.hid (fN.out.stp sb n7.out)
              have st6 := Lib.hid (st1.out.trans (sb.mono (D := [e9, 1, cx, ex]) (by simp)))
              replace x6 := Lib.hid x6
              clear sb
              obtain ⟨BT, hBT⟩ : ∃ BT, bootB S' = BT := ⟨_, rfl⟩
              obtain ⟨BS0, IM, E⟩ := BT
              have hbs := boot_sum S'
              have hb1 := bboot_calls 1 e9 e9 p g cap S' w6 o6 f6.out
              rw [hBT] at hb1 hbs
              dsimp only at hb1 hbs
              have hb2 := fun w' o' (h' : XFl w' o' cx ex px vP vs S') => xbboot_calls cx ex e9 e9 px vP vs S' w' o' h'
              rw [hBT] at hb2
              dsimp only at hb2
              replace hb2 := Lib.hid hb2
              replace hBT := Lib.hid hBT
              replace hbs := Lib.hid hbs
              go_wp2_with fail
              refine hb1.mono ?_
              clear hb1
              rintro e w7 ⟨r, o7, rfl, s7, v7, i7, rfl, b7, r7⟩
              obtain ⟨A7, cap7, rfl⟩ := Own.shape b7
              obtain ⟨Ai7, capi7, rfl, _, _⟩ := r7.shape
              obtain ⟨w8, w9, o9, hw8, hw9, hz8, s9, T9, hi9, hl9, h19⟩ := Sb.lay (w := w7) (o := o7) (e := e9) BS0 (.slice A7 BS0.mind.length cap7) A7 BS0.mind.length cap7 rfl hbs.out
              have f9 := (f6.out.stp s7 (by simp)).stp s9 (by simp)
              have x9 := (x6.out.stp s7 (by simp) (by simp)).stp s9 (by simp) (by simp)
              have b9 := OwnB.stp b7 s9 (by simp)
              have r9 := r7.stp s9 (by simp)
              have st9 := (st6.out.trans s7.none).trans s9.none
              obtain ⟨T, hT⟩ : ∃ T, w7.heap.size = T := ⟨_, rfl⟩
              rw [hT] at hw9 hz8 T9
              obtain ⟨CB, hCB⟩ : ∃ CB, (cellsBS BS0 (.slice A7 BS0.mind.length cap7)) = CB := ⟨_, rfl⟩
              rw [hCB] at hw9 hi9 hl9 h19
              replace hw8 := Lib.hid hw8
              replace hw9 := Lib.hid hw9
              replace hz8 := Lib.hid hz8
              replace s9 := Lib.hid s9
              replace T9 := Lib.hid T9
              replace hi9 := Lib.hid hi9
              replace hl9 := Lib.hid hl9
              replace h19 := Lib.hid h19
              replace f9 := Lib.hid f9
              replace x9 := Lib.hid x9
              replace b9 := Lib.hid b9
              replace r9 := Lib.hid r9
              replace st9 := Lib.hid st9
              replace hT := Lib.hid hT
              replace hCB := Lib.hid hCB
              replace b7 := Lib.hid b7
              replace r7 := Lib.hid r7
              clear s7
              go_wp2_with (refine holdSt 59 ?_)
              apply Hold.mk
              rw [show w7.alloc (.cells (Value.int .i64 0 :: .int .i64 0 :: .int .u8 0 :: .int .u8 0 :: .int .u8 0 :: .int .u8 0 :: .int .u8 0 :: .int .u8 0 :: .int .u8 0 :: .int .u8 0 :: .int .u8 0 :: .int .u8 0 :: .int .u8 0 :: .int .u8 0 :: .int .u8 0 :: .int .u8 0 :: .int .u8 0 :: .int .u8 0 :: .int .u8 0 :: .int .u8 0 :: .int .u8 0 :: .int .u8 0 :: .int .u8 0 :: .int .u8 0 :: .int .u8 0 :: .int .u8 0 :: .int .u8 0 :: .int .u8 0 :: .int .u8 0 :: .int .u8 0 :: .int .u8 0 :: .int .u8 0 :: .int .u8 0 :: .int .u8 0 :: .int .i64 0 :: .string ⟨#[]⟩ :: .slice none 0 0 :: []).toArray 59) = w8 from hw8.out, hT.out, hCB.out]
              refine wpList_store_row rfl 59 _ _ rfl T CB.toArray rfl rfl 59 _ hz8.out hi9.out hl9.out h19.out ?_
              rw [hw9.out]
              have hb2 := hb2.out _ _ x9.out
              go_wp2_with fail
              refine hb2.mono ?_
              clear hb2
              rintro e wa ⟨r, oa, rfl, sa, va, ia, rfl, ba, ra⟩
              obtain ⟨Aa, capa, rfl⟩ := Own.shape ba
              obtain ⟨Ai, capi, rfl, _, _⟩ := ra.shape
              obtain ⟨wb, wc, oc, hwb, hwc, hzb, sc, Tc, hic, hlc, h1c⟩ := Xb.lay (w := wa) (o := oa) (e := e9) BS0 (.slice Aa BS0.mind.length capa) Aa BS0.mind.length capa rfl hbs.out
              have fc := (f9.out.stp sa (by simp)).stp sc (by simp)
              have xc := (x9.out.stp sa (by simp) (by simp)).stp sc (by simp) (by simp)
              have bc := (OwnB.stp (OwnB.stp b9.out sa (by simp)) sc (by simp))
              have rc := (r9.out.stp sa (by simp)).stp sc (by simp)
              have bd := OwnB.stp ba sc (by simp)
              have rd := ra.stp sc (by simp)
              have T2 := (T9.out.stp sa (by simp)).stp sc (by simp)
              have stc := (st9.out.trans sa.none).trans sc.none
              obtain ⟨U, hU⟩ : ∃ U, wa.heap.size = U := ⟨_, rfl⟩
              rw [hU] at hwc hzb Tc
              have all1 := T2.all
              have all2 := Tc.all
              rw [hCB.out] at all1
              obtain ⟨CC, hCC⟩ : ∃ CC, (cellsBS BS0 (.slice Aa BS0.mind.length capa)) = CC := ⟨_, rfl⟩
              rw [hCC] at hwc hic hlc h1c all2
              have hsame := same13_calls e9 BS0 (.slice A7 BS0.mind.length cap7) (.slice Aa BS0.mind.length capa) wc oc (OwnB.rd bc) (OwnB.rd bd) hbs.out
              rw [hCB.out, hCC] at hsame
              have hi9' : (Try.prog.info? 59).map (·.size) = some CB.length := by rw [hi9.out]; simp
              have hic' : (Try.prog.info? 72).map (·.size) = some CC.length := by rw [hic]; simp
              have rc' : RdB wc oc e9 (.slice Ai7 IM.length capi7) IM := rc
              have rd' : RdB wc oc e9 (.slice Ai IM.length capi) IM := rd
              replace hwb := Lib.hid hwb
              replace hwc := Lib.hid hwc
              replace hzb := Lib.hid hzb
              replace Tc := Lib.hid Tc
              replace hic := Lib.hid hic
              replace hlc := Lib.hid hlc
              replace h1c := Lib.hid h1c
              replace fc := Lib.hid fc
              replace xc := Lib.hid xc
              replace bc := Lib.hid bc
              replace rc := Lib.hid rc
              replace bd := Lib.hid bd
              replace rd := Lib.hid rd
              replace rc' := Lib.hid rc'
              replace rd' := Lib.hid rd'
              replace T2 := Lib.hid T2
              replace stc := Lib.hid stc
              replace hU := Lib.hid hU
              replace hCC := Lib.hid hCC
              replace ba := Lib.hid ba
              replace ra := Lib.hid ra
              replace all1 := Lib.hid all1
              replace all2 := Lib.hid all2
              replace hi9' := Lib.hid hi9'
              replace hic' := Lib.hid hic'
              replace hsame := Lib.hid hsame
              replace sc := Lib.hid sc
              clear sa
              go_wp2_with (refine holdSt 72 ?_)
              apply Hold.mk
              rw [show wa.alloc (.cells (Value.int .i64 0 :: .int .i64 0 :: .int .u8 0 :: .int .u8 0 :: .int .u8 0 :: .int .u8 0 :: .int .u8 0 :: .int .u8 0 :: .int .u8 0 :: .int .u8 0 :: .int .u8 0 :: .int .u8 0 :: .int .u8 0 :: .int .u8 0 :: .int .u8 0 :: .int .u8 0 :: .int .u8 0 :: .int .u8 0 :: .int .u8 0 :: .int .u8 0 :: .int .u8 0 :: .int .u8 0 :: .int .u8 0 :: .int .u8 0 :: .int .u8 0 :: .int .u8 0 :: .int .u8 0 :: .int .u8 0 :: .int .u8 0 :: .int .u8 0 :: .int .u8 0 :: .int .u8 0 :: .int .u8 0 :: .int .u8 0 :: .int .i64 0 :: .string ⟨#[]⟩ :: .slice none 0 0 :: []).toArray 72) = wb from hwb.out, hU.out, hCC.out]
              refine wpList_store_row rfl 72 _ _ rfl U CC.toArray rfl rfl 72 _ hzb.out hic.out hlc.out h1c.out ?_
              rw [hwc.out]
              go_wp2_with (first | (refine list_load rfl 59 _ rfl ⟨T, 0, none⟩ rfl CB _ all1.out Try.underlying59 rfl hi9'.out ?_) | (refine list_load rfl 72 _ rfl ⟨U, 0, none⟩ rfl CC _ all2.out Try.underlying72 rfl hic'.out ?_))
              have hsm := hsame.out
              refine hsm.mono ?_
              clear hsm
              rintro e we ⟨r, oe, rfl, se, rfl⟩
              have fe := fc.out.stp se (by simp)
              have xe := xc.out.stp se (by simp) (by simp)
              have ste := stc.out.trans se.none
              have cv1 := convBS (rc'.out.stp se (by simp)) rfl
              have cv2 := convBS (rd'.out.stp se (by simp)) rfl
              have hokp := fe.ok.2.1
              replace fe := Lib.hid fe
              replace xe := Lib.hid xe
              replace ste := Lib.hid ste
              replace hokp := Lib.hid hokp
              clear se
              go_wp2_with fail
              clear cv1 cv2
              obtain ⟨AP, capP, hvP⟩ := xe.out.shape
              go_loopw [15] (PnI we oe S'.pg.length) (fun x _ => S'.pg.length - (intOf x).toNat)
              case atStart => exact ⟨0, oe, rfl, Nat.zero_le _, Stp.refl _ _ _⟩
              case round =>
                obtain ⟨j, of, rfl, hj, sf⟩ := hrel
                have xf := xe.out.stp sf (by simp) (by simp)
                have c0 := xf.c0
                rw [hvP] at c0 xf
                by_cases hltp : j < S'.pg.length
                · have ff := Lib.hid (fe.out.stp sf (by simp))
                  obtain ⟨ad, vv, qq, ead, hca, hv, hq, hcell, hown, hql⟩ := xf.slot (i := j) hltp
                  subst ead
                  have hbk : hasB S' (j : Int) = true := by simp [hasB]; omega
                  have hE : readE S' (j : Int) = 0 := by rw [readE, hbk]; rfl
                  have hR : readB S' (j : Int) = qq := readB_get hq
                  have hrd := read_calls 1 e9 p g cap S' (j : Int) wr of ff.out
                  rw [hE, hR] at hrd
                  obtain ⟨PL, hPL⟩ : ∃ PL, S'.pg.length = PL := ⟨_, rfl⟩
                  have hk256 : j < 256 := by have := hokp.out; omega
                  rw [hPL] at c0
                  have g5 : decide ((j : Int) < (PL : Int)) = true := decide_eq_true (by omega)
                  have g6 : (0 : Int) ≤ (j : Int) ∧ (j : Int) < (PL : Int) := by omega
                  replace hPL := Lib.hid hPL
                  replace hE := Lib.hid hE
                  replace hR := Lib.hid hR
                  replace hq := Lib.hid hq
                  replace hv := Lib.hid hv
                  replace hca := Lib.hid hca
                  replace xf := Lib.hid xf
                  replace sf := Lib.hid sf
                  replace hql := Lib.hid hql
                  have Hcell := Lib.hid hcell
                  have C0 := Lib.hid c0
                  clear hcell
                  go_wp2_with fail
                  refine hrd.mono ?_
                  clear hrd
                  rintro e wg ⟨r, og, rfl, sg, v2, rfl, h2⟩
                  have d0 := sg.cell C0.out (by simp)
                  have dc := sg.cell Hcell.out (by simp)
                  have hown2 := OwnB.stp hown sg (by simp)
                  obtain ⟨A2, cap2, rfl⟩ := Own.shape h2
                  obtain ⟨A3, cap3, rfl⟩ := Own.shape hown2
                  have h2' : OwnB wg og e9 (.slice A2 qq.length cap2) qq := h2
                  have h3' : OwnB wg og cx (.slice A3 qq.length cap3) qq := hown2
                  have cv1 : ∀ n, (convert 22 9 (.slice A2 qq.length cap2)).run Try.prog (wg.drewN n) = .ok (.string ⟨qq.toArray⟩) (wg.drewN n) := fun n => convBS ((OwnB.rd h2').stp ((Stp.refl [] wg og).drewN n) (by simp)) rfl
                  have cv2 : ∀ n, (convert 22 9 (.slice A3 qq.length cap3)).run Try.prog (wg.drewN n) = .ok (.string ⟨qq.toArray⟩) (wg.drewN n) := fun n => convBS ((OwnB.rd h3').stp ((Stp.refl [] wg og).drewN n) (by simp)) rfl
                  have stg := Lib.hid (sf.out.trans sg)
                  replace h2 := Lib.hid h2
                  replace h2' := Lib.hid h2'
                  replace h3' := Lib.hid h3'
                  replace hown := Lib.hid hown
                  replace hown2 := Lib.hid hown2
                  clear sg c0
                  go_wp2_with fail
                  go_quiet (fail)
                  go_wp2
                  go_roundw
                  case rel => exact ⟨j + 1, og, by go_num, by omega, stg.out.drewN _⟩
                  case measure => simp [intOf]; omega
                · have g5 : decide ((j : Int) < (S'.pg.length : Int)) = false := decide_eq_false (by omega)
                  have fz := Lib.hid (fe.out.stp sf (by simp))
                  have xz := Lib.hid (xe.out.stp sf (by simp) (by simp))
                  have stz := Lib.hid (hs.out.trans ((ste.out.trans sf.none).drop hf9.out))
                  replace sf := Lib.hid sf
                  replace xf := Lib.hid xf
                  go_wp2
                  go_roundw
                  case rel => exact ⟨k + 1, of, S', by go_num, by omega, stz.out, fz.out, xz.out⟩
                  case measure => simp [intOf]; omega
          · have g3 : decide ((k : Int) < 16) = false := decide_eq_false (by omega)
            clear A3
            replace f3 := Lib.hid f3
            replace x3 := Lib.hid x3
            go_wp2_with fail
            refine (last.out (by omega)).mono ?_
            rintro e w9 ⟨r, o9, rfl, s9, rfl⟩
            replace s9 := Lib.hid s9
            go_wp2
            go_ret
            exact Post.mk s9.out rfl
        · have g2 : decide ((k : Int) < (l.length : Int)) = false := decide_eq_false (by omega)
          clear A3
          replace f3 := Lib.hid f3
          replace x3 := Lib.hid x3
          go_wp2_with fail
          refine (last.out (by omega)).mono ?_
          rintro e w9 ⟨r, o9, rfl, s9, rfl⟩
          replace s9 := Lib.hid s9
          go_wp2
          go_ret
          exact Post.mk s9.out rfl

end
end Go.Proofs.Ytpjnmijfmfgdpaa
