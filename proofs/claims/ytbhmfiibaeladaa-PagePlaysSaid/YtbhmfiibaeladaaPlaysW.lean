/- PagePlays: the walk. -/
import Derived.Test.YtbhmfiibaeladaaPlays
namespace Go.Proofs.Ytbhmfiibaeladaa
set_option linter.unusedVariables false
set_option linter.unusedSimpArgs false
open Go.RowKit

/-- A struct is loaded whole: its cells. -/
theorem load_cells {w : World} {ops : Array Oper} {rest : List Oper} {op : Oper} {a : Act} {Q : Exit → Act → World → Prop} (hgd : op.guard = none) (ty : TypeId) (x : Operand) (ho : op.op = .load ty x) (ad : Addr) (hx : a.eval x = .pointer (some ad)) (cs : List Value) (d : TypeDesc)
    (hc : ∀ (j : Nat) (u : Value), cs[j]? = some u → w.cell? (ad.add j) = some u) (hu : Try.prog.underlying ty = some d) (hd : d.isRow = true) (hi : (Try.prog.info? ty).map (·.size) = some cs.length) (h : wpList Try.prog ops Q rest (a.put op.dst (.agg cs.toArray)) w) : wpList Try.prog ops Q (op :: rest) a w := by
  refine wpList_plain hgd fun K hK => ?_
  have hl : (loadCells ad cs.length).run Try.prog w = .ok cs.toArray w := run_loadCells_list (P := Try.prog) w ad cs hc
  have hr : (loadVar ty ad).run Try.prog w = .ok (.agg cs.toArray) w := by
    cases hq : Try.prog.info? ty with
    | none => simp [hq] at hi
    | some i =>
      have hs : i.size = cs.length := by simpa [hq] using hi
      have hagg : (isAgg ty).run Try.prog w = .ok true w := by
        unfold isAgg
        rw [Sem.run_bind, run_underlying hu w]
        cases d <;> simp_all
      simp [loadVar, Sem.run_bind, hagg, sizeOf, typeInfo, hq, hs, hl]
  unfold Oper.wp execOp
  simp only [ho, hx, Instr.loadAt, Instr.sureAddr, Sem.run_bind, Sem.run_pure, Result.andThen_ok, hr]
  exact hK _ _ h

/-- What the loop of PagePlays keeps. -/
def PlR (w0 : World) (o0 : Col) (C : List Nat) (cx ex p g cap px : Nat) (vP : Value) (vs : List Value) (n : Nat) (x : Value) (wr : World) : Prop :=
  ∃ (k : Nat) (o' : Col) (s : FS), x = .int .i64 k ∧ k ≤ n ∧ Stp C w0 o0 wr o' ∧ Fl wr o' 1 p g cap s ∧ XFl wr o' cx ex px vP vs s
set_option maxHeartbeats 2000000 in
set_option maxRecDepth 100000 in
theorem plays_law (n : Int) (v : Value) (l : List ActL) (w : World) (hn : (Lit.int .i64 n).wf = true) (h : Acts w (fun _ => 0) 0 v l) : Calls Try.prog 6 #[.int .i64 n, v] w (Post [] w (fun _ => 0) fun r _ _ => r = .bool true) := by
  obtain ⟨⟨A, cap0, rfl, hl, hb, hc⟩, hby⟩ := h
  have hA : Acts w (fun _ => 0) 0 (.slice A l.length cap0) l := ⟨⟨A, cap0, rfl, hl, hb, hc⟩, hby⟩
  replace hc := Lib.hid hc
  go_enter Try.func6, Try.ntmps6
  go_wp2_with fail
  refine (long_calls 0 _ l w _ hA).mono ?_
  rintro e w' ⟨b, rfl, rfl⟩
  cases b with
  | true =>
    go_wp2
    go_ret
    exact Post.mk (Stp.refl _ _ _) rfl
  | false =>
    by_cases hn30 : 30 < n
    · have g1 : decide (30 < n) = true := decide_eq_true hn30
      go_wp2
      go_ret
      exact Post.mk (Stp.refl _ _ _) rfl
    · have g1 : decide (30 < n) = false := decide_eq_false hn30
      obtain ⟨N, hN⟩ : ∃ N : Nat, (N : Int) = min (max n 1) 256 := ⟨(min (max n 1) 256).toNat, by omega⟩
      go_wp2_with fail
      refine (new_calls 1 n w (fun _ => 0) N hN).mono ?_
      rintro e w1 ⟨r, o1, rfl, s1, p, g, cap, rfl, f1⟩
      obtain ⟨cx, hx1, hx2, hx3⟩ := fresh o1 w1.heap.size [0, 1]
      obtain ⟨ex, he1, he2, he3⟩ := fresh o1 w1.heap.size [0, 1, cx]
      simp only [List.mem_cons, List.not_mem_nil, or_false, not_or] at hx1 he1
      obtain ⟨S0, hS0⟩ : ∃ S0, (⟨List.replicate N blankPage, -1, 0, false⟩ : FS) = S0 := ⟨_, rfl⟩
      rw [hS0] at f1
      replace f1 := Lib.hid f1
      go_wp2_with fail
      refine (xnew_calls cx ex n w1 o1 N hN hx3 he3 (fun e => he1.2.2 e.symm)).mono ?_
      rintro e w2 ⟨r, o2, rfl, s2, px, vP, vs, rfl, x2⟩
      rw [hS0] at x2
      have f2 := Lib.hid (f1.out.stp s2 (by simp))
      have st := Lib.hid (s1.trans s2)
      have A2 := Lib.hid (hA.stp (s1.trans s2) (by simp))
      replace x2 := Lib.hid x2
      replace hx1 := Lib.hid hx1
      replace he1 := Lib.hid he1
      replace hN := Lib.hid hN
      clear s1 s2 hS0 f1 hx3 he3
      go_wp2_with fail
      go_loopw [7] (PlR w2 o2 [1, cx, ex] cx ex p g cap px vP vs l.length) (fun x _ => l.length - (intOf x).toNat)
      case atStart => exact ⟨0, o2, S0, rfl, Nat.zero_le _, Stp.refl _ _ _, f2.out, x2.out⟩
      case round =>
        obtain ⟨k, o3, s, rfl, hk, hs, f3, x3⟩ := hrel
        replace f3 := Lib.hid f3
        replace x3 := Lib.hid x3
        have hC0 : ¬ 0 ∈ [1, cx, ex] := by simp; exact ⟨fun e => hx2 e.symm, fun e => he2 e.symm⟩
        have A3 := A2.out.stp hs hC0
        have hCl : ∀ kk, kk < w.heap.size → (fun _ => 0 : Col) kk ∉ [1, cx, ex] := fun _ _ => hC0
        replace hs := Lib.hid hs
        have last : (¬ k < l.length ∨ ¬ k < 80) → Calls Try.prog 13 #[] wr (Post [] w (fun _ => 0) fun r _ _ => r = .bool true) := by
          intro _
          refine (known11_calls wr o3).mono ?_
          rintro e w9 ⟨r, o9, rfl, s9, rfl⟩
          have t := st.out.none.trans (hs.out.trans s9.none)
          exact Post.mk (t.law hC0) rfl
        replace last := Lib.hid last
        by_cases hlt : k < l.length
        · have g2 : decide ((k : Int) < (l.length : Int)) = true := decide_eq_true (by omega)
          by_cases hk80 : k < 80
          · have g3 : decide ((k : Int) < 80) = true := decide_eq_true (by omega)
            have g4 : (0 : Int) ≤ (k : Int) ∧ (k : Int) < (l.length : Int) := by omega
            obtain ⟨⟨A', cap', e1, _, _, hc3⟩, hby3⟩ := A3
            injection e1 with e1 _ cap_eq
            subst e1
            obtain ⟨a, rfl, _, hcell⟩ := hc3 (by omega)
            obtain ⟨x, hx⟩ : ∃ x, l[k]? = some x := ⟨l[k], by simp [hlt]⟩
            have hcx := hcell k x hx
            obtain ⟨hbx, hnx⟩ := hby3 x (List.mem_of_getElem? hx)
            replace hbx := Lib.hid hbx
            replace hcx := Lib.hid hcx
            have hu := Lib.hid Try.underlying42
            clear hcell hc3 hby3
            go_wp2_with (refine holdAt 35 ?_)
            apply Hold.mk
            refine load_cells rfl _ _ rfl (a.add (k * 5)) rfl x.cells _ (fun j u hj => by rw [add_add]; exact hcx.out j u hj) hu.out rfl (by kernel_rfl) ?_
            clear cap_eq
            go_wp2_with fail
            refine (act_calls 1 p g cap cx ex px vP vs s x _ _ f3.out x3.out hbx.out hnx (by decide) hx2 he2 (fun e => hx1.out.2 e.symm) (fun e => he1.out.2.1 e.symm) (fun e => he1.out.2.2 e.symm)).mono ?_
            rintro e w4 ⟨r, o4, rfl, s4, rfl, f4, x4⟩
            have s5 := Lib.hid (hs.out.trans s4)
            replace f4 := Lib.hid f4
            replace x4 := Lib.hid x4
            clear s4
            go_wp2_with fail
            refine (alike_calls 1 p g cap cx ex px vP vs _ _ _ f4.out x4.out).mono ?_
            rintro e w5 ⟨r, o5, rfl, s6, rfl⟩
            have f5 := Lib.hid (f4.out.stp s6 (by simp))
            have x5 := Lib.hid (x4.out.stp s6 (by simp) (by simp))
            have s7 := Lib.hid (s5.out.trans s6.none)
            clear s6
            go_wp2
            go_roundw
            case rel => exact ⟨k + 1, o5, actS s x, by go_num, by omega, s7.out, f5.out, x5.out⟩
            case measure => simp [intOf]; omega
          · have g3 : decide ((k : Int) < 80) = false := decide_eq_false (by omega)
            clear A3
            go_wp2_with fail
            refine (last.out (by omega)).mono ?_
            rintro e w9 ⟨r, o9, rfl, s9, rfl⟩
            replace s9 := Lib.hid s9
            go_wp2
            go_ret
            exact Post.mk s9.out rfl
        · have g2 : decide ((k : Int) < (l.length : Int)) = false := decide_eq_false (by omega)
          clear A3
          go_wp2_with fail
          refine (last.out (by omega)).mono ?_
          rintro e w9 ⟨r, o9, rfl, s9, rfl⟩
          replace s9 := Lib.hid s9
          go_wp2
          go_ret
          exact Post.mk s9.out rfl

end Go.Proofs.Ytbhmfiibaeladaa
