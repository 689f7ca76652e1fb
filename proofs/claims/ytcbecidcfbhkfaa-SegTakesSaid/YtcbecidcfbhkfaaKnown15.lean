/- Messages in frames: New, Errors, Open; what is known at once. -/
import Derived.Test.YtcbecidcfbhkfaaSegL
import Derived.Laws.IdiomStrings
import Derived.Laws.BytesArg
import Derived.Lib.SlBytesConst
namespace Go.Proofs.Ytcbecidcfbhkfaa
set_option linter.unusedVariables false
set_option linter.unusedSimpArgs false
open Go.RowKit Go.ChangeMaps

/-- string(b), b read. -/
theorem convBS {w : World} {o : Col} {c cap n : Nat} {A : Option Addr} {l : List UInt8} (h : RdB w o c (.slice A n cap) l) (hn : n = l.length) : (convert 22 9 (.slice A n cap)).run Try.prog w = .ok (.string ⟨l.toArray⟩) w := by
  subst hn
  cases A with
  | none =>
    have hl : l = [] := by
      cases l with
      | nil => rfl
      | cons x l =>
        obtain ⟨a, e, _⟩ := h.at_ (j := 0) (by simp)
        cases e
    subst hl
    exact run_convert_bytes_nil w 22 5 Try.underlying22 Try.underlying5 _ _ 9 Try.underlying9
  | some a =>
    refine run_convert_bytes_back w 22 9 5 a cap l Try.underlying22 Try.underlying5 Try.underlying9 (fun j hj => ?_)
    obtain ⟨a', e, hc⟩ := h.at_ hj
    injection e with e
    subst e
    exact hc
def noJ : JS := ⟨fun _ => none, 0, 0⟩
theorem noJ_ok : noJ.ok := fun id e h => by cases h
set_option maxHeartbeats 1000000 in
theorem newJ_calls (c : Nat) (w : World) (o : Col) : Calls Try.prog 15 #[] w (Post [] w o fun r w' o' => ∃ p mb, r = .pointer (some ⟨p, 0, none⟩) ∧ JFl w' o' c p mb (fun _ => 0) (fun _ => .slice none 0 0) noJ) := by
  have hmk := World.ownsMap_made (H := Unit) w Try.prog 3 ptrElem
  have s1 := (Stp.refl [] w o).alloc (.map #[] 0) c
  have s2 := s1.alloc (.cells #[.map (some w.heap.size), .int .i64 0] 60) c
  have fin : JFl ((w.alloc (.map #[] 0)).alloc (.cells #[.map (some w.heap.size), .int .i64 0] 60)) (paint (paint o w.heap.size c) (w.alloc (.map #[] 0)).heap.size c) c (w.heap.size + 1) w.heap.size (fun _ => 0) (fun _ => .slice none 0 0) noJ := by
    have hsz : (w.alloc (.map #[] 0)).heap.size = w.heap.size + 1 := by simp
    refine ⟨by rw [← hsz]; exact heap_alloc_new _ _, by rw [← hsz]; exact paint_at _ _ _, ?_, ⟨.map [], hmk.alloc _, fun id => rfl, fun id => rfl, rfl⟩, fun id e h => by (cases h), fun i j e e' h => by (cases h)⟩
    rw [paint_lt (by simp), paint_at]
  replace fin := Lib.hid fin
  replace s2 := Lib.hid s2
  have hrun := run_makeMap (P := Try.prog) 58 w
  clear s1 hmk
  go_enter Try.func15, Try.ntmps15
  go_wp2
  go_ret
  exact Post.mk s2.out ⟨_, _, rfl, fin.out⟩
theorem errors_calls (c p mb : Nat) (Q : Int → Nat) (V : Int → Value) (s : JS) (w : World) (o : Col) (h : JFl w o c p mb Q V s) : Calls Try.prog 18 #[.pointer (some ⟨p, 0, none⟩)] w fun e w' => e = .returned (.int .i64 s.err) ∧ w = w' := by
  have c1 := h.c1
  go_enter Try.func18, Try.ntmps18
  go_wp2
  go_ret
  exact ⟨rfl, rfl⟩
theorem open_calls (c p mb : Nat) (Q : Int → Nat) (V : Int → Value) (s : JS) (w : World) (o : Col) (h : JFl w o c p mb Q V s) : Calls Try.prog 19 #[.pointer (some ⟨p, 0, none⟩)] w fun e w' => e = .returned (.int .i64 s.cnt) ∧ w = w' := by
  have c0 := h.c0
  obtain ⟨D, hD⟩ := h.map
  have hsz := hD.size
  have hown := hD.own
  replace hD := Lib.hid hD
  replace hsz := Lib.hid hsz
  replace h := Lib.hid h
  go_enter Try.func19, Try.ntmps19
  go_wp2_with (refine holdAt 9 ?_)
  apply Hold.mk
  refine wpList_len_own w rfl _ _ rfl _ _ Try.underlying58 _ mb _ D rfl hown ?_
  rw [hsz.out]
  go_wp2
  go_ret
  exact ⟨rfl, rfl⟩

set_option maxHeartbeats 1000000 in
theorem takeNil_calls (id : Int) (c2 : Nat) (vd : Value) (d : List UInt8) (now : Int) (w : World) (o : Col) (hd : RdB w o c2 vd d) :
    Calls Try.prog 16 #[.pointer none, .agg #[.int .i64 id, vd], .int .i64 now] w (Post [] w o fun r _ _ => r = .tuple #[.slice none 0 0, .bool false]) := by
  obtain ⟨A, cap, rfl, hlc, hA⟩ := hd.shape
  go_enter Try.func16, Try.ntmps16
  go_wp2
  refine bodyPost_ret (results_tmp2 rfl _ _ _) rfl ?_
  exact Post.mk ((Stp.refl [] w o).alloc _ 0) rfl
theorem errorsNil_calls (w : World) : Calls Try.prog 18 #[.pointer none] w fun e w' => e = .returned (.int .i64 0) ∧ w = w' := by
  go_enter Try.func18, Try.ntmps18
  go_wp2
  go_ret
  exact ⟨rfl, rfl⟩
theorem openNil_calls (w : World) : Calls Try.prog 19 #[.pointer none] w fun e w' => e = .returned (.int .i64 0) ∧ w = w' := by
  go_enter Try.func19, Try.ntmps19
  go_wp2
  go_ret
  exact ⟨rfl, rfl⟩

theorem Frs.at_ {w : World} {o : Col} {c : Nat} {v : Value} {l : List (Int × List UInt8)} (h : Frs w o c v l) {k : Nat} {x : Int × List UInt8} (hx : l[k]? = some x) :
    ∃ a cap vd, v = .slice (some a) l.length cap ∧ l.length ≤ cap ∧ o (a.add (k * 2)).block = c ∧ w.cell? (a.add (k * 2)) = some (.int .i64 x.1) ∧ w.cell? ((a.add (k * 2)).add 1) = some vd ∧ RdB w o c vd x.2 := by
  obtain ⟨A, cap, h1, h2, h3, h4⟩ := h
  obtain ⟨a, vd, rfl, ha, c1, c2, hr⟩ := h4 k x hx
  exact ⟨a, cap, vd, h1, h2, by rw [add_block]; exact ha, c1, by rw [add_add]; exact c2, hr⟩
/-- A struct is loaded whole: its cells. -/
theorem load_cells {w : World} {ops : Array Oper} {rest : List Oper} {op : Oper} {a : Act} {Q : Exit → Act → World → Prop} (hgd : op.guard = none) (ty : TypeId) (x : Operand) (ho : op.op = .load ty x) (ad : Addr) (hx : a.eval x = .pointer (some ad)) (cs : List Value) (d : TypeDesc)
    (hc : ∀ (j : Nat) (u : Value), cs[j]? = some u → w.cell? (ad.add j) = some u) (hu : Try.prog.underlying ty = some d) (hd : d.isRow = true) (hi : (Try.prog.info? ty).map (·.size) = some cs.length) (h : wpList Try.prog ops Q rest (a.put op.dst (.agg cs.toArray)) w) : wpList Try.prog ops Q (op :: rest) a w := by
  refine wpList_plain hgd fun K hK => ?_
  have hl : (loadCells ad cs.length).run Try.prog w = .ok cs.toArray w := run_loadCells_list (P := Try.prog) w ad cs hc
  have hr : (loadVar ty ad).run Try.prog w = .ok (.agg cs.toArray) w := by
    cases hq : Try.prog.info? ty with
    | none => simp [hq] at hi
    | some i =>
      have hs : i.size = cs.length := by simpa [hq] using hi
      have hagg : (isAgg ty).run Try.prog w = .ok true w := by
        unfold isAgg
        rw [Sem.run_bind, run_underlying hu w]
        cases d <;> simp_all
      simp [loadVar, Sem.run_bind, hagg, sizeOf, typeInfo, hq, hs, hl]
  unfold Oper.wp execOp
  simp only [ho, hx, Instr.loadAt, Instr.sureAddr, Sem.run_bind, Sem.run_pure, Result.andThen_ok, hr]
  exact hK _ _ h

def m8 : List UInt8 := [49, 50, 51, 52, 53, 54, 55, 56]
theorem known_take : (takeJ noJ 1 (firstF m8) 0).2 = none ∧ (takeJ (takeJ noJ 1 (firstF m8) 0).1 1 (contF m8 0) 0).2 = some m8 := by decide +kernel
set_option maxHeartbeats 2000000 in
set_option maxRecDepth 100000 in
theorem known15_calls (w : World) (o : Col) : Calls Try.prog 14 #[] w (Post [] w o fun r _ _ => r = .bool true) := by
  obtain ⟨cj, _, hcj0, hcj⟩ := fresh o w.heap.size []
  replace hcj0 : (0 : Nat) ≠ cj := Ne.symm hcj0
  have hE : splitE 1 m8 = 0 := by decide
  have hL : splitL 1 m8 = [firstF m8, contF m8 0] := by rw [splitL, if_pos hE]; rfl
  obtain ⟨kt1, kt2⟩ := known_take
  have hconst := constB w #[.int .u8 49, .int .u8 50, .int .u8 51, .int .u8 52, .int .u8 53, .int .u8 54, .int .u8 55, .int .u8 56] 8 8
  have rd := Lib.hid (RdB.newz w o 0 #[.int .u8 49, .int .u8 50, .int .u8 51, .int .u8 52, .int .u8 53, .int .u8 54, .int .u8 55, .int .u8 56] m8 rfl 8 rfl (by omega) 5 (8, 9) _ rfl)
  have s0 := Lib.hid ((Stp.refl [] w o).alloc (.cells #[.int .u8 49, .int .u8 50, .int .u8 51, .int .u8 52, .int .u8 53, .int .u8 54, .int .u8 55, .int .u8 56] 5 (8, 9)) 0)
  have hu := Lib.hid Try.underlying37
  replace kt1 := Lib.hid kt1
  replace kt2 := Lib.hid kt2
  go_enter Try.func14, Try.ntmps14
  go_wp2_with fail
  refine (split_calls 0 0 1 _ m8 _ _ rd.out).mono ?_
  rintro e w1 ⟨r, o1, rfl, s1, vl, rfl, fr1⟩
  rw [hE]
  rw [hL] at fr1
  obtain ⟨a, cap, vd0, rfl, hlc, _, _, _, _⟩ := fr1.at_ (k := 0) (x := (1, firstF m8)) rfl
  clear hconst
  replace s1 := Lib.hid (s0.out.trans s1)
  replace fr1 := Lib.hid fr1
  simp only [List.length_map, List.length_cons, List.length_nil, Nat.zero_add] at hlc ⊢
  go_wp2_with fail
  refine (newJ_calls cj w1 o1).mono ?_
  rintro e w2 ⟨r, o2, rfl, s2, p, mb, rfl, j2⟩
  have fr2 := fr1.out.stp s2 (by simp)
  obtain ⟨a', cap', vd0, e, _, hc0, q0, q1, rd0⟩ := fr2.at_ (k := 0) (x := (1, firstF m8)) rfl
  injection e with e _ _
  injection e with e
  subst e
  replace s2 := Lib.hid (s1.out.trans s2)
  replace fr2 := Lib.hid fr2
  replace j2 := Lib.hid j2
  replace rd0 := Lib.hid rd0
  replace q0 := Lib.hid q0
  replace q1 := Lib.hid q1
  replace hc0 := Lib.hid hc0
  go_wp2_with (refine holdAt 30 ?_)
  apply Hold.mk
  refine load_cells rfl _ _ rfl (a.add (0 * 2)) rfl [.int .i64 1, vd0] _ (fun j u hj => ?_) hu.out rfl (by kernel_rfl) ?_
  · match j, hj with
    | 0, hj => injection hj with hj; subst hj; exact q0.out
    | 1, hj => injection hj with hj; subst hj; exact q1.out
  go_wp2_with fail
  refine (take_calls cj 0 p mb _ _ noJ 1 vd0 (firstF m8) 0 _ _ j2.out noJ_ok (by decide) (by decide) (by decide) (by decide) (by decide) rd0.out (by assumption) (by decide)).mono ?_
  rw [kt1.out]
  rintro e w3 ⟨r, o3, rfl, s3, v3, rfl, _, Q3, V3, j3⟩
  have n0 : (0 : Nat) ∉ [cj] := by simpa using hcj0
  have fr3 := fr2.out.stp s3 n0
  obtain ⟨a', cap', vd1, e, _, hc1, q2, q3, rd1⟩ := fr3.at_ (k := 1) (x := (1, contF m8 0)) rfl
  injection e with e _ _
  injection e with e
  subst e
  have ok1 := Lib.hid (takeJ_ok noJ_ok 1 (firstF m8) 0 (by decide) (by decide))
  have er1 := Lib.hid (takeJ_err noJ 1 (firstF m8) 0)
  replace s3 := Lib.hid (s2.out.none.trans s3)
  replace fr3 := Lib.hid fr3
  replace j3 := Lib.hid j3
  replace rd1 := Lib.hid rd1
  replace q2 := Lib.hid q2
  replace q3 := Lib.hid q3
  replace hc1 := Lib.hid hc1
  have b1 : (takeJ noJ 1 (firstF m8) 0).1.err ≤ 900000 := by have := er1.out.1; show _ ≤ 900000; have h0 : noJ.err = 0 := rfl; omega
  have b2 : (takeJ noJ 1 (firstF m8) 0).1.cnt ≤ 900000 := by have := er1.out.2; show _ ≤ 900000; have h0 : noJ.cnt = 0 := rfl; omega
  obtain ⟨J1, hJ1⟩ : ∃ J1, (takeJ noJ 1 (firstF m8) 0).1 = J1 := ⟨_, rfl⟩
  rw [hJ1] at b1 b2 ok1 j3 kt2
  clear er1 hJ1
  go_wp2_with (refine holdAt 38 ?_)
  apply Hold.mk
  refine load_cells rfl _ _ rfl (a.add (1 * 2)) rfl [.int .i64 1, vd1] _ (fun j u hj => ?_) hu.out rfl (by kernel_rfl) ?_
  · match j, hj with
    | 0, hj => injection hj with hj; subst hj; exact q2.out
    | 1, hj => injection hj with hj; subst hj; exact q3.out
  go_wp2_with fail
  refine (take_calls cj 0 p mb _ _ J1 1 vd1 (contF m8 0) 0 _ _ j3.out ok1.out (by decide) b1 b2 (by decide) (by decide) rd1.out hcj0 (by decide)).mono ?_
  rw [kt2.out]
  rintro e w4 ⟨r, o4, rfl, s4, v4, rfl, r4, Q4, V4, j4⟩
  rw [Option.getD_some] at r4
  obtain ⟨A4, cap4, rfl, _, _⟩ := r4.shape
  have cv := convBS r4 rfl
  rw [show (⟨m8.toArray⟩ : ByteArray) = ⟨#[49, 50, 51, 52, 53, 54, 55, 56]⟩ from rfl] at cv
  replace s4 := Lib.hid (s3.out.trans s4)
  replace j4 := Lib.hid j4
  replace r4 := Lib.hid r4
  go_wp2
  go_ret
  exact Post.mk (s4.out.drop hcj) rfl

end Go.Proofs.Ytcbecidcfbhkfaa
