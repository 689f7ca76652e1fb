/- Pages: New, Copy, and a nil flash. -/
import Derived.Test.YtpjnmijfmfgdpaaPage2
import Derived.Laws.MakeOwn
namespace Go.Proofs.Ytpjnmijfmfgdpaa
set_option linter.unusedVariables false
set_option linter.unusedSimpArgs false
open Go.RowKit

def zeroPage : List UInt8 := List.replicate 64 0
theorem zeroVbs : vbs zeroPage = List.replicate 64 (.int .u8 0) := by
  rw [vbs, zeroPage, List.map_replicate]
  rfl
theorem rep_bang (v : Value) (m j : Nat) (h : 0 < m) : (List.replicate m v).toArray[j % m]! = v := by
  have := Nat.mod_lt j h
  simp [this]
theorem mkS {w : World} {ops : Array Oper} {rest : List Oper} {op : Oper} {a : Act} {Q : Exit → Act → World → Prop} (x y : Operand) (hgd : op.guard = none) (hop : op.op = .makeSlice 79 x y) (N : Nat) (hx : a.eval x = .int .i64 N) (hy : a.eval y = .int .i64 N) (hN : N ≤ 256)
    (h : ∀ cs : Array Value, cs.size = N * 64 → (∀ j, j < N * 64 → cs[j]? = some (.int .u8 0)) → wpList Try.prog ops Q rest (a.put op.dst (.slice (some ⟨w.heap.size, 0, none⟩) N N)) (w.alloc (.cells cs 82))) : wpList Try.prog ops Q (op :: rest) a w := by
  obtain ⟨i, hi, hz, hsz, hby⟩ : ∃ i, Try.prog.info? 82 = some i ∧ i.zero = some (.agg (vbs zeroPage).toArray) ∧ i.size = 64 ∧ i.bytes = 64 := info_parts (by kernel_rfl)
  have hrun := run_make (P := Try.prog) w 79 82 i _ Try.underlying79 hi hz .i64 .i64 N N (by omega) (by omega) (by rw [hby]; omega) (by omega)
  simp only [Int.toNat_natCast, hsz] at hrun
  refine wpList_plain hgd fun K hK => ?_
  have key := h (madeCells (Value.agg (vbs zeroPage).toArray).cells (N * 64)) (size_madeCells _ _) (fun j hj => by
    rw [madeCells, Value.cells, zeroVbs]
    simp only [Array.getElem?_map]
    rw [Array.getElem?_range, if_pos hj]
    simp only [Option.map_some, List.size_toArray, List.length_replicate]
    rw [rep_bang _ _ _ (by omega)])
  unfold Oper.wp execOp
  simp only [hop, hx, hy, hrun, Sem.run_bind, Sem.run_pure, Result.andThen_ok]
  exact hK _ _ key

theorem Fl.put {w : World} {o : Col} {c p g cap i : Nat} {s : FS} {r q : List UInt8} (h : Fl w o c p g cap s) (hr : s.pg[i]? = some r) (hq : q.length = 64) :
    Fl (w.setCells g (i * 64) (vbs q)) o c p g cap { s with pg := s.pg.set i q } ∧ Stp [c] w o (w.setCells g (i * 64) (vbs q)) o := by
  have hr1 := (h.pgs.at_ i r hr).1
  refine ⟨⟨?_, h.col, ?_, ?_, ?_⟩, setCells_stp g _ _ _ (by rw [h.pgs.col]; simp)⟩
  · refine ((setCells_ne g h.ne _ _ w).trans h.blk).trans ?_
    rw [List.length_set]
  · have := h.pgs.put hr (q := q) (by omega)
    rwa [List.drop_eq_nil_of_le (by omega), List.append_nil] at this
  · rw [List.length_set]; exact h.cap
  · obtain ⟨k1, k2, k3, k4, k5, k6⟩ := h.ok
    exact ⟨set_ok k1 hq, by rw [List.length_set]; exact k2, k3, k4, k5, k6⟩
theorem Fl.fresh {C : List Nat} {w w1 : World} {o o1 : Col} {d p g cap : Nat} {s : FS} (h : Fl w1 o1 d p g cap s) (hs : Stp C w o w1 o1) (hd : ∀ k, k < w.heap.size → o k ≠ d) (c : Nat) : Fl w1 (paint o w.heap.size c) c p g cap s := by
  have hge : ∀ k, o1 k = d → w.heap.size ≤ k := fun k hk => Nat.le_of_not_lt fun hlt => hd k hlt ((hs.col k hlt).symm.trans hk)
  exact ⟨h.blk, paint_ge (hge _ h.col), ⟨h.pgs.blk, paint_ge (hge _ h.pgs.col), h.pgs.at_⟩, h.cap, h.ok⟩
/-- What the walk of 'New' keeps. -/
def NwR (w0 : World) (o0 : Col) (d N : Nat) (bp : List UInt8) (x : Value) (wr : World) : Prop :=
  ∃ (k : Nat) (o' : Col), x = .int .i64 k ∧ k ≤ N ∧ Stp [d] w0 o0 wr o' ∧ Fl wr o' d (w0.heap.size + 1) w0.heap.size N ⟨List.replicate k bp ++ List.replicate (N - k) zeroPage, -1, 0, false⟩
set_option maxHeartbeats 1000000 in
set_option maxRecDepth 100000 in
theorem new_calls (c : Nat) (n : Int) (w : World) (o : Col) (N : Nat) (hN : (N : Int) = min (max n 1) 256) :
    Calls Try.prog 15 #[.int .i64 n] w (Post [] w o fun r w' o' => ∃ p g cap, r = .pointer (some ⟨p, 0, none⟩) ∧ Fl w' o' c p g cap ⟨List.replicate N blankPage, -1, 0, false⟩) := by
  obtain ⟨d, _, _, hd⟩ := fresh o w.heap.size []
  obtain ⟨bp, hbp, hblc, hbl64⟩ : ∃ bp : List UInt8, blankPage = bp ∧ (∀ (w : World) (o : Col), Calls Try.prog 46 #[] w (Post [] w o fun r _ _ => r = .agg (vbs bp).toArray)) ∧ bp.length = 64 := ⟨blankPage, rfl, blank_calls, blank_len⟩
  rw [hbp]
  have hnn : (n < 1 ∧ N = 1) ∨ (¬ n < 1 ∧ 256 < n ∧ N = 256) ∨ (¬ n < 1 ∧ ¬ 256 < n ∧ n = N) := by omega
  have hN1 : 1 ≤ N ∧ N ≤ 256 := by omega
  rcases hnn with ⟨h1, h3⟩ | ⟨h1, h2, h3⟩ | ⟨h1, h2, rfl⟩
  all_goals clear hN
  all_goals
    go_enter Try.func15, Try.ntmps15
    go_wp2_with (refine holdAt 8 ?_)
    apply Hold.mk
    refine mkS _ _ rfl rfl N (by first | rfl | (subst h3; rfl)) (by first | rfl | (subst h3; rfl)) (by omega) ?_
    intro cs hcs hz
    clear h1
    try clear h3
    try clear h2
    go_wp2_with fail
    go_loopw [16] (NwR w o d N bp) (fun i _ => N - (intOf i).toNat)
    case atStart =>
      refine ⟨0, paint (paint o w.heap.size d) (w.alloc (.cells cs 82)).heap.size d, rfl, Nat.zero_le _, ((Stp.refl [d] w o).alloc _ d).alloc _ d, ?_⟩
      have hlast : List.replicate 0 bp ++ List.replicate (N - 0) zeroPage = List.replicate N zeroPage := by simp
      rw [hlast]
      refine ⟨?_, ?_, ⟨⟨cs, ?_, ?_⟩, ?_, ?_⟩, ?_, ?_⟩
      · rw [show w.heap.size + 1 = (w.alloc (.cells cs 82)).heap.size from by simp, List.length_replicate]
        exact heap_alloc_new _ _
      · rw [paint_ge (by simp)]
      · rw [heap_alloc_old _ _ (by simp)]
        exact heap_alloc_new _ _
      · rw [List.length_replicate]; omega
      · rw [paint_lt (by simp), paint_at]
      · intro i q hq
        rw [List.getElem?_replicate] at hq
        split at hq
        · injection hq with hq
          subst hq
          refine ⟨by simp [zeroPage], fun j v hv => ?_⟩
          rw [zeroVbs, List.getElem?_replicate] at hv
          split at hv
          · injection hv with hv
            subst hv
            rw [blk_cell (cs := cs) (t := 82) (fz := (0, 0)) (by rw [heap_alloc_old _ _ (by simp)]; exact heap_alloc_new _ _)]
            exact hz _ (by omega)
          · cases hv
        · cases hq
      · rw [List.length_replicate]; omega
      · refine ⟨fun q hq => by rw [(List.mem_replicate.1 hq).2]; simp [zeroPage], by rw [List.length_replicate]; omega, by show (-1 : Int) ≤ -1; omega, by show (-1 : Int) ≤ _; omega, by show (0 : Int) ≤ 0; omega, by show (0 : Int) ≤ 64; omega⟩
    case round =>
      obtain ⟨k, o1, rfl, hk, hs, hfl⟩ := hrel
      have h0 := hfl.c0
      obtain ⟨pg, hpg⟩ : ∃ pg, List.replicate k bp ++ List.replicate (N - k) zeroPage = pg := ⟨_, rfl⟩
      have hpl : pg.length = N := by rw [← hpg]; simp; omega
      rw [hpg] at hfl h0
      rw [hpl] at h0
      by_cases hlt : k < N
      · have h1 : (0 : Int) ≤ (k : Int) ∧ (k : Int) < (N : Int) := by omega
        have hne := hfl.ne
        have hu := Try.underlying82
        have hi64 : (Try.prog.info? 82).map (·.size) = some (vbs bp).length := by rw [vbs_length, hbl64]; kernel_rfl
        have hl64 : (vbs bp).length = 64 := by rw [vbs_length, hbl64]
        have hone := vbs_one bp
        have Hpg := Lib.hid hpg
        have Hfl := Lib.hid hfl
        have Hs := Lib.hid hs
        clear hpg hfl hs
        have kt0 := Hfl.out.pgs.there (i := k) (by show k < pg.length; omega)
        have h0d : wr.drew.cell? ⟨w.heap.size + 1, 0, none⟩ = some (.slice (some ⟨w.heap.size, 0, none⟩) N N) := h0
        have kt0d : wr.drew.there w.heap.size (k * 64) 64 := kt0
        go_wp2_with fail
        go_region_held (fun w' => w'.cell? ⟨w.heap.size + 1, 0, none⟩ = some (.slice (some ⟨w.heap.size, 0, none⟩) N N) ∧ w'.there w.heap.size (k * 64) 64) (first | with_reducible exact ⟨h0d, kt0d⟩ | with_reducible exact ⟨h0, kt0⟩ | with_reducible exact ⟨hwa0, hwat⟩ | with_reducible exact ⟨hwb0, hwbt⟩)
          ((go_at_call 46; refine (hblc _ o1).mono ?_; rintro e wa ⟨ra, oa, rfl, sa, rfl⟩; have hwa := Lib.hid ((Hfl.out.stp (Stp.refl [] wr o1).drew (by simp)).stp sa (by simp)); have hwa0 := hwa.out.c0.trans (by rw [hpl]); have hwat := hwa.out.pgs.there (i := k) (by show k < pg.length; omega); have hwb0 := (World.cell?_setCells_out w.heap.size (vbs bp) (k * 64) wa ⟨w.heap.size + 1, 0, none⟩ (fun e => absurd e hne)).trans hwa0; have hwbt := World.there_setCells hwat w.heap.size (k * 64) (vbs bp)))
        obtain ⟨r, hr⟩ : ∃ r, pg[k]? = some r := ⟨pg[k], by simp [hpl, hlt]⟩
        have hput := Lib.hid (hwa.out.put (s := ⟨pg, -1, 0, false⟩) hr hbl64)
        have Hst := Lib.hid ((Hs.out.drew).trans (sa.none.trans hput.out.2))
        clear sa hwa hwat hwb0 hwbt hwa0 h0d kt0d kt0 h0
        go_wp2_with fail
        go_roundw
        case rel =>
          refine ⟨k + 1, oa, by go_num, by omega, Hst.out, ?_⟩
          have := hput.out.1
          rwa [← Hpg.out, set_fill bp zeroPage hlt] at this
        case measure => simp [intOf]; omega
      · have hkN : k = N := by omega
        subst hkN
        rw [Nat.sub_self, List.replicate_zero, List.append_nil] at hpg
        have Hfl := Lib.hid hfl
        have Hs := Lib.hid hs
        clear hfl hs
        go_wp2
        go_ret
        refine Post.mk ((Hs.out.drop hd).repaint c) ⟨w.heap.size + 1, w.heap.size, k, rfl, ?_⟩
        have := Hfl.out.fresh Hs.out hd c
        rwa [← hpg] at this

end Go.Proofs.Ytpjnmijfmfgdpaa
