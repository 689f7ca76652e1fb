/- Pages: the document's flash: New. -/
import Derived.Test.YtpjnmijfmfgdpaaRef11b
import Derived.Test.YtpjnmijfmfgdpaaPage3
namespace Go.Proofs.Ytpjnmijfmfgdpaa
set_option linter.unusedVariables false
set_option linter.unusedSimpArgs false
open Go.RowKit

theorem slR : SlT Try.prog 42 22 1 24 (.slice none 0 0) := ⟨Try.underlying42, info_parts (by kernel_rfl), by kernel_rfl, by omega⟩
/-- What the inner loop of New keeps: a row that grows. -/
def NxI (w0 : World) (o0 : Col) (d : Nat) (x y : Value) (wr : World) : Prop :=
  ∃ (k : Nat) (o' : Col), y = .int .i64 k ∧ k ≤ 64 ∧ Stp [d] w0 o0 wr o' ∧ OwnB wr o' d x (List.replicate k 255)
/-- .. the outer one. -/
def NxO (w0 : World) (o0 : Col) (c e p N : Nat) (x : Value) (wr : World) : Prop :=
  ∃ (k : Nat) (o' : Col) (vP : Value) (vs : List Value), x = .int .i64 k ∧ k ≤ N ∧ Stp [c, e] w0 o0 wr o' ∧ XFl wr o' c e p vP vs ⟨List.replicate k blankPage, -1, 0, false⟩
/-- A row is laid behind the rows. -/
theorem XFl.push {w w' : World} {o o' : Col} {c e p n cap : Nat} {A : Option Addr} {vP v : Value} {vs : List Value} {s : FS} {q : List UInt8} (h : XFl w o c e p vP vs s) (hs : Stp [e] w o w' o') (hce : c ≠ e) (hg : w.grownBy w' vP.ownBlock)
    (ho : Own w' o' e 22 1 (.slice A n cap) n (vs ++ [v])) (hr : OwnB w o c v q) (hq : q.length = 64) (hl : s.pg.length + 1 ≤ 256) (hap : ∀ (i : Nat) (u : Value), vs[i]? = some u → ∀ k : Nat, v.ownBlock = some k → u.ownBlock ≠ some k) :
    XFl (w'.setCell ⟨p, 0, none⟩ (.slice A n cap)) o' c e p (.slice A n cap) (vs ++ [v]) { s with pg := s.pg ++ [q] } := by
  have hp := (Array.getElem?_eq_some_iff.1 h.blk).1
  have hb : w'.heap[p]? = _ := (hg.block p hp (fun e1 => Own.ne h.own h.blk (by decide) e1.symm)).trans h.blk
  obtain ⟨a1, a2, a3, a4, a5, a6⟩ := h.ok
  have hn : n = (vs ++ [v]).length := by have := ho.own.1; omega
  refine ⟨blk_set hb _, (hs.colb h.blk).trans h.col, ?_, ?_, ?_, ?_, ?_⟩
  · rw [← hn]
    exact ho.set (ho.ne hb (by decide)) _
  · simp [h.len]
  · intro i u q' h1 h2
    have key : OwnB w o c u q' := by
      by_cases hi : i < vs.length
      · rw [List.getElem?_append_left hi] at h1
        rw [List.getElem?_append_left (by rw [← h.len]; exact hi)] at h2
        exact h.row i u q' h1 h2
      · rw [List.getElem?_append_right (by omega)] at h1
        rw [List.getElem?_append_right (by rw [← h.len]; omega)] at h2
        have e0 : i - vs.length = 0 := by
          have := (List.getElem?_eq_some_iff.1 h1).1
          simp at this
          omega
        rw [e0] at h1
        rw [← h.len, e0] at h2
        simp only [List.getElem?_cons_zero, Option.some.injEq] at h1 h2
        subst h1
        subst h2
        exact hr
    have key2 := OwnB.stp key hs (by simpa using hce)
    exact Own.set key2 (Own.ne key2 hb (by decide)) _
  · intro i j u u' hij h1 h2 k hk
    by_cases hi : i < vs.length
    · rw [List.getElem?_append_left hi] at h1
      by_cases hj : j < vs.length
      · rw [List.getElem?_append_left hj] at h2
        exact h.apart i j u u' hij h1 h2 k hk
      · rw [List.getElem?_append_right (by omega)] at h2
        have e0 : j - vs.length = 0 := by
          have := (List.getElem?_eq_some_iff.1 h2).1
          simp at this
          omega
        rw [e0] at h2
        simp only [List.getElem?_cons_zero, Option.some.injEq] at h2
        subst h2
        intro e1
        exact hap i u h1 k e1 hk
    · rw [List.getElem?_append_right (by omega)] at h1
      have e0 : i - vs.length = 0 := by
        have := (List.getElem?_eq_some_iff.1 h1).1
        simp at this
        omega
      rw [e0] at h1
      simp only [List.getElem?_cons_zero, Option.some.injEq] at h1
      subst h1
      have hj : j < vs.length := by
        have := (List.getElem?_eq_some_iff.1 h2).1
        simp at this
        omega
      rw [List.getElem?_append_left hj] at h2
      exact hap j u' h2 k hk
  · refine ⟨fun q' hq' => ?_, by simpa using hl, a3, a4, a5, a6⟩
    rcases List.mem_append.1 hq' with hm | hm
    · exact a1 q' hm
    · simp at hm
      rw [hm]
      exact hq
set_option maxHeartbeats 1000000 in
set_option maxRecDepth 100000 in
theorem xnew_calls (c e : Nat) (n : Int) (w : World) (o : Col) (N : Nat) (hN : (N : Int) = min (max n 1) 256) (hc : ∀ k, k < w.heap.size → o k ≠ c) (he : ∀ k, k < w.heap.size → o k ≠ e) (hce : c ≠ e) :
    Calls Try.prog 24 #[.int .i64 n] w (Post [] w o fun r w' o' => ∃ p vP vs, r = .pointer (some ⟨p, 0, none⟩) ∧ XFl w' o' c e p vP vs ⟨List.replicate N blankPage, -1, 0, false⟩) := by
  have hnn : (n < 1 ∧ N = 1) ∨ (¬ n < 1 ∧ 256 < n ∧ N = 256) ∨ (¬ n < 1 ∧ ¬ 256 < n ∧ n = N) := by omega
  have hN1 : 1 ≤ N ∧ N ≤ 256 := by omega
  obtain ⟨Q, hQ⟩ : ∃ Q, blankPage = Q := ⟨_, rfl⟩
  have hQl : Q.length = 64 := by rw [← hQ, blank_len]
  rcases hnn with ⟨h1, h3⟩ | ⟨h1, h2, h3⟩ | ⟨h1, h2, rfl⟩
  all_goals clear hN
  all_goals
    go_enter Try.func24, Try.ntmps24
    go_wp2_with fail
    go_loopw [4] (NxO w o c e w.heap.size N) (fun x _ => N - (intOf x).toNat)
    case atStart =>
      refine ⟨0, paint o w.heap.size e, .slice none 0 0, [], rfl, Nat.zero_le _, (Stp.refl [c, e] w o).alloc _ e, ⟨heap_alloc_new w _, paint_at _ _ _, Own.nil _ _ _ _ _, rfl, by simp, by simp, ?_⟩⟩
      exact ⟨by simp, by simp, by show (-1 : Int) ≤ -1; omega, by show (-1 : Int) ≤ _; omega, by show (0 : Int) ≤ 0; omega, by show (0 : Int) ≤ 64; omega⟩
    case round =>
      obtain ⟨k, o1, vP, vs, rfl, hk, hs, hx⟩ := hrel
      obtain ⟨AP, capP, rfl⟩ := hx.shape
      by_cases hlt : k < N
      · have hA : decide ((k : Int) < (N : Int)) = true := decide_eq_true (by omega)
        try have hB : decide ((k : Int) < 1) = true := decide_eq_true (by omega)
        try have hC : decide ((k : Int) < 256) = true := decide_eq_true (by omega)
        replace hx := Lib.hid hx
        replace hs := Lib.hid hs
        obtain ⟨d, hd1, hd2, hd3⟩ := fresh o1 wr.heap.size [c, e]
        go_wp2_with fail
        focus
          go_loopw [5, 6] (NxI wr o1 d) (fun _ y _ => 64 - (intOf y).toNat)
          case atStart => exact ⟨0, o1, rfl, by omega, Stp.refl _ _ _, OwnB.nil _ _ _⟩
          case round =>
            obtain ⟨j, o2, rfl, hj, hs2, hw2⟩ := hrel
            obtain ⟨Av, capv, rfl⟩ := Own.shape hw2
            rw [List.length_replicate] at *
            by_cases hj2 : j < 64
            · have hj3 : (j : Int) < 64 := by omega
              go_wp2_with (refine holdAt 22 ?_)
              apply Hold.mk
              have s1 := (Stp.refl [d] wr o2).alloc (.cells #[.int .u8 255] 5) d
              refine appB _ _ rfl rfl (hw2.stp ((Stp.refl [] wr o2).alloc _ d) (by simp)) (RdB.new wr o2 d #[.int .u8 255] [255] rfl 1 rfl (by omega) 5 _ rfl) rfl rfl (by simp; omega) fun A' cap' w' o' h1 h2 _ _ => ?_
              have hr := Lib.hid (show NxI _ o1 d (.slice A' (j + 1) cap') (.int .i64 ((j : Int) + 1)) w' from ⟨j + 1, _, by go_num, by omega, hs2.trans (s1.trans h1), by rw [List.replicate_succ']; simpa using h2⟩)
              simp only [List.length_replicate, List.length_cons, List.length_nil, Nat.zero_add]
              clear s1 h1 h2 hs2 hw2
              go_wp2
              refine ⟨?_, by simp [intOf]; omega⟩
              first
                | exact hr.out
                | (repeat (first | exact ⟨hr.out, rfl⟩ | apply Exists.intro))
            · have hj64 : j = 64 := by omega
              have hj3 : decide ((j : Int) < 64) = false := decide_eq_false (by omega)
              have hbp : List.replicate j 255 = Q := by rw [hj64]; exact hQ
              rw [hbp] at hw2
              clear hj64 hj2 hj
              have gen := Own.new_ge hw2 hs2 hd3
              obtain ⟨oc, rc, s3⟩ := (⟨_, Own.fresh hw2 hs2 hd3 c, (hs2.drop hd3).repaint c⟩ : ∃ oc, OwnB wr oc c (.slice Av j capv) Q ∧ Stp [] _ o1 wr oc)
              have x2 := hx.out.stp s3 (by simp) (by simp)
              have c0 := x2.c0
              have s4 := (Stp.refl [e] wr oc).alloc (.cells #[.slice Av j capv] 22) e
              have x3 := x2.stp ((Stp.refl [] wr oc).alloc (.cells #[.slice Av j capv] 22) e) (by simp) (by simp)
              have r3 := OwnB.stp rc ((Stp.refl [] wr oc).alloc (.cells #[.slice Av j capv] 22) e) (by simp)
              have hrd := Rd.new wr oc e #[.slice Av j capv] [.slice Av j capv] rfl 1 rfl (by omega) (by simp [Value.oneCell']) 22 _ rfl
              have hlv := hx.out.len
              simp only [List.length_replicate] at hlv
              replace hs2 := Lib.hid hs2
              replace hw2 := Lib.hid hw2
              replace gen := Lib.hid gen
              replace rc := Lib.hid rc
              replace s3 := Lib.hid s3
              replace x2 := Lib.hid x2
              replace s4 := Lib.hid s4
              replace x3 := Lib.hid x3
              replace r3 := Lib.hid r3
              replace hrd := Lib.hid hrd
              replace hbp := Lib.hid hbp
              go_wp2_with (refine holdAt 30 ?_)
              apply Hold.mk
              refine app slR _ _ rfl rfl (x3.out.own) hrd.out rfl rfl (by omega) (by simp only [maxLen]; omega) fun A' cap' w' o' h1 h2 _ _ h5 => ?_
              have hb' : w'.heap[w.heap.size]? = _ := (h5.block w.heap.size (Array.getElem?_eq_some_iff.1 x3.out.blk).1 (fun e1 => Own.ne x3.out.own x3.out.blk (by decide) e1.symm)).trans x3.out.blk
              have hfr := blk_free hb' 0
              have hc0 := blk_cell hb' 0
              have push := (x3.out.push h1 hce h5 h2 r3.out hQl (by simp only [List.length_replicate]; omega) (fun i u hu kk hk1 hk2 => by
                have hi := (List.getElem?_eq_some_iff.1 hu).1
                have hr := hx.out.row i u Q hu (by rw [List.getElem?_replicate, if_pos (by omega), hQ])
                have h6 := Own.lt hr hk2
                have h7 := gen.out kk hk1
                omega))
              rw [hlv] at push
              replace push := Lib.hid push
              have st := Lib.hid (hs.out.trans (((s3.out.mono (D := [c, e]) (by simp)).trans (s4.out.mono (by simp))).trans (h1.mono (by simp))))
              have hb' := Lib.hid hb'
              replace h5 := Lib.hid h5
              replace h2 := Lib.hid h2
              replace h1 := Lib.hid h1
              clear hx hs hs2 hw2 gen rc s3 x2 s4 x3 r3 hrd c0
              go_wp2
              go_roundw
              case rel => exact ⟨k + 1, o', _, _, by go_num, by omega, st.out.setCell (fun _ => by rw [push.out.col]; simp) _, by rw [List.replicate_succ']; rw [← hQ] at push; exact push.out⟩
              case measure => simp [intOf]; omega
      · have hA : decide ((k : Int) < (N : Int)) = false := decide_eq_false (by omega)
        try have hB : decide ((k : Int) < 1) = false := decide_eq_false (by omega)
        try have hC : decide ((k : Int) < 256) = false := decide_eq_false (by omega)
        have hkN : k = N := by omega
        rw [hkN] at hx
        replace hx := Lib.hid hx
        replace hs := Lib.hid hs
        clear hkN
        go_wp2
        go_ret
        refine Post.mk ((hs.out.drop hc).drop he) ?_
        have y := hx.out
        have z := y
        rw [hQ] at z
        first
          | exact ⟨w.heap.size, _, vs, rfl, y⟩
          | exact ⟨w.heap.size, rfl, _, vs, y⟩
          | exact ⟨w.heap.size, rfl, _, vs, z⟩
          | (rw [h3] at z; exact ⟨w.heap.size, rfl, _, vs, z⟩)

end Go.Proofs.Ytpjnmijfmfgdpaa
