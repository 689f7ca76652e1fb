/- The document's Reader (ref1): Bad, Raw, Num, Bytes, Whole. -/
import Derived.Test.YtpjnmijfmfgdpaaOctetN
namespace Go.Proofs.Ytpjnmijfmfgdpaa
set_option linter.unusedVariables false
set_option linter.unusedSimpArgs false
open Go.RowKit

/-- The document's Reader at block p (colour c), over bytes of colour d. -/
structure Xr (w : World) (o : Col) (c d p : Nat) (v : Value) (l : List UInt8) (bad : Bool) : Prop where
  blk : w.heap[p]? = some (.cells #[v, .bool bad] 136 (0, 0))
  col : o p = c
  ne : d ≠ c
  rd : RdB w o d v l
theorem Xr.stp {C : List Nat} {w w1 : World} {o o1 : Col} {c d p : Nat} {v : Value} {l : List UInt8} {bad : Bool} (h : Xr w o c d p v l bad) (hs : Stp C w o w1 o1) (hn : c ∉ C) (hd : d ∉ C) : Xr w1 o1 c d p v l bad :=
  ⟨hs.blk h.blk (by rw [h.col]; exact hn), (hs.colb h.blk).trans h.col, h.ne, h.rd.stp hs hd⟩
theorem Xr.c0 {w : World} {o : Col} {c d p : Nat} {v : Value} {l : List UInt8} {bad : Bool} (h : Xr w o c d p v l bad) : w.cell? ⟨p, 0, none⟩ = some v := blk_cell h.blk 0
theorem Xr.c1 {w : World} {o : Col} {c d p : Nat} {v : Value} {l : List UInt8} {bad : Bool} (h : Xr w o c d p v l bad) : w.cell? ⟨p, 1, none⟩ = some (.bool bad) := blk_cell h.blk 1
theorem Xr.free {w : World} {o : Col} {c d p : Nat} {v : Value} {l : List UInt8} {bad : Bool} (h : Xr w o c d p v l bad) (j : Nat) : w.frozen? ⟨p, j, none⟩ = false := blk_free h.blk j
/-- Its rest is written. -/
theorem Xr.put {w : World} {o : Col} {c d p : Nat} {v v1 : Value} {l l1 : List UInt8} {bad : Bool} (h : Xr w o c d p v l bad) (h1 : RdB w o d v1 l1) : Xr (w.setCell ⟨p, 0, none⟩ v1) o c d p v1 l1 bad ∧ Stp [c] w o (w.setCell ⟨p, 0, none⟩ v1) o := by
  have hs : Stp [c] w o (w.setCell ⟨p, 0, none⟩ v1) o := (Stp.refl [c] w o).setCell (fun _ => by simp [h.col]) _
  refine ⟨⟨?_, h.col, h.ne, h1.stp hs (by simpa using h.ne)⟩, hs⟩
  have := blk_set (j := 0) h.blk v1
  simpa using this
theorem Xr.err {w : World} {o : Col} {c d p : Nat} {v : Value} {l : List UInt8} {bad : Bool} (h : Xr w o c d p v l bad) :
    Xr ((w.setCell ⟨p, 1, none⟩ (.bool true)).setCell ⟨p, 0, none⟩ (.slice none 0 0)) o c d p (.slice none 0 0) [] true ∧ Stp [c] w o ((w.setCell ⟨p, 1, none⟩ (.bool true)).setCell ⟨p, 0, none⟩ (.slice none 0 0)) o := by
  have hs : Stp [c] w o (w.setCell ⟨p, 1, none⟩ (.bool true)) o := (Stp.refl [c] w o).setCell (fun _ => by simp [h.col]) _
  have h1 : Xr (w.setCell ⟨p, 1, none⟩ (.bool true)) o c d p v l true := by
    refine ⟨?_, h.col, h.ne, h.rd.stp hs (by simpa using h.ne)⟩
    have := blk_set (j := 1) h.blk (.bool true)
    simpa using this
  obtain ⟨h2, s2⟩ := h1.put (RdB.nil _ o d)
  exact ⟨h2, hs.trans s2⟩
set_option maxHeartbeats 400000 in
theorem xbad_calls (c d p : Nat) (v : Value) (l : List UInt8) (bad : Bool) (w : World) (o : Col) (h : Xr w o c d p v l bad) :
    Calls Try.prog 103 #[.pointer (some ⟨p, 0, none⟩)] w (Post [c] w o fun r w' o' => r = .tuple #[] ∧ Xr w' o' c d p (.slice none 0 0) [] true) := by
  have hc := h.c0
  have hc1 := h.c1
  have hf := h.free 0
  have hf1 := h.free 1
  go_enter Try.func103, Try.ntmps103
  go_wp2
  go_end0
  exact Post.mk h.err.2 ⟨rfl, h.err.1⟩
set_option maxHeartbeats 400000 in
theorem xwhole_calls (c d p : Nat) (v : Value) (l : List UInt8) (bad : Bool) (w : World) (o : Col) (h : Xr w o c d p v l bad) :
    Calls Try.prog 91 #[.pointer (some ⟨p, 0, none⟩)] w fun e w' => e = .returned (.bool (!bad && l.isEmpty)) ∧ w = w' := by
  have hc := h.c0
  have hc1 := h.c1
  obtain ⟨A, cap, rfl, _, _⟩ := h.rd.shape
  cases bad
  · go_enter Try.func91, Try.ntmps91
    go_wp2
    go_ret
    exact ⟨by rw [len_beq]; simp, rfl⟩
  · go_enter Try.func91, Try.ntmps91
    go_wp2
    go_ret
    exact ⟨by simp, rfl⟩

set_option maxHeartbeats 1000000 in
theorem xraw_calls (c d e0 p : Nat) (v : Value) (l : List UInt8) (bad : Bool) (n : Int) (w : World) (o : Col) (h : Xr w o c d p v l bad) (hbl : bad = true → l = []) (hb : l.length ≤ 140737488355328) :
    Calls Try.prog 89 #[.pointer (some ⟨p, 0, none⟩), .int .i64 n] w (Post [c] w o fun r w' o' => OwnB w' o' e0 r (nRaw n l bad).1 ∧ ∃ v', Xr w' o' c d p v' (nRaw n l bad).2.1 (nRaw n l bad).2.2) := by
  have hc := h.c0
  have hc1 := h.c1
  obtain ⟨A, cap, rfl, hlc, hA⟩ := h.rd.shape
  by_cases hn : n < 0 ∨ (l.length : Int) < n
  · have e1 : nRaw n l bad = ([], [], true) := if_pos hn
    rw [e1]
    have hcases : decide (n < 0) = true ∨ (decide (n < 0) = false ∧ decide ((l.length : Int) < n) = true) := by
      by_cases h0 : n < 0
      · exact .inl (decide_eq_true h0)
      · exact .inr ⟨decide_eq_false h0, decide_eq_true (by omega)⟩
    clear hn
    rcases hcases with h0 | ⟨h0, h1⟩
    all_goals
      go_enter Try.func89, Try.ntmps89
      go_wp2_with fail
      refine (xbad_calls c d p _ l bad w o h).mono ?_
      rintro e w1 ⟨r, o1, rfl, s1, rfl, h1⟩
      have hc2 := h1.c1
      clear hc hc1
      go_wp2
      go_ret
      exact Post.mk s1 ⟨OwnB.nil _ _ _, _, h1⟩
  · have e1 : nRaw n l bad = (l.take n.toNat, l.drop n.toNat, bad) := if_neg hn
    rw [e1]
    obtain ⟨m, rfl⟩ := Int.eq_ofNat_of_zero_le (show 0 ≤ n by omega)
    have hm : m ≤ l.length := by omega
    rw [Int.toNat_natCast] at e1 ⊢
    have z1 : decide ((m : Int) < 0) = false := decide_eq_false (by omega)
    have z2 : ¬ l.length < m := by omega
    clear e1 hn
    cases bad with
    | true =>
      have hl := hbl rfl
      subst hl
      have hm0 : m = 0 := by simpa using hm
      subst hm0
      go_enter Try.func89, Try.ntmps89
      go_wp2
      go_ret
      exact Post.mk (Stp.refl _ _ _) ⟨OwnB.nil _ _ _, _, h⟩
    | false =>
      obtain ⟨e1, he1, _, he3⟩ := fresh o w.heap.size [c, d]
      simp only [List.mem_cons, List.not_mem_nil, or_false, not_or] at he1
      have s1 := (Stp.refl [e1] w o).alloc (.cells #[] 5) e1
      have h1 := h.stp (s1.drop he3) (by simp) (by simp)
      have hl1 : (l.take m).length = m := by rw [List.length_take]; omega
      replace he1 := Lib.hid he1
      have hcA := h1.c0
      go_enter Try.func89, Try.ntmps89
      go_wp2_with (refine holdAt 29 ?_)
      apply Hold.mk
      refine slcBH (c := d) _ _ rfl rfl h1.rd m rfl rfl hm fun A1 r1 => ?_
      obtain ⟨L, hL⟩ : ∃ L, l.take m = L := ⟨_, rfl⟩
      rw [hL] at hl1 r1
      subst hl1
      go_wp2_with (refine holdAt 30 ?_)
      apply Hold.mk
      refine appB (l := []) _ _ rfl rfl (OwnB.new w o e1 #[] [] rfl 0 rfl (by omega) _ rfl) r1 rfl rfl (by simp; omega) fun A2 cap2 w2 o2 j1 j2 _ _ => ?_
      simp only [List.nil_append, List.length_nil, Nat.zero_add] at j2
      have s2 := s1.trans j1
      obtain ⟨oc, rc, s3⟩ := (⟨_, Own.fresh j2 s2 he3 e0, (s2.drop he3).repaint e0⟩ : ∃ oc, OwnB w2 oc e0 _ L ∧ Stp [] w o w2 oc)
      have h2 := h.stp s3 (by simp) (by simp)
      have k0 := h2.c0
      have k1 := h2.free 0
      replace rc := Lib.hid rc
      replace s3 := Lib.hid s3
      clear s1 h1 j1 j2 s2 r1 hc hc1 hcA
      go_wp2_with (refine holdAt 37 ?_)
      apply Hold.mk
      refine slcBL (c := d) _ _ rfl rfl h2.rd L.length rfl rfl hm fun A3 r3 => ?_
      obtain ⟨h3, s4⟩ := h2.put r3
      replace h3 := Lib.hid h3
      replace s4 := Lib.hid s4
      go_wp2
      go_ret
      have hfin : OwnB (w2.setCell ⟨p, 0, none⟩ (.slice A3 (l.length - L.length) (cap - L.length))) oc e0 (.slice A2 L.length cap2) (l.take L.length) := by
        rw [hL]
        exact Own.set rc.out (Own.ne rc.out h2.blk (by decide)) _
      exact Post.mk (s3.out.none.trans s4.out) ⟨hfin, _, h3.out⟩

/-- Seven digits more, at the tenth byte. -/
theorem numOr9 (k u : Nat) (b : UInt8) (hk : k = 9) (hb : b.toNat ≤ 1) (hu : u < 128 ^ k) :
    bits BinOp.or IntKind.u64 (u : Int) (IntKind.u64.wrap (IntKind.u64.wrap (bits BinOp.and IntKind.u8 (b.toNat : Int) 127) * 2 ^ (7 * k))) = ((u + b.toNat * 128 ^ k : Nat) : Int) := by
  subst hk
  simp only [Nat.reducePow] at hu
  have e1 : bits BinOp.and IntKind.u8 (b.toNat : Int) 127 = ((b.toNat % 128 : Nat) : Int) := by
    have := u8_and_nat b.toNat 127 (by omega) (by omega)
    rw [nat_mask7] at this
    exact this
  have e2 : IntKind.u64.wrap ((b.toNat % 128 : Nat) : Int) = ((b.toNat : Nat) : Int) := by rw [IntKind.wrap_u64]; omega
  have e3 : ((b.toNat : Nat) : Int) * 2 ^ (7 * 9) = ((b.toNat * 128 ^ 9 : Nat) : Int) := by simp
  have e4 : IntKind.u64.wrap ((b.toNat * 128 ^ 9 : Nat) : Int) = ((b.toNat * 128 ^ 9 : Nat) : Int) := by
    simp only [Nat.reducePow]
    rw [IntKind.wrap_u64]
    omega
  rw [e1, e2, e3, e4, u64_or_nat _ _ (by omega) (by simp only [Nat.reducePow]; omega)]
  have h0 : b.toNat * 128 ^ 9 % 2 ^ (7 * 9) = 0 := by rw [pow7]; exact Nat.mul_mod_left _ _
  rw [Nat.or_comm, nat_join (7 * 9) _ _ h0 (by simp only [Nat.reduceMul, Nat.reducePow]; omega), Nat.add_comm]

def RxN (w0 : World) (o0 : Col) (c d p : Nat) (l : List UInt8) (bad : Bool) (x y : Value) (wr : World) : Prop := ∃ (k u : Nat) (o' : Col) (v' : Value), x = .int .u64 u ∧ y = .int .i64 k ∧ k ≤ l.length ∧ k ≤ 9 ∧ u < 128 ^ k ∧ rnumGo (l.drop k) k u = rnum l ∧ Stp [c] w0 o0 wr o' ∧ Xr wr o' c d p v' (l.drop k) bad
theorem nRaw_one {l : List UInt8} {k : Nat} {b : UInt8} (hd : l.drop k = b :: l.drop (k + 1)) (bad : Bool) : nRaw 1 (l.drop k) bad = ([b], l.drop (k + 1), bad) := by
  unfold nRaw
  rw [if_neg (by rw [hd, List.length_cons]; omega), hd]
  rfl
theorem nRaw_over {l : List UInt8} {k : Nat} (hk : l.length ≤ k) (bad : Bool) : nRaw 1 (l.drop k) bad = ([], [], true) := by
  unfold nRaw
  rw [if_pos (.inr (by rw [List.length_drop]; omega))]
set_option maxHeartbeats 2000000 in
set_option maxRecDepth 100000 in
theorem xnum_calls (c d p : Nat) (v : Value) (l : List UInt8) (bad : Bool) (w : World) (o : Col) (h : Xr w o c d p v l bad) (hbl : bad = true → l = []) (hb : l.length ≤ 140737488355328) :
    Calls Try.prog 88 #[.pointer (some ⟨p, 0, none⟩)] w (Post [c] w o fun r w' o' => r = .int .i64 ((nNum l bad).1 : Int) ∧ ∃ v', Xr w' o' c d p v' (nNum l bad).2.1 (nNum l bad).2.2) := by
  have fin : rnum l = none → ∀ w1 o1, Stp [c] w o w1 o1 → ∀ v1, Xr w1 o1 c d p v1 [] true → Post [c] w o (fun r w' o' => r = .int .i64 ((nNum l bad).1 : Int) ∧ ∃ v', Xr w' o' c d p v' (nNum l bad).2.1 (nNum l bad).2.2) (.returned (.int .i64 0)) w1 := by
    intro hn w1 o1 hs v1 h1
    unfold nNum
    rw [hn]
    exact Post.mk hs ⟨rfl, _, h1⟩
  obtain ⟨e, hec, _, _⟩ := fresh o w.heap.size [c, d]
  have Fin := Lib.hid fin
  have Hbl := Lib.hid hbl
  replace hec := Lib.hid hec
  clear fin hbl
  go_enter Try.func88, Try.ntmps88
  go_wp2_with fail
  go_loopw [3, 4] (RxN w o c d p l bad) (fun _ y _ => 10 - (intOf y).toNat)
  case atStart => exact ⟨0, 0, o, v, rfl, rfl, Nat.zero_le _, by omega, by simp, rfl, Stp.refl _ _ _, by rw [List.drop_zero]; exact h⟩
  case round =>
    replace h := Lib.hid h
    obtain ⟨k, u, o1, v1, rfl, rfl, hk, hk9, hu, hgo, hs, hx⟩ := hrel
    have k10 : decide ((k : Int) < 10) = true := decide_eq_true (by omega)
    have hraw := xraw_calls c d e p v1 (l.drop k) bad 1 wr o1 hx (fun hb1 => by rw [Hbl.out hb1]; simp) (by rw [List.length_drop]; omega)
    replace hx := Lib.hid hx
    by_cases hlt : k < l.length
    · have hbad : bad = false := by
        cases bad with
        | false => rfl
        | true => have := Hbl.out rfl; rw [this] at hlt; simp at hlt
      have hdrop := List.drop_eq_getElem_cons hlt
      obtain ⟨b, hb'⟩ : ∃ b, l[k] = b := ⟨_, rfl⟩
      rw [hb'] at hdrop
      rw [nRaw_one hdrop] at hraw
      rw [hdrop] at hgo
      have hb256 := b.toNat_lt
      have k9 : (k < 9 ∧ ((k : Int) == 9) = false) ∨ (k = 9 ∧ ((k : Int) == 9) = true) := by
        by_cases e : k = 9
        · exact .inr ⟨e, by rw [e]; rfl⟩
        · exact .inl ⟨by omega, by rw [beq_eq_false_iff_ne]; omega⟩
      subst hbad
      rcases k9 with ⟨k9, k9'⟩ | ⟨k9, k9'⟩
      · have h9 : ¬ 9 ≤ k := by omega
        by_cases h0 : 0 < k ∧ b.toNat = 0
        · have hn : rnum l = none := by rw [← hgo, rnumGo, if_pos (.inr h0)]
          have Hn := Lib.hid hn
          have h00 : ((b.toNat : Int) == 0) = true := by rw [h0.2]; rfl
          have h01 := h0.1
          have hsm : ¬ 127 < b.toNat := by omega
          clear hb' hgo hu hdrop hn h0 hlt hk hk9
          go_wp2_with fail
          refine hraw.mono ?_
          rintro e1 w1 ⟨r, o2, rfl, s1, hr, v2, h1⟩
          obtain ⟨A, cap, rfl⟩ := Own.shape hr
          obtain ⟨a, rfl, hcell⟩ := (OwnB.rd hr).at_ (j := 0) (by simp)
          rw [show a.add 0 = a from Addr.add_zero' a] at hcell
          have hc1 := h1.c1
          have hbd := xbad_calls c d p _ _ _ w1 o2 h1
          replace hr := Lib.hid hr
          replace h1 := Lib.hid h1
          replace s1 := Lib.hid s1
          clear hraw
          go_wp2_with fail
          refine hbd.mono ?_
          rintro e2 w2 ⟨r, o3, rfl, s2, rfl, h2⟩
          clear hc1 hcell hbd
          go_wp2
          go_ret
          exact Fin.out Hn.out w2 o3 ((hs.trans s1.out).trans s2) _ h2
        · obtain ⟨u2, hu2⟩ : ∃ u2, u + b.toNat % 128 * 128 ^ k = u2 := ⟨_, rfl⟩
          have hor := numOr k u b (by omega) hu
          rw [hu2] at hor
          rw [rnumGo, if_neg (by omega)] at hgo
          have h00 : ¬ 0 < k ∨ (0 < k ∧ ((b.toNat : Int) == 0) = false) := by
            by_cases hk0 : 0 < k
            · refine .inr ⟨hk0, ?_⟩
              rw [beq_eq_false_iff_ne]
              omega
            · exact .inl hk0
          clear h0
          by_cases hsm0 : b.toNat < 128
          · have hsm : ¬ 127 < b.toNat := by omega
            rw [if_pos hsm0, show u + b.toNat * 128 ^ k = u2 by rw [← hu2, Nat.mod_eq_of_lt hsm0]] at hgo
            by_cases hbig : 4611686018427387904 < u2
            · have hn : rnum l = none := by rw [← hgo, if_pos hbig]
              have Hn := Lib.hid hn
              clear hsm0 hb' hgo hu hdrop hn hu2 hlt hk hk9 k9
              rcases h00 with h00 | ⟨h00, h01⟩
              all_goals
                go_wp2_with fail
                refine hraw.mono ?_
                rintro e1 w1 ⟨r, o2, rfl, s1, hr, v2, h1⟩
                obtain ⟨A, cap, rfl⟩ := Own.shape hr
                obtain ⟨a, rfl, hcell⟩ := (OwnB.rd hr).at_ (j := 0) (by simp)
                rw [show a.add 0 = a from Addr.add_zero' a] at hcell
                have hc1 := h1.c1
                have hbd := xbad_calls c d p _ _ _ w1 o2 h1
                replace hr := Lib.hid hr
                replace h1 := Lib.hid h1
                replace s1 := Lib.hid s1
                clear hraw
                go_wp2_with fail
                refine hbd.mono ?_
                rintro e2 w2 ⟨r, o3, rfl, s2, rfl, h2⟩
                clear hc1 hcell hbd
                go_wp2
                go_ret
                exact Fin.out Hn.out w2 o3 ((hs.trans s1.out).trans s2) _ h2

            · have hn : rnum l = some (u2, l.drop (k + 1)) := by rw [← hgo, if_neg hbig]
              have Hn := Lib.hid hn
              have hle : u2 ≤ 4611686018427387904 := by omega
              clear hsm0 hb' hgo hu hdrop hn hu2 Fin hlt hk hk9 k9
              rcases h00 with h00 | ⟨h00, h01⟩
              all_goals
                go_wp2_with fail
                refine hraw.mono ?_
                rintro e1 w1 ⟨r, o2, rfl, s1, hr, v2, h1⟩
                obtain ⟨A, cap, rfl⟩ := Own.shape hr
                obtain ⟨a, rfl, hcell⟩ := (OwnB.rd hr).at_ (j := 0) (by simp)
                rw [show a.add 0 = a from Addr.add_zero' a] at hcell
                have hc1 := h1.c1
                replace hr := Lib.hid hr
                replace h1 := Lib.hid h1
                replace s1 := Lib.hid s1
                clear hraw
                go_wp2
                go_ret
                unfold nNum
                rw [Hn.out]
                exact Post.mk (hs.trans s1.out) ⟨rfl, _, h1.out⟩
          · have hsm : 127 < b.toNat := by omega
            rw [if_neg hsm0] at hgo
            have hu3 : u2 < 128 ^ (k + 1) := by
              have : b.toNat % 128 * 128 ^ k ≤ 127 * 128 ^ k := Nat.mul_le_mul_right _ (by omega)
              rw [Nat.pow_succ]
              omega
            rw [show u + (b.toNat - 128) * 128 ^ k = u2 by rw [← hu2]; congr 2; omega] at hgo
            have Hgo := Lib.hid hgo
            have Hu3 := Lib.hid hu3
            have Hlt := Lib.hid hlt
            clear hsm0 hb' hgo hu hdrop hu2 Fin hu3 hlt hk h00
            go_wp2_with fail
            refine hraw.mono ?_
            rintro e1 w1 ⟨r, o2, rfl, s1, hr, v2, h1⟩
            obtain ⟨A, cap, rfl⟩ := Own.shape hr
            obtain ⟨a, rfl, hcell⟩ := (OwnB.rd hr).at_ (j := 0) (by simp)
            rw [show a.add 0 = a from Addr.add_zero' a] at hcell
            have hc1 := h1.c1
            replace hr := Lib.hid hr
            replace h1 := Lib.hid h1
            replace s1 := Lib.hid s1
            clear hraw
            go_wp2
            go_roundw
            case rel => exact ⟨k + 1, u2, o2, v2, rfl, by go_num, Hlt.out, by omega, Hu3.out, Hgo.out, hs.trans s1.out, h1.out⟩
            case measure => simp [intOf]; omega
      · have hn : rnum l = none := by rw [← hgo, rnumGo, if_pos (.inl (by omega))]
        have Hn := Lib.hid hn
        have hk0 : 0 < k := by omega
        by_cases b127 : 127 < b.toNat
        · clear hb' hgo hu hdrop hn hlt hk hk9
          go_wp2_with fail
          refine hraw.mono ?_
          rintro e1 w1 ⟨r, o2, rfl, s1, hr, v2, h1⟩
          obtain ⟨A, cap, rfl⟩ := Own.shape hr
          obtain ⟨a, rfl, hcell⟩ := (OwnB.rd hr).at_ (j := 0) (by simp)
          rw [show a.add 0 = a from Addr.add_zero' a] at hcell
          have hc1 := h1.c1
          have hbd := xbad_calls c d p _ _ _ w1 o2 h1
          replace hr := Lib.hid hr
          replace h1 := Lib.hid h1
          replace s1 := Lib.hid s1
          clear hraw
          go_wp2_with fail
          refine hbd.mono ?_
          rintro e2 w2 ⟨r, o3, rfl, s2, rfl, h2⟩
          clear hc1 hcell hbd
          go_wp2
          go_ret
          exact Fin.out Hn.out w2 o3 ((hs.trans s1.out).trans s2) _ h2

        by_cases b1 : 1 < b.toNat
        · clear hb' hgo hu hdrop hn hlt hk hk9
          go_wp2_with fail
          refine hraw.mono ?_
          rintro e1 w1 ⟨r, o2, rfl, s1, hr, v2, h1⟩
          obtain ⟨A, cap, rfl⟩ := Own.shape hr
          obtain ⟨a, rfl, hcell⟩ := (OwnB.rd hr).at_ (j := 0) (by simp)
          rw [show a.add 0 = a from Addr.add_zero' a] at hcell
          have hc1 := h1.c1
          have hbd := xbad_calls c d p _ _ _ w1 o2 h1
          replace hr := Lib.hid hr
          replace h1 := Lib.hid h1
          replace s1 := Lib.hid s1
          clear hraw
          go_wp2_with fail
          refine hbd.mono ?_
          rintro e2 w2 ⟨r, o3, rfl, s2, rfl, h2⟩
          clear hc1 hcell hbd
          go_wp2
          go_ret
          exact Fin.out Hn.out w2 o3 ((hs.trans s1.out).trans s2) _ h2

        have hor := numOr9 k u b k9 (by omega) hu
        have hor9 := hor
        rw [k9] at hor9
        simp only [Nat.reduceMul, Int.reducePow, Nat.reducePow] at hor9
        obtain ⟨u2, hu2⟩ : ∃ u2, u + b.toNat * 128 ^ k = u2 := ⟨_, rfl⟩
        rw [show u + b.toNat * 9223372036854775808 = u2 by rw [← hu2, k9]] at hor9
        clear hor
        by_cases b0 : b.toNat = 0
        · have h00 : ((b.toNat : Int) == 0) = true := by rw [b0]; rfl
          clear hb' hgo hu hdrop hn hlt hk hk9 b0 hu2
          go_wp2_with fail
          refine hraw.mono ?_
          rintro e1 w1 ⟨r, o2, rfl, s1, hr, v2, h1⟩
          obtain ⟨A, cap, rfl⟩ := Own.shape hr
          obtain ⟨a, rfl, hcell⟩ := (OwnB.rd hr).at_ (j := 0) (by simp)
          rw [show a.add 0 = a from Addr.add_zero' a] at hcell
          have hc1 := h1.c1
          have hbd := xbad_calls c d p _ _ _ w1 o2 h1
          replace hr := Lib.hid hr
          replace h1 := Lib.hid h1
          replace s1 := Lib.hid s1
          clear hraw
          go_wp2_with fail
          refine hbd.mono ?_
          rintro e2 w2 ⟨r, o3, rfl, s2, rfl, h2⟩
          clear hc1 hcell hbd
          go_wp2
          go_ret
          exact Fin.out Hn.out w2 o3 ((hs.trans s1.out).trans s2) _ h2

        · have h00 : ((b.toNat : Int) == 0) = false := by rw [beq_eq_false_iff_ne]; omega
          have hbig : 4611686018427387904 < u2 := by
            have : b.toNat = 1 := by omega
            rw [← hu2, this, k9]
            simp only [Nat.reducePow]
            omega
          clear hb' hgo hu hdrop hn hlt hk hk9 b0 hu2
          go_wp2_with fail
          refine hraw.mono ?_
          rintro e1 w1 ⟨r, o2, rfl, s1, hr, v2, h1⟩
          obtain ⟨A, cap, rfl⟩ := Own.shape hr
          obtain ⟨a, rfl, hcell⟩ := (OwnB.rd hr).at_ (j := 0) (by simp)
          rw [show a.add 0 = a from Addr.add_zero' a] at hcell
          have hc1 := h1.c1
          have hbd := xbad_calls c d p _ _ _ w1 o2 h1
          replace hr := Lib.hid hr
          replace h1 := Lib.hid h1
          replace s1 := Lib.hid s1
          clear hraw
          go_wp2_with fail
          refine hbd.mono ?_
          rintro e2 w2 ⟨r, o3, rfl, s2, rfl, h2⟩
          clear hc1 hcell hbd
          go_wp2
          go_ret
          exact Fin.out Hn.out w2 o3 ((hs.trans s1.out).trans s2) _ h2
    · have hn : rnum l = none := by
        rw [← hgo, show l.drop k = [] from List.drop_of_length_le (by omega), rnumGo]
      have Hn := Lib.hid hn
      rw [nRaw_over (by omega)] at hraw
      clear hgo hn hu hlt
      go_wp2_with fail
      refine hraw.mono ?_
      rintro e1 w1 ⟨r, o2, rfl, s1, hr, v2, h1⟩
      have hc1 := h1.c1
      replace h1 := Lib.hid h1
      replace s1 := Lib.hid s1
      obtain ⟨A, cap, rfl⟩ := Own.shape hr
      clear hraw
      go_wp2
      go_ret
      exact Fin.out Hn.out w1 o2 (hs.trans s1.out) _ h1.out

end Go.Proofs.Ytpjnmijfmfgdpaa
