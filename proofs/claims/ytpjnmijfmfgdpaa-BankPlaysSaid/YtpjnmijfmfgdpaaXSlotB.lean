/- The document's slots (ref12): whole: the walk. -/
import Derived.Test.YtpjnmijfmfgdpaaXSlotA
import Derived.Test.YtpjnmijfmfgdpaaSlotL
import Derived.Test.YtpjnmijfmfgdpaaRef11
import Derived.Test.YtpjnmijfmfgdpaaRef1r

namespace Go.Proofs.Ytpjnmijfmfgdpaa
set_option linter.unusedVariables false
set_option linter.unusedSimpArgs false
open Go.RowKit

theorem Xr.new {w : World} {o : Col} {d : Nat} {v : Value} {l : List UInt8} (c : Nat) (h : RdB w o d v l) (hne : d ≠ c) : Xr (w.alloc (.cells #[v, .bool false] 136)) (paint o w.heap.size c) c d w.heap.size v l false :=
  ⟨heap_alloc_new _ _, paint_at _ _ _, hne, h.stp ((Stp.refl [] w o).alloc _ c) (by simp)⟩
theorem nNum_bad {l : List UInt8} {bad : Bool} (h : bad = true → l = []) : (nNum l bad).2.2 = true → (nNum l bad).2.1 = [] := by
  unfold nNum
  split
  · rename_i u r he
    intro hb
    have := h hb
    subst this
    simp [rnum, rnumGo] at he
  · intro _
    rfl
theorem nRaw_bad {n : Int} {l : List UInt8} {bad : Bool} (h : bad = true → l = []) : (nRaw n l bad).2.2 = true → (nRaw n l bad).2.1 = [] := by
  unfold nRaw
  split
  · intro _
    rfl
  · intro hb
    have := h hb
    subst this
    simp
theorem nRaw_nil (n : Int) : nRaw n [] true = ([], [], true) := by
  unfold nRaw
  split
  · rfl
  · simp
theorem nBytes_bad {l : List UInt8} {bad : Bool} (h : bad = true → l = []) : (nBytes l bad).2.2 = true → (nBytes l bad).2.1 = [] := nRaw_bad (nNum_bad h)

set_option maxHeartbeats 1000000 in
theorem xbytes_calls (c d e0 p : Nat) (v : Value) (l : List UInt8) (bad : Bool) (w : World) (o : Col) (h : Xr w o c d p v l bad) (hbl : bad = true → l = []) (hb : l.length ≤ 140737488355328) :
    Calls Try.prog 90 #[.pointer (some ⟨p, 0, none⟩)] w (Post [c] w o fun r w' o' => OwnB w' o' e0 r (nBytes l bad).1 ∧ ∃ v', Xr w' o' c d p v' (nBytes l bad).2.1 (nBytes l bad).2.2) := by
  have hle := (nNum_le l bad).1
  have hbd := nNum_bad hbl
  have hnum := xnum_calls c d p v l bad w o h hbl hb
  unfold nBytes
  obtain ⟨n, hn⟩ : ∃ n, (nNum l bad).1 = n := ⟨_, rfl⟩
  obtain ⟨l1, hl1⟩ : ∃ l1, (nNum l bad).2.1 = l1 := ⟨_, rfl⟩
  obtain ⟨b1, hb1⟩ : ∃ b1, (nNum l bad).2.2 = b1 := ⟨_, rfl⟩
  simp only [hn, hl1, hb1] at hnum hbd hle ⊢
  clear hn hl1 hb1 h hbl
  cases b1 with
  | true =>
    have := hbd rfl
    subst this
    rw [nRaw_nil]
    go_enter Try.func90, Try.ntmps90
    go_wp2_with fail
    refine hnum.mono ?_
    rintro e w1 ⟨r, o1, rfl, s1, rfl, v1, h1⟩
    have hc1 := h1.c1
    go_wp2
    go_ret
    exact Post.mk s1 ⟨OwnB.nil _ _ _, v1, h1⟩
  | false =>
    go_enter Try.func90, Try.ntmps90
    go_wp2_with fail
    refine hnum.mono ?_
    rintro e w1 ⟨r, o1, rfl, s1, rfl, v1, h1⟩
    have hc1 := h1.c1
    go_wp2_with fail
    refine (xraw_calls c d e0 p v1 _ _ _ w1 o1 h1 (by simp) (by omega)).mono ?_
    rintro e w2 ⟨r, o2, rfl, s2, h2, v2, h3⟩
    clear hc1
    go_wp2
    go_ret
    exact Post.mk (s1.trans s2) ⟨h2, v2, h3⟩

/-- What the loop of the document's 'whole' keeps. -/
def XwR (w0 : World) (o0 : Col) (d : Nat) (s : FS) (k : Nat) (x y : Value) (wr : World) : Prop :=
  ∃ (i j : Nat) (o' : Col), y = .int .i64 (j : Int) ∧ j = k * 40 + i ∧ i ≤ 40 ∧ Stp [d] w0 o0 wr o' ∧ OwnB wr o' d x (pagesB s (k * 40) i)
set_option maxHeartbeats 4000000 in
set_option maxRecDepth 100000 in
theorem xwhole12_calls (c e e0 p : Nat) (vP : Value) (vs : List Value) (s : FS) (k : Nat) (t : Int) (ht : t = (k : Int) * 40) (hk : k ≤ 1) (hroom : 80 ≤ s.pg.length) (w : World) (o : Col) (h : XFl w o c e p vP vs s) :
    Calls Try.prog 79 #[.pointer (some ⟨p, 0, none⟩), .int .i64 t] w (Post [] w o fun r w' o' => ∃ v, r = .tuple #[v, .int .i64 (wholeN (wholeS s k))] ∧ OwnB w' o' e0 v (wholeB (wholeS s k))) := by
  obtain ⟨d, hd1, _, hdf⟩ := fresh o w.heap.size [c, e, e0]
  simp only [List.mem_cons, List.not_mem_nil, or_false, not_or] at hd1
  obtain ⟨cr, hcr1, _, hcrf⟩ := fresh o w.heap.size [c, e, e0, d]
  simp only [List.mem_cons, List.not_mem_nil, or_false, not_or] at hcr1
  obtain ⟨eb, heb1, _, hebf⟩ := fresh o w.heap.size [c, e, e0, d, cr]
  simp only [List.mem_cons, List.not_mem_nil, or_false, not_or] at heb1
  have hle := pagesB_le s h.ok (k * 40) 40
  obtain ⟨A0, cap0, rfl⟩ := h.shape
  obtain ⟨P, hP⟩ : ∃ P, pagesB s (k * 40) 40 = P := ⟨_, rfl⟩
  have hw : wholeS s k = wholeP P := by rw [wholeS, hP]
  rw [hw]
  rw [hP] at hle
  obtain ⟨n, l1, b1, hx⟩ : ∃ n l1 b1, nNum P false = (n, l1, b1) := ⟨_, _, _, rfl⟩
  obtain ⟨b, l2, b2, hy⟩ : ∃ b l2 b2, nBytes l1 b1 = (b, l2, b2) := ⟨_, _, _, rfl⟩
  have hwp : wholeP P = if b2 = true ∨ n < 1 ∨ 1073741824 < n ∨ 2500 < b.length ∨ prefB P (packS (n : Int) b) = false then none else some (b, n) := by
    unfold wholeP
    rw [hx]
    dsimp only
    rw [hy]
  have hbad1 := nNum_bad (l := P) (bad := false) (by simp)
  have hbad2 := nBytes_bad (l := l1) (bad := b1)
  have hcs : (b2 = true ∨ (b2 = false ∧ (n < 1 ∨ (1 ≤ n ∧ (1073741824 < n ∨ (n ≤ 1073741824 ∧ (2500 < b.length ∨ (b.length ≤ 2500 ∧ (prefB P (packS (n : Int) b) = false ∨ prefB P (packS (n : Int) b) = true))))))))) := by
    cases b2
    · refine .inr ⟨rfl, ?_⟩
      by_cases h1 : n < 1
      · exact .inl h1
      · refine .inr ⟨by omega, ?_⟩
        by_cases h2 : 1073741824 < n
        · exact .inl h2
        · refine .inr ⟨by omega, ?_⟩
          by_cases h3 : 2500 < b.length
          · exact .inl h3
          · refine .inr ⟨by omega, ?_⟩
            cases prefB P (packS (n : Int) b)
            · exact .inl rfl
            · exact .inr rfl
    · exact .inl rfl
  have hn := nNum_le P false
  have hb := nBytes_le l1 b1
  rw [hx] at hn hbad1
  rw [hy] at hb hbad2
  dsimp only at hn hb hbad1 hbad2
  obtain ⟨G, hG⟩ : ∃ G, wholeP P = G := ⟨_, rfl⟩
  rw [hG]
  rw [hG] at hwp
  have hI : 0 ≤ t ∧ t ≤ 40 := by omega
  replace ht := Lib.hid ht
  replace h := Lib.hid h
  replace hP := Lib.hid hP
  replace hw := Lib.hid hw
  replace hwp := Lib.hid hwp
  replace hG := Lib.hid hG
  replace hx := Lib.hid hx
  replace hy := Lib.hid hy
  replace hbad1 := Lib.hid hbad1
  replace hbad2 := Lib.hid hbad2
  go_enter Try.func79, Try.ntmps79
  go_wp2_with fail
  go_loopw [6, 7] (XwR w o d s k) (fun _ y _ => k * 40 + 40 - (intOf y).toNat)
  case atStart => exact ⟨0, k * 40, o, by rw [ht.out]; rfl, rfl, by omega, Stp.refl _ _ _, OwnB.nil _ _ _⟩
  case round =>
    obtain ⟨i, j, o1, rfl, hj, hi, st, hm⟩ := hrel
    have hlei := pagesB_le s h.out.ok (k * 40) i
    obtain ⟨A, capA, rfl⟩ := Own.shape hm
    have hxf := h.out.stp st (by simp; omega) (by simp; omega)
    have hjI : (j : Int) = t + i := by rw [ht.out]; omega
    by_cases hlt : i < 40
    · have g1 : decide ((j : Int) < t + 40) = true := decide_eq_true (by omega)
      obtain ⟨a, v, q, rfl, hca, hv, hq, hcell, hown, hql⟩ := hxf.slot (i := j) (by omega)
      have h0 := hxf.c0
      have hjb : j < 80 := by omega
      have g2 : (0 : Int) ≤ (j : Int) ∧ (j : Int) < (s.pg.length : Int) := by omega
      have hnx : pagesB s (k * 40) (i + 1) = pagesB s (k * 40) i ++ q := by rw [pagesB, ← hj, readB_get hq]
      obtain ⟨PL, hPL⟩ : ∃ PL, s.pg.length = PL := ⟨_, rfl⟩
      rw [hPL] at h0 g2
      have hm2 := Lib.hid hm
      have hown2 := Lib.hid hown
      obtain ⟨N, hN⟩ : ∃ N, (pagesB s (k * 40) i).length = N := ⟨_, rfl⟩
      have Hql := Lib.hid hql
      clear hql
      replace hjI := Lib.hid hjI
      replace hxf := Lib.hid hxf
      replace hnx := Lib.hid hnx
      replace hj := Lib.hid hj
      replace hPL := Lib.hid hPL
      replace hq := Lib.hid hq
      replace hv := Lib.hid hv
      replace hca := Lib.hid hca
      replace st := Lib.hid st
      have Hcell := Lib.hid hcell
      clear hm hown
      rw [hN]
      have HN := Lib.hid hN
      clear hN
      go_wp2_with (refine holdAt 27 ?_)
      apply Hold.mk
      rw [← HN.out]
      refine appB _ _ rfl rfl hm2.out (OwnB.rd hown2.out) rfl rfl (by rw [Hql.out]; omega) fun A3 cap3 w3 o3 s3 h3 _ _ => ?_
      rw [← hnx.out] at h3
      have hl : (pagesB s (k * 40) i).length + q.length = (pagesB s (k * 40) (i + 1)).length := by rw [hnx.out, List.length_append]
      rw [hl] at h3 ⊢
      have s4 := Lib.hid (st.out.trans s3)
      replace h3 := Lib.hid h3
      replace hl := Lib.hid hl
      obtain ⟨N2, hN2⟩ : ∃ N2, (pagesB s (k * 40) (i + 1)).length = N2 := ⟨_, rfl⟩
      rw [hN2] at h3 ⊢
      replace hN2 := Lib.hid hN2
      clear s3 hcell h0
      go_wp2
      go_roundw
      case rel => exact ⟨i + 1, j + 1, o3, by go_num, by rw [hj.out]; omega, by omega, s4.out, by have := h3.out; rwa [← hN2.out] at this⟩
      case measure => have := hj.out; simp [intOf]; omega
    · have hi40 : i = 40 := by omega
      subst hi40
      have g1 : decide ((j : Int) < t + 40) = false := decide_eq_false (by omega)
      rw [hP.out] at hm hlei ⊢
      have hxr := Lib.hid (Xr.new cr (OwnB.rd hm) (by omega))
      have sA := Lib.hid ((st.mono (by simp)).trans ((Stp.refl [d, cr] wr o1).alloc (.cells #[.slice A P.length capA, .bool false] 136) cr) : Stp [d, cr] w o _ _)
      have hmA := Lib.hid (OwnB.stp hm ((Stp.refl [] wr o1).alloc (.cells #[.slice A P.length capA, .bool false] 136) cr) (by simp))
      replace hxf := Lib.hid hxf
      replace hm := Lib.hid hm
      replace st := Lib.hid st
      replace hj := Lib.hid hj
      clear hjI hi
      have none_ : ∀ w9 o9, Stp [d, cr] w o w9 o9 → Post [] w o (fun r w' o' => ∃ v, r = .tuple #[v, .int .i64 (wholeN none)] ∧ OwnB w' o' e0 v (wholeB none)) (.returned (.tuple #[.slice none 0 0, .int .i64 0])) w9 := fun w9 o9 s9 => Post.mk ((s9.drop hdf).drop hcrf) ⟨_, rfl, OwnB.nil _ _ _⟩
      replace none_ := Lib.hid none_
      go_wp2_with fail
      refine (xnum_calls cr d _ _ P false _ _ hxr.out (by simp) (by omega)).mono ?_
      rw [hx.out]
      rintro e w3 ⟨r, o3, rfl, s3, rfl, v3, R3⟩
      have h3 := Lib.hid (OwnB.stp hmA.out s3 (by simp; omega))
      replace s3 := Lib.hid (sA.out.trans (s3.mono (by simp)))
      dsimp only at R3
      replace R3 := Lib.hid R3
      clear hxr sA hmA
      generalize wr.heap.size = q at *
      go_wp2_with fail
      refine (xbytes_calls cr d eb q v3 l1 b1 _ _ R3.out hbad1.out (by omega)).mono ?_
      rw [hy.out]
      rintro e w4 ⟨r, o4, rfl, s4, hb4, v4, R4⟩
      dsimp only at hb4 R4
      have h4 := Lib.hid (OwnB.stp h3.out s4 (by simp; omega))
      replace s4 := Lib.hid (s3.out.trans (s4.mono (by simp)))
      obtain ⟨A4, cap4, rfl⟩ := Own.shape hb4
      replace hb4 := Lib.hid hb4
      have hc1 := R4.c1
      replace R4 := Lib.hid R4
      clear s3 h3 R3
      rcases hcs with rfl | ⟨rfl, hcs⟩
      · have hv := Lib.hid (show G = none by rw [hwp.out]; exact if_pos (.inl rfl))
        go_wp2
        refine bodyPost_ret (results_tmp2 rfl _ _ _) rfl ?_
        rw [hv.out]
        exact none_.out _ _ s4.out
      rcases hcs with h1' | ⟨h1', hcs⟩
      · have hv := Lib.hid (show G = none by rw [hwp.out]; exact if_pos (.inr (.inl h1')))
        have g1 : decide ((n : Int) < 1) = true := decide_eq_true (by omega)
        replace h1' := Lib.hid h1'
        go_wp2
        refine bodyPost_ret (results_tmp2 rfl _ _ _) rfl ?_
        rw [hv.out]
        exact none_.out _ _ s4.out
      rcases hcs with h2' | ⟨h2', hcs⟩
      · have hv := Lib.hid (show G = none by rw [hwp.out]; exact if_pos (.inr (.inr (.inl h2'))))
        have g1 : decide ((n : Int) < 1) = false := decide_eq_false (by omega)
        have g2 : decide ((1073741824 : Int) < (n : Int)) = true := decide_eq_true (by omega)
        replace h2' := Lib.hid h2'
        replace h1' := Lib.hid h1'
        go_wp2
        refine bodyPost_ret (results_tmp2 rfl _ _ _) rfl ?_
        rw [hv.out]
        exact none_.out _ _ s4.out
      rcases hcs with h3' | ⟨h3', hcs⟩
      · have hv := Lib.hid (show G = none by rw [hwp.out]; exact if_pos (.inr (.inr (.inr (.inl h3')))))
        have g1 : decide ((n : Int) < 1) = false := decide_eq_false (by omega)
        have g2 : decide ((1073741824 : Int) < (n : Int)) = false := decide_eq_false (by omega)
        have g3 : decide ((2500 : Int) < (b.length : Int)) = true := decide_eq_true (by omega)
        replace h3' := Lib.hid h3'
        replace h2' := Lib.hid h2'
        replace h1' := Lib.hid h1'
        go_wp2
        refine bodyPost_ret (results_tmp2 rfl _ _ _) rfl ?_
        rw [hv.out]
        exact none_.out _ _ s4.out
      have g1 : decide ((n : Int) < 1) = false := decide_eq_false (by omega)
      have g2 : decide ((1073741824 : Int) < (n : Int)) = false := decide_eq_false (by omega)
      have g3 : decide ((2500 : Int) < (b.length : Int)) = false := decide_eq_false (by omega)
      go_wp2_with fail
      refine (xpack_calls eb d n _ b _ _ (OwnB.rd hb4.out) (by omega)).mono ?_
      rintro e w6 ⟨r, o6, rfl, s6, h6⟩
      obtain ⟨A6, cap6, rfl⟩ := Own.shape h6
      have h5 := OwnB.stp h4.out s6 (by simp)
      have hb5 := Lib.hid (OwnB.stp hb4.out s6 (by simp))
      replace s6 := Lib.hid (s4.out.trans s6.none)
      obtain ⟨PK, hPK⟩ : ∃ PK, packS (n : Int) b = PK := ⟨_, rfl⟩
      have hpl := packS_len (n : Int) b
      rw [hPK] at h6 hcs hpl ⊢
      replace hPK := Lib.hid hPK
      clear hc1
      by_cases hlen : P.length < PK.length
      · have g4 : decide ((P.length : Int) < (PK.length : Int)) = true := decide_eq_true (by omega)
        have hv := Lib.hid (show G = none by rw [hwp.out, hPK.out]; exact if_pos (.inr (.inr (.inr (.inr (by unfold prefB; rw [decide_eq_false (by omega), Bool.false_and]))))))
        replace h5 := Lib.hid h5
        replace h6 := Lib.hid h6
        replace hcs := Lib.hid hcs
        go_wp2_with fail
        go_quiet (fail)
        go_wp2
        refine bodyPost_ret (results_tmp2 rfl _ _ _) rfl ?_
        rw [hv.out]
        exact none_.out _ _ (s6.out.drewN _)
      · have g4 : decide ((P.length : Int) < (PK.length : Int)) = false := decide_eq_false (by omega)
        have hpre : prefB P PK = (P.take PK.length == PK) := by rw [prefB, decide_eq_true (by omega), Bool.true_and]
        rw [hpre] at hcs
        replace hpre := Lib.hid hpre
        have hpb : PK.length ≤ P.length := by omega
        obtain ⟨A', cap', he', hlc, hA⟩ := (OwnB.rd h5).shape
        injection he' with e1 e2 e3
        subst e1
        subst e3
        have hpc : PK.length ≤ capA := by omega
        cases A with
        | none => have := hA rfl; omega
        | some a =>
        clear hA e2
        have hsub : RdB w6 o6 d (.slice (some a) PK.length capA) (P.take PK.length) := by
          have := Rd.sub (OwnB.rd h5) 0 PK.length (by omega) hpb
          rw [if_neg (by omega)] at this
          have e : (P.take PK.length).length = PK.length := by rw [List.length_take]; omega
          unfold RdB
          rw [e]
          simpa [vbs, Addr.add_zero'] using this
        have cv1 : ∀ n, (convert 22 9 (.slice (some a) PK.length capA)).run Try.prog (w6.drewN n) = .ok (.string ⟨(P.take PK.length).toArray⟩) (w6.drewN n) := fun n => convBS (hsub.stp ((Stp.refl [] w6 o6).drewN n) (by simp)) (by rw [List.length_take]; omega)
        have cv2 : ∀ n, (convert 22 9 (.slice A6 PK.length cap6)).run Try.prog (w6.drewN n) = .ok (.string ⟨PK.toArray⟩) (w6.drewN n) := fun n => convBS ((OwnB.rd h6).stp ((Stp.refl [] w6 o6).drewN n) (by simp)) rfl
        replace h5 := Lib.hid h5
        replace h6 := Lib.hid h6
        replace hsub := Lib.hid hsub
        replace hpl := Lib.hid hpl
        have hfin : OwnB w6 (paint o w.heap.size e0) e0 (.slice A4 b.length cap4) b := Own.fresh hb5.out s6.out hebf e0
        have sfin := Lib.hid (((s6.out.drop hdf).drop hcrf).repaint e0)
        replace hfin := Lib.hid hfin
        rcases hcs with h7 | h7
        · have hv := Lib.hid (show G = none by rw [hwp.out, hPK.out]; exact if_pos (.inr (.inr (.inr (.inr (by rw [hpre.out]; exact h7))))))
          go_wp2_with fail
          go_quiet (fail)
          go_wp2
          refine bodyPost_ret (results_tmp2 rfl _ _ _) rfl ?_
          rw [hv.out]
          exact none_.out _ _ (s6.out.drewN _)
        · have hv := Lib.hid (show G = some (b, n) by rw [hwp.out, hPK.out]; exact if_neg (by rw [hpre.out, h7]; simp; omega))
          go_wp2_with fail
          go_quiet (fail)
          go_wp2
          refine bodyPost_ret (results_tmp2 rfl _ _ _) rfl ?_
          rw [hv.out]
          exact Post.mk (sfin.out.drewN _) ⟨_, rfl, OwnB.stp hfin.out ((Stp.refl [] _ _).drewN _) (by simp)⟩
end Go.Proofs.Ytpjnmijfmfgdpaa
