/- Slots (chapter 12): Equal, HasPrefix, whole: the walks. -/
import Derived.Test.YtpjnmijfmfgdpaaSlotA
namespace Go.Proofs.Ytpjnmijfmfgdpaa
set_option linter.unusedVariables false
set_option linter.unusedSimpArgs false
open Go.RowKit

set_option maxHeartbeats 1000000 in
theorem equal_calls (c1 c2 : Nat) (v1 v2 : Value) (l m : List UInt8) (w : World) (o : Col) (h1 : RdB w o c1 v1 l) (h2 : RdB w o c2 v2 m) :
    Calls Try.prog 104 #[v1, v2] w fun e w' => e = .returned (.bool (l == m)) ∧ w = w' := by
  obtain ⟨A, cap, rfl, _, _⟩ := h1.shape
  obtain ⟨A2, cap2, rfl, _, _⟩ := h2.shape
  have cv1 := convBS h1 rfl
  have cv2 := convBS h2 rfl
  replace h1 := Lib.hid h1
  replace h2 := Lib.hid h2
  go_enter Try.func104, Try.ntmps104
  go_wp2
  go_ret
  exact ⟨rfl, rfl⟩
set_option maxHeartbeats 1000000 in
theorem prefix_calls (c1 c2 : Nat) (v1 v2 : Value) (l m : List UInt8) (w : World) (o : Col) (h1 : RdB w o c1 v1 l) (h2 : RdB w o c2 v2 m) :
    Calls Try.prog 95 #[v1, v2] w fun e w' => e = .returned (.bool (prefB l m)) ∧ w = w' := by
  obtain ⟨A, cap, rfl, hlc, _⟩ := h1.shape
  obtain ⟨A2, cap2, rfl, _, _⟩ := h2.shape
  by_cases hle : m.length ≤ l.length
  · have g1 : decide ((m.length : Int) ≤ (l.length : Int)) = true := decide_eq_true (by omega)
    have hp : prefB l m = (l.take m.length == m) := by rw [prefB, decide_eq_true hle, Bool.true_and]
    rw [hp]
    replace hp := Lib.hid hp
    have H1 := Lib.hid h1
    have H2 := Lib.hid h2
    clear h1 h2
    obtain ⟨bb, hbb⟩ : ∃ bb, (l.take m.length == m) = bb := ⟨_, rfl⟩
    rw [hbb]
    replace hbb := Lib.hid hbb
    go_enter Try.func95, Try.ntmps95
    go_wp2_with (refine holdAt 14 ?_)
    apply Hold.mk
    refine slcBH (c := c1) _ _ rfl rfl H1.out m.length rfl rfl hle fun A3 r3 => ?_
    replace r3 := Lib.hid r3
    go_wp2_with fail
    refine (equal_calls c1 c2 _ _ _ _ _ _ (by have := r3.out; exact this) H2.out).mono ?_
    rw [hbb.out]
    rintro e w' ⟨rfl, rfl⟩
    go_wp2
    go_ret
    exact ⟨rfl, rfl⟩
  · have g1 : decide ((m.length : Int) ≤ (l.length : Int)) = false := decide_eq_false (by omega)
    have hp : prefB l m = false := by rw [prefB, decide_eq_false hle, Bool.false_and]
    rw [hp]
    replace h1 := Lib.hid h1
    replace h2 := Lib.hid h2
    go_enter Try.func95, Try.ntmps95
    go_wp2
    go_ret
    exact ⟨rfl, rfl⟩

set_option maxHeartbeats 4000000 in
set_option maxRecDepth 100000 in
theorem whole_calls (c e0 p g cap : Nat) (s : FS) (k : Nat) (hk : k ≤ 1000) (w : World) (o : Col) (h : Fl w o c p g cap s) :
    Calls Try.prog 76 #[.pointer (some ⟨p, 0, none⟩), .int .i64 k] w (Post [] w o fun r w' o' => ∃ v, r = .tuple #[v, .int .i64 (wholeN (wholeS s k)), .bool (wholeS s k).isSome] ∧ OwnB w' o' e0 v (wholeB (wholeS s k))) := by
  obtain ⟨d, hd1, _, hdf⟩ := fresh o w.heap.size [c, e0]
  simp only [List.mem_cons, List.not_mem_nil, or_false, not_or] at hd1
  obtain ⟨cr, hcr1, _, hcrf⟩ := fresh o w.heap.size [c, e0, d]
  simp only [List.mem_cons, List.not_mem_nil, or_false, not_or] at hcr1
  obtain ⟨dr, hdr1, _, hdrf⟩ := fresh o w.heap.size [c, e0, d, cr]
  simp only [List.mem_cons, List.not_mem_nil, or_false, not_or] at hdr1
  obtain ⟨eb, heb1, _, hebf⟩ := fresh o w.heap.size [c, e0, d, cr, dr]
  simp only [List.mem_cons, List.not_mem_nil, or_false, not_or] at heb1
  have hle := pagesB_le s h.ok (k * 40) 40
  obtain ⟨P, hP⟩ : ∃ P, pagesB s (k * 40) 40 = P := ⟨_, rfl⟩
  have hw : wholeS s k = wholeP P := by rw [wholeS, hP]
  rw [hw]
  rw [hP] at hle
  -- what is read
  obtain ⟨n, l1, b1, hx⟩ : ∃ n l1 b1, nNum P false = (n, l1, b1) := ⟨_, _, _, rfl⟩
  obtain ⟨b, l2, b2, hy⟩ : ∃ b l2 b2, nBytes l1 b1 = (b, l2, b2) := ⟨_, _, _, rfl⟩
  have hwp : wholeP P = if b2 = true ∨ n < 1 ∨ 1073741824 < n ∨ 2500 < b.length ∨ prefB P (packS (n : Int) b) = false then none else some (b, n) := by
    unfold wholeP
    rw [hx]
    dsimp only
    rw [hy]
  have hn := nNum_le P false
  have hb := nBytes_le l1 b1
  rw [hx] at hn
  rw [hy] at hb
  dsimp only at hn hb
  obtain ⟨G, hG⟩ : ∃ G, wholeP P = G := ⟨_, rfl⟩
  rw [hG]
  rw [hG] at hwp
  have hcs : (b2 = true ∨ (b2 = false ∧ (n < 1 ∨ (1 ≤ n ∧ (1073741824 < n ∨ (n ≤ 1073741824 ∧ (2500 < b.length ∨ (b.length ≤ 2500 ∧ (prefB P (packS (n : Int) b) = false ∨ prefB P (packS (n : Int) b) = true))))))))) := by
    cases b2
    · refine .inr ⟨rfl, ?_⟩
      by_cases h1 : n < 1
      · exact .inl h1
      · refine .inr ⟨by omega, ?_⟩
        by_cases h2 : 1073741824 < n
        · exact .inl h2
        · refine .inr ⟨by omega, ?_⟩
          by_cases h3 : 2500 < b.length
          · exact .inl h3
          · refine .inr ⟨by omega, ?_⟩
            cases prefB P (packS (n : Int) b)
            · exact .inl rfl
            · exact .inr rfl
    · exact .inl rfl
  replace h := Lib.hid h
  replace hP := Lib.hid hP
  replace hw := Lib.hid hw
  replace hwp := Lib.hid hwp
  replace hG := Lib.hid hG
  replace hx := Lib.hid hx
  replace hy := Lib.hid hy
  have hall := all_calls c d p g cap s k hk w o h.out
  rw [hP.out] at hall
  go_enter Try.func76, Try.ntmps76
  go_wp2_with fail
  refine hall.mono ?_
  clear hall
  rintro e w1 ⟨r, o1, rfl, s1, h1⟩
  obtain ⟨A1, cap1, rfl⟩ := Own.shape h1
  replace h1 := Lib.hid h1
  replace s1 := Lib.hid s1
  go_wp2_with fail
  refine (newreader_calls d cr dr (by omega) _ P _ _ (OwnB.rd h1.out) (by omega)).mono ?_
  rintro e w2 ⟨r, o2, rfl, s2, q, v2, rfl, R2⟩
  have h2 := Lib.hid (OwnB.stp h1.out s2 (by simp))
  replace s2 := Lib.hid (s1.out.trans s2)
  replace R2 := Lib.hid R2
  go_wp2_with fail
  refine (rnum_calls cr dr q v2 P false _ _ R2.out (by omega)).mono ?_
  rw [hx.out]
  rintro e w3 ⟨r, o3, rfl, s3, rfl, v3, R3⟩
  have h3 := Lib.hid (OwnB.stp h2.out s3 (by simp; omega))
  replace s3 := Lib.hid (s2.out.none.trans s3)
  replace R3 := Lib.hid R3
  dsimp only at R3
  go_wp2_with fail
  refine (rbytes_calls cr dr eb q v3 l1 b1 _ _ R3.out (by omega)).mono ?_
  rw [hy.out]
  rintro e w4 ⟨r, o4, rfl, s4, hb4, v4, R4⟩
  dsimp only at hb4 R4
  have h4 := Lib.hid (OwnB.stp h3.out s4 (by simp; omega))
  replace s4 := Lib.hid (s3.out.trans s4)
  obtain ⟨A4, cap4, rfl⟩ := Own.shape hb4
  replace hb4 := Lib.hid hb4
  replace R4 := Lib.hid R4
  have none_ : ∀ w9 o9, Stp [cr] w o w9 o9 → Post [] w o (fun r w' o' => ∃ v, r = .tuple #[v, .int .i64 (wholeN none), .bool (none : Option (List UInt8 × Nat)).isSome] ∧ OwnB w' o' e0 v (wholeB none)) (.returned (.tuple #[.slice none 0 0, .int .i64 0, .bool false])) w9 := fun w9 o9 s9 => Post.mk (s9.drop hcrf) ⟨_, rfl, OwnB.nil _ _ _⟩
  replace none_ := Lib.hid none_
  rcases hcs with rfl | ⟨rfl, hcs⟩
  · have hv := Lib.hid (show G = none by rw [hwp.out]; exact if_pos (.inl rfl))
    go_wp2_with fail
    refine (rgood_calls cr dr q v4 l2 true _ _ R4.out).mono ?_
    rintro e w5 ⟨rfl, rfl⟩
    go_wp2
    refine bodyPost_ret (results_tmp3 rfl _ _ _) rfl ?_
    rw [hv.out]
    exact none_.out _ _ s4.out
  rcases hcs with h1' | ⟨h1', hcs⟩
  · have hv := Lib.hid (show G = none by rw [hwp.out]; exact if_pos (.inr (.inl h1')))
    have g1 : decide ((n : Int) < 1) = true := decide_eq_true (by omega)
    replace h1' := Lib.hid h1'
    go_wp2_with fail
    refine (rgood_calls cr dr q v4 l2 false _ _ R4.out).mono ?_
    rintro e w5 ⟨rfl, rfl⟩
    go_wp2
    refine bodyPost_ret (results_tmp3 rfl _ _ _) rfl ?_
    rw [hv.out]
    exact none_.out _ _ s4.out
  rcases hcs with h2' | ⟨h2', hcs⟩
  · have hv := Lib.hid (show G = none by rw [hwp.out]; exact if_pos (.inr (.inr (.inl h2'))))
    have g1 : decide ((n : Int) < 1) = false := decide_eq_false (by omega)
    have g2 : decide ((1073741824 : Int) < (n : Int)) = true := decide_eq_true (by omega)
    replace h2' := Lib.hid h2'
    replace h1' := Lib.hid h1'
    go_wp2_with fail
    refine (rgood_calls cr dr q v4 l2 false _ _ R4.out).mono ?_
    rintro e w5 ⟨rfl, rfl⟩
    go_wp2
    refine bodyPost_ret (results_tmp3 rfl _ _ _) rfl ?_
    rw [hv.out]
    exact none_.out _ _ s4.out
  rcases hcs with h3' | ⟨h3', hcs⟩
  · have hv := Lib.hid (show G = none by rw [hwp.out]; exact if_pos (.inr (.inr (.inr (.inl h3')))))
    have g1 : decide ((n : Int) < 1) = false := decide_eq_false (by omega)
    have g2 : decide ((1073741824 : Int) < (n : Int)) = false := decide_eq_false (by omega)
    have g3 : decide ((2500 : Int) < (b.length : Int)) = true := decide_eq_true (by omega)
    replace h3' := Lib.hid h3'
    replace h2' := Lib.hid h2'
    replace h1' := Lib.hid h1'
    go_wp2_with fail
    refine (rgood_calls cr dr q v4 l2 false _ _ R4.out).mono ?_
    rintro e w5 ⟨rfl, rfl⟩
    go_wp2
    refine bodyPost_ret (results_tmp3 rfl _ _ _) rfl ?_
    rw [hv.out]
    exact none_.out _ _ s4.out
  have g1 : decide ((n : Int) < 1) = false := decide_eq_false (by omega)
  have g2 : decide ((1073741824 : Int) < (n : Int)) = false := decide_eq_false (by omega)
  have g3 : decide ((2500 : Int) < (b.length : Int)) = false := decide_eq_false (by omega)
  go_wp2_with fail
  refine (rgood_calls cr dr q v4 l2 false _ _ R4.out).mono ?_
  rintro e w5 ⟨rfl, rfl⟩
  go_wp2_with fail
  refine (pack_calls eb d n _ b _ _ (OwnB.rd hb4.out) (by omega)).mono ?_
  rintro e w6 ⟨r, o6, rfl, s6, h6⟩
  obtain ⟨A6, cap6, rfl⟩ := Own.shape h6
  have h5 := OwnB.stp h4.out s6 (by simp)
  have hb5 := Lib.hid (OwnB.stp hb4.out s6 (by simp))
  have hpre := prefix_calls d d _ _ P (packS (n : Int) b) w6 o6 (OwnB.rd h5) (OwnB.rd h6)
  replace s6 := Lib.hid (s4.out.trans s6.none)
  replace h5 := Lib.hid h5
  obtain ⟨PK, hPK⟩ : ∃ PK, packS (n : Int) b = PK := ⟨_, rfl⟩
  rw [hPK] at hpre h6 hcs ⊢
  replace h6 := Lib.hid h6
  rcases hcs with h7 | h7
  · have hv := Lib.hid (show G = none by rw [hwp.out, hPK]; exact if_pos (.inr (.inr (.inr (.inr h7)))))
    rw [h7] at hpre
    go_wp2_with fail
    refine hpre.mono ?_
    rintro e w7 ⟨rfl, rfl⟩
    clear hpre
    go_wp2
    refine bodyPost_ret (results_tmp3 rfl _ _ _) rfl ?_
    rw [hv.out]
    exact none_.out _ _ s6.out
  · have hv := Lib.hid (show G = some (b, n) by rw [hwp.out, hPK]; exact if_neg (by rw [h7]; simp; omega))
    rw [h7] at hpre
    have hfin : OwnB w6 (paint o w.heap.size e0) e0 (.slice A4 b.length cap4) b := Own.fresh hb5.out s6.out hebf e0
    replace hfin := Lib.hid hfin
    have sfin := Lib.hid ((s6.out.drop hcrf).repaint e0)
    go_wp2_with fail
    refine hpre.mono ?_
    rintro e w7 ⟨rfl, rfl⟩
    clear hpre
    go_wp2
    refine bodyPost_ret (results_tmp3 rfl _ _ _) rfl ?_
    rw [hv.out]
    exact Post.mk sfin.out ⟨_, rfl, hfin.out⟩
end Go.Proofs.Ytpjnmijfmfgdpaa
