/- The document's Split (ref15), and its Same: their walks. -/
import Derived.Test.YtcbecidcfbhkfaaKnown15
namespace Go.Proofs.Ytcbecidcfbhkfaa
set_option linter.unusedVariables false
set_option linter.unusedSimpArgs false
open Go.RowKit Go.ChangeMaps

theorem and15i (n : Nat) : bits .and .i64 (n : Int) 15 = (n : Int) % 16 := by
  have hm : (BitVec.ofInt 64 15).toNat = 2 ^ 4 - 1 := by decide
  have key : (BitVec.ofInt 64 (n : Int) &&& BitVec.ofInt 64 15).toNat = ((n : Int) % ((2 ^ 64 : Nat) : Int)).toNat % 2 ^ 4 := by
    rw [BitVec.toNat_and, BitVec.toNat_ofInt, hm, Nat.and_two_pow_sub_one_eq_mod]
  show IntKind.i64.wrap ((BitVec.ofInt 64 (n : Int) &&& BitVec.ofInt 64 15).toNat : Nat) = (n : Int) % 16
  rw [key, IntKind.wrap_i64]
  omega
/-- What the loop of the document's Split keeps. -/
def RpR (w0 : World) (o0 : Col) (e d : Nat) (id : Int) (m : List UInt8) (x y z : Value) (wr : World) : Prop :=
  ∃ (k : Nat) (o' : Col) (vs : List Value), y = .int .i64 ((k + 1 : Nat) : Int) ∧ z = .int .i64 ((6 + 7 * k : Nat) : Int) ∧ k ≤ m.length / 7 ∧ Stp [e, d] w0 o0 wr o' ∧ FrO wr o' e d id x vs (firstF m :: (List.range k).map (contF m))
set_option maxHeartbeats 1000000 in
set_option maxRecDepth 100000 in
theorem xsplit_calls (c c' : Nat) (id : Int) (v : Value) (m : List UInt8) (w : World) (o : Col) (hm : RdB w o c v m) :
    Calls Try.prog 12 #[.int .i64 id, v] w (Post [] w o fun r w' o' => ∃ vl, r = .tuple #[vl, .int .i64 (splitE id m)] ∧ Frs w' o' c' vl ((splitL id m).map fun q => (id, q))) := by
  obtain ⟨A, cap, rfl, hlc, hA⟩ := hm.shape
  have bad : splitE id m ≠ 0 → Frs w o c' (.slice none 0 0) ((splitL id m).map fun q => (id, q)) := fun h => by
    rw [splitL, if_neg h]
    exact ⟨none, 0, rfl, Nat.le_refl _, by simp, by simp⟩
  by_cases h1 : id < 0
  · have hE : splitE id m = 1 := by rw [splitE, if_pos (.inl h1)]
    rw [hE] at bad ⊢
    replace bad := Lib.hid (bad (by decide))
    have g1 : decide (id < 0) = true := decide_eq_true h1
    go_enter Try.func12, Try.ntmps12
    go_wp2
    refine bodyPost_ret (results_tmp2 rfl _ _ _) rfl ?_
    exact Post.mk (Stp.refl _ _ _) ⟨_, rfl, bad.out⟩
  have g1 : decide (id < 0) = false := decide_eq_false h1
  by_cases h2 : 2047 < id
  · have hE : splitE id m = 1 := by rw [splitE, if_pos (.inr (.inl h2))]
    rw [hE] at bad ⊢
    replace bad := Lib.hid (bad (by decide))
    have g2 : decide (2047 < id) = true := decide_eq_true h2
    go_enter Try.func12, Try.ntmps12
    go_wp2
    refine bodyPost_ret (results_tmp2 rfl _ _ _) rfl ?_
    exact Post.mk (Stp.refl _ _ _) ⟨_, rfl, bad.out⟩
  have g2 : decide (2047 < id) = false := decide_eq_false h2
  by_cases h3 : m.length = 0
  · have hE : splitE id m = 1 := by rw [splitE, if_pos (.inr (.inr h3))]
    rw [hE] at bad ⊢
    replace bad := Lib.hid (bad (by decide))
    have g3 : ((m.length : Int) == 0) = true := by simp [h3]
    go_enter Try.func12, Try.ntmps12
    go_wp2
    refine bodyPost_ret (results_tmp2 rfl _ _ _) rfl ?_
    exact Post.mk (Stp.refl _ _ _) ⟨_, rfl, bad.out⟩
  have g3 : ((m.length : Int) == 0) = false := by simp [h3]
  by_cases h4 : 600 < m.length
  · have hE : splitE id m = 10 := by rw [splitE, if_neg (by omega), if_pos h4]
    rw [hE] at bad ⊢
    replace bad := Lib.hid (bad (by decide))
    have g4 : decide ((600 : Int) < (m.length : Int)) = true := decide_eq_true (by omega)
    go_enter Try.func12, Try.ntmps12
    go_wp2
    refine bodyPost_ret (results_tmp2 rfl _ _ _) rfl ?_
    exact Post.mk (Stp.refl _ _ _) ⟨_, rfl, bad.out⟩
  have g4 : decide ((600 : Int) < (m.length : Int)) = false := decide_eq_false (by omega)
  have hE : splitE id m = 0 := by rw [splitE, if_neg (by omega), if_neg h4]
  have hL : splitL id m = splitF m := by rw [splitL, if_pos hE]
  rw [hE, hL]
  clear bad hE hL
  obtain ⟨e, he1, _, he⟩ := fresh o w.heap.size [c]
  obtain ⟨d, hd1, _, hd⟩ := fresh o w.heap.size [c, e]
  by_cases h5 : m.length ≤ 7
  · have g5 : decide ((m.length : Int) ≤ 7) = true := decide_eq_true (by omega)
    go_enter Try.func12, Try.ntmps12
    go_wp2_with (refine holdAt 35 ?_)
    apply Hold.mk
    have s1 := (Stp.refl [d] w o).alloc (.cells #[.int .u8 (m.length : Int)] 5) d
    refine appB _ _ rfl rfl (OwnB.new w o d #[.int .u8 (m.length : Int)] [UInt8.ofNat m.length] (by simp only [vbs, List.map_cons, List.map_nil]; rw [← ofNat8 (by omega)]) 1 rfl (by omega) _ rfl) (hm.stp (s1.drop hd) (by simp)) rfl rfl (by simp; omega) fun A' cap' w1 o1 h1 h2 _ _ => ?_
    have s2 := s1.trans h1
    have f3 := Lib.hid (FrO.new (OwnB.rd h2) e id _ rfl)
    have s3 := Lib.hid ((s2.mono (D := [e, d]) (by simp)).alloc (.cells #[.int .i64 id, .slice A' (1 + m.length) cap'] 37) e)
    clear s1 h1 h2 s2
    go_wp2
    refine bodyPost_ret (results_tmp2 rfl _ _ _) rfl ?_
    refine Post.mk (((s3.out.drop he).drop hd).repaint c') ⟨_, rfl, ?_⟩
    rw [splitF, if_pos h5]
    exact FrO.out f3.out s3.out hd he c'
  · have g5 : decide ((m.length : Int) ≤ 7) = false := decide_eq_false (by omega)
    have k1 := ofNat8 (show 16 + m.length / 256 < 256 by omega)
    have k2 := ofNat8 (show m.length % 256 < 256 by omega)
    rw [Int.natCast_add, Int.natCast_ediv] at k1
    rw [Int.natCast_emod] at k2
    have cs2 : vbs [UInt8.ofNat (16 + m.length / 256), UInt8.ofNat (m.length % 256)] = [.int .u8 (16 + (m.length : Int) / 256), .int .u8 ((m.length : Int) % 256)] := by
      simp only [vbs, List.map_cons, List.map_nil]
      rw [← k1, ← k2]
      rfl
    clear k1 k2
    replace cs2 := Lib.hid cs2
    go_enter Try.func12, Try.ntmps12
    go_wp2_with (refine holdAt 49 ?_)
    apply Hold.mk
    have s1 := (Stp.refl [d] w o).alloc (.cells #[.int .u8 (16 + (m.length : Int) / 256), .int .u8 ((m.length : Int) % 256)] 5) d
    refine slcBH _ _ rfl rfl (hm.stp (s1.drop hd) (by simp)) 6 rfl rfl (by omega) fun A6 h6 => ?_
    have l6 : (m.take 6).length = 6 := by rw [List.length_take]; omega
    go_wp2_with (refine holdAt 50 ?_)
    apply Hold.mk
    refine appB _ _ rfl rfl (OwnB.new w o d #[.int .u8 (16 + (m.length : Int) / 256), .int .u8 ((m.length : Int) % 256)] [UInt8.ofNat (16 + m.length / 256), UInt8.ofNat (m.length % 256)] (by rw [cs2.out]) 2 rfl (by omega) _ rfl) h6 rfl rfl (by rw [l6]; simp) fun A' cap' w1 o1 h1 h2 _ _ => ?_
    rw [l6]
    have s2 := s1.trans h1
    have f3 := Lib.hid (FrO.new (OwnB.rd h2) e id _ rfl)
    rw [l6] at f3
    have s3 := Lib.hid ((s2.mono (D := [e, d]) (by simp)).alloc (.cells #[.int .i64 id, .slice A' (2 + 6) cap'] 37) e)
    clear s1 h1 h2 s2 h6
    go_wp2_with fail
    go_loopw [6, 7, 8] (RpR w o e d id m) (fun _ y _ _ => m.length / 7 + 1 - (intOf y).toNat)
    case atStart => exact ⟨0, _, _, rfl, rfl, Nat.zero_le _, s3.out, f3.out⟩
    case round =>
      obtain ⟨k, o2, vs, rfl, rfl, hk, hs, hf⟩ := hrel
      obtain ⟨AL, capL, rfl⟩ := hf.own.shape
      have hln : vs.length = k + 1 := by rw [hf.len]; simp
      obtain ⟨p, hp⟩ : ∃ p, 6 + 7 * k = p := ⟨_, rfl⟩
      obtain ⟨n1, hn1⟩ : ∃ n1, k + 1 = n1 := ⟨_, rfl⟩
      rw [hln] at hf ⊢
      rw [hp, hn1]
      have hC : ¬ c ∈ [e, d] := by simp at he1 hd1 ⊢; exact ⟨fun h => he1 h.symm, fun h => hd1.1 h.symm⟩
      replace hm := hm.stp hs hC
      clear f3 s3 cs2 l6
      by_cases hlt : p < m.length
      · have g6 : decide ((p : Int) < (m.length : Int)) = true := decide_eq_true (by omega)
        have hp2 : p ≤ 600 := by omega
        have hnb : n1 ≤ 100 := by omega
        have hand := and15i n1
        replace hf := Lib.hid hf
        replace hs := Lib.hid hs
        replace hm := Lib.hid hm
        replace hk := Lib.hid hk
        replace hp := Lib.hid hp
        replace hn1 := Lib.hid hn1
        replace hln := Lib.hid hln
        replace hC := Lib.hid hC
        replace h5 := Lib.hid h5
        replace h4 := Lib.hid h4
        have hed : d ≠ e := by simp at hd1; exact hd1.2
        replace hed := Lib.hid hed
        obtain ⟨d2, _, _, hd22⟩ := fresh o2 wr.heap.size [c, e, d]
        by_cases hfull : p + 7 < m.length
        · have g7 : decide ((p : Int) + 7 < (m.length : Int)) = true := decide_eq_true (by omega)
          have g8 : ((p : Int) + 7 < (m.length : Int)) := by omega
          replace hfull := Lib.hid hfull
          go_wp2_with (refine holdAt 72 ?_)
          apply Hold.mk
          go_wp2_with (refine holdAt 73 ?_)
          apply Hold.mk
          have s4 := (Stp.refl [d2] wr o2).alloc (.cells #[.int .u8 (32 + (n1 : Int) % 16)] 5) d2
          have r9m := RdB.stp hm.out (Stp.refl [] wr o2 |>.alloc (.cells #[.int .u8 (32 + (n1 : Int) % 16)] 5) d2) (by simp)
          refine slcBLH _ _ _ rfl rfl r9m p (p + 7) rfl rfl rfl (by omega) (by have := hfull.out; omega) fun A9 h9 => ?_
          have hpc : (m.drop p).take (p + 7 - p) = (m.drop p).take 7 := by rw [show p + 7 - p = 7 from by omega]
          have hpl : ((m.drop p).take 7).length = (p + 7) - p := by rw [← hpc, List.length_take, List.length_drop]; have := hfull.out; omega
          rw [hpc] at h9
          have hb := ofNat8 (show 32 + n1 % 16 < 256 by omega)
          rw [Int.natCast_add, Int.natCast_emod] at hb
          have hcf : contF m k = [UInt8.ofNat (32 + n1 % 16)] ++ (m.drop p).take 7 := by rw [contF, hn1.out, hp.out]; rfl
          have h7 : ((m.drop p).take 7).length ≤ 7 := by rw [List.length_take]; omega
          obtain ⟨q, hq9⟩ : ∃ q, (m.drop p).take 7 = q := ⟨_, rfl⟩
          rw [← hpl] at h9 ⊢
          rw [hq9] at h9 hcf h7 ⊢
          replace h9 := Lib.hid h9
          replace hq9 := Lib.hid hq9
          replace hb := Lib.hid hb
          replace h7 := Lib.hid h7
          replace hcf := Lib.hid hcf
          clear hpc hpl
          go_wp2_with (refine holdAt 74 ?_)
          apply Hold.mk
          have r9 := h9.out
          refine appB _ _ rfl rfl (OwnB.new wr o2 d2 #[.int .u8 (32 + (n1 : Int) % 16)] [UInt8.ofNat (32 + n1 % 16)] (by simp only [vbs, List.map_cons, List.map_nil]; rw [← hb.out]; rfl) 1 rfl (by omega) _ rfl) r9 rfl rfl (by have := h7.out; simp only [List.length_cons, List.length_nil]; omega) fun A3 cap3 w3 o3 j1 j2 _ _ => ?_
          have s5 := s4.trans j1
          rw [← hcf.out] at j2
          obtain ⟨oc, rc, s6⟩ := (⟨_, Own.fresh j2 s5 hd22 d, (s5.drop hd22).repaint d⟩ : ∃ oc, OwnB w3 oc d _ (contF m k) ∧ Stp [] wr o2 w3 oc)
          have f4 := hf.out.stp s6 (by simp) (by simp)
          have sa : ∀ C : List Nat, Stp C w3 oc _ _ := fun C => (Stp.refl C w3 oc).alloc (.cells #[.int .i64 id, .slice A3 ([UInt8.ofNat (32 + n1 % 16)].length + q.length) cap3] 37) e
          have f5 := Lib.hid (f4.stp (sa []) (by simp) (by simp))
          have r5 := Lib.hid (RdB.stp (OwnB.rd rc) (sa []) (by simp))
          have hrd := Lib.hid (Rd.newS w3 oc e 2 #[.int .i64 id, .slice A3 ([UInt8.ofNat (32 + n1 % 16)].length + q.length) cap3] _ rfl 1 rfl (by omega) (by simp [Value.oneCell']) 37 _ rfl)
          have st7 := Lib.hid (hs.out.trans (s6.none.trans (sa [e, d])))
          clear s4 r9 j1 j2 s5 rc s6 f4 sa
          go_wp2_with (refine holdAt 77 ?_)
          apply Hold.mk
          refine app slF _ _ rfl rfl f5.out.own hrd.out (by rw [hn1.out]; rfl) rfl (by have := hln.out; have := hk.out; have := h4.out; omega) (by have := hln.out; have := hk.out; have := h4.out; simp only [maxLen]; omega) fun A4 cap4 w4 o4 q1 q2 _ _ _ => ?_
          have push := f5.out.push q1 hed.out r5.out q2
          rw [List.cons_append, show (List.range k).map (contF m) ++ [contF m k] = (List.range (k + 1)).map (contF m) from by rw [List.range_succ, List.map_append]; rfl] at push
          replace push := Lib.hid push
          have st8 := Lib.hid (st7.out.trans (q1.mono (D := [e, d]) (by simp)))
          clear q1 q2
          go_wp2
          go_roundw
          case rel => exact ⟨k + 1, o4, _, by have := hn1.out; go_num, by have := hp.out; go_num, by have := hp.out; omega, st8.out, push.out⟩
          case measure => have := hn1.out; simp [intOf]; have := hp.out; omega
        · have g7 : decide ((p : Int) + 7 < (m.length : Int)) = false := decide_eq_false (by omega)
          have g8 : ¬ ((p : Int) + 7 < (m.length : Int)) := by omega
          have g9 : (m.length : Int) ≤ (p : Int) + 7 := by omega
          replace hfull := Lib.hid hfull
          go_wp2_with (refine holdAt 72 ?_)
          apply Hold.mk
          go_wp2_with (refine holdAt 73 ?_)
          apply Hold.mk
          have s4 := (Stp.refl [d2] wr o2).alloc (.cells #[.int .u8 (32 + (n1 : Int) % 16)] 5) d2
          have r9m := RdB.stp hm.out (Stp.refl [] wr o2 |>.alloc (.cells #[.int .u8 (32 + (n1 : Int) % 16)] 5) d2) (by simp)
          refine slcBLH _ _ _ rfl rfl r9m p (m.length) rfl rfl rfl (by omega) (by have := hfull.out; omega) fun A9 h9 => ?_
          have hpc : (m.drop p).take (m.length - p) = (m.drop p).take 7 := by rw [List.take_of_length_le (by rw [List.length_drop]; omega), List.take_of_length_le (by rw [List.length_drop]; have := hfull.out; omega)]
          have hpl : ((m.drop p).take 7).length = (m.length) - p := by rw [← hpc, List.length_take, List.length_drop]; have := hfull.out; omega
          rw [hpc] at h9
          have hb := ofNat8 (show 32 + n1 % 16 < 256 by omega)
          rw [Int.natCast_add, Int.natCast_emod] at hb
          have hcf : contF m k = [UInt8.ofNat (32 + n1 % 16)] ++ (m.drop p).take 7 := by rw [contF, hn1.out, hp.out]; rfl
          have h7 : ((m.drop p).take 7).length ≤ 7 := by rw [List.length_take]; omega
          obtain ⟨q, hq9⟩ : ∃ q, (m.drop p).take 7 = q := ⟨_, rfl⟩
          rw [← hpl] at h9 ⊢
          rw [hq9] at h9 hcf h7 ⊢
          replace h9 := Lib.hid h9
          replace hq9 := Lib.hid hq9
          replace hb := Lib.hid hb
          replace h7 := Lib.hid h7
          replace hcf := Lib.hid hcf
          clear hpc hpl
          go_wp2_with (refine holdAt 74 ?_)
          apply Hold.mk
          have r9 := h9.out
          refine appB _ _ rfl rfl (OwnB.new wr o2 d2 #[.int .u8 (32 + (n1 : Int) % 16)] [UInt8.ofNat (32 + n1 % 16)] (by simp only [vbs, List.map_cons, List.map_nil]; rw [← hb.out]; rfl) 1 rfl (by omega) _ rfl) r9 rfl rfl (by have := h7.out; simp only [List.length_cons, List.length_nil]; omega) fun A3 cap3 w3 o3 j1 j2 _ _ => ?_
          have s5 := s4.trans j1
          rw [← hcf.out] at j2
          obtain ⟨oc, rc, s6⟩ := (⟨_, Own.fresh j2 s5 hd22 d, (s5.drop hd22).repaint d⟩ : ∃ oc, OwnB w3 oc d _ (contF m k) ∧ Stp [] wr o2 w3 oc)
          have f4 := hf.out.stp s6 (by simp) (by simp)
          have sa : ∀ C : List Nat, Stp C w3 oc _ _ := fun C => (Stp.refl C w3 oc).alloc (.cells #[.int .i64 id, .slice A3 ([UInt8.ofNat (32 + n1 % 16)].length + q.length) cap3] 37) e
          have f5 := Lib.hid (f4.stp (sa []) (by simp) (by simp))
          have r5 := Lib.hid (RdB.stp (OwnB.rd rc) (sa []) (by simp))
          have hrd := Lib.hid (Rd.newS w3 oc e 2 #[.int .i64 id, .slice A3 ([UInt8.ofNat (32 + n1 % 16)].length + q.length) cap3] _ rfl 1 rfl (by omega) (by simp [Value.oneCell']) 37 _ rfl)
          have st7 := Lib.hid (hs.out.trans (s6.none.trans (sa [e, d])))
          clear s4 r9 j1 j2 s5 rc s6 f4 sa
          go_wp2_with (refine holdAt 77 ?_)
          apply Hold.mk
          refine app slF _ _ rfl rfl f5.out.own hrd.out (by rw [hn1.out]; rfl) rfl (by have := hln.out; have := hk.out; have := h4.out; omega) (by have := hln.out; have := hk.out; have := h4.out; simp only [maxLen]; omega) fun A4 cap4 w4 o4 q1 q2 _ _ _ => ?_
          have push := f5.out.push q1 hed.out r5.out q2
          rw [List.cons_append, show (List.range k).map (contF m) ++ [contF m k] = (List.range (k + 1)).map (contF m) from by rw [List.range_succ, List.map_append]; rfl] at push
          replace push := Lib.hid push
          have st8 := Lib.hid (st7.out.trans (q1.mono (D := [e, d]) (by simp)))
          clear q1 q2
          go_wp2
          go_roundw
          case rel => exact ⟨k + 1, o4, _, by have := hn1.out; go_num, by have := hp.out; go_num, by have := hp.out; omega, st8.out, push.out⟩
          case measure => have := hn1.out; simp [intOf]; have := hp.out; omega
      · have g6 : decide ((p : Int) < (m.length : Int)) = false := decide_eq_false (by omega)
        have hkk : k = m.length / 7 := by omega
        rw [hkk] at hf
        have fin := Lib.hid (FrO.out hf hs hd he c')
        replace hs := Lib.hid hs
        replace hf := Lib.hid hf
        replace hkk := Lib.hid hkk
        replace hk := Lib.hid hk
        replace hp := Lib.hid hp
        replace hn1 := Lib.hid hn1
        replace hln := Lib.hid hln
        go_wp2
        refine bodyPost_ret (results_tmp2 rfl _ _ _) rfl ?_
        refine Post.mk (((hs.out.drop he).drop hd).repaint c') ⟨_, rfl, ?_⟩
        rw [splitF, if_neg h5]
        have := fin.out
        rw [← hkk.out, hn1.out] at this
        rw [← hkk.out]
        exact this

end Go.Proofs.Ytcbecidcfbhkfaa
