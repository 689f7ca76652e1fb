/- The reference of chapter 1: numbers and rows as bytes. -/
import Derived.Test.YtpjnmijfmfgdpaaOctet
namespace Go.Proofs.Ytpjnmijfmfgdpaa
set_option linter.unusedVariables false
set_option linter.unusedSimpArgs false
open Go.RowKit

def RfIn (w0 : World) (o0 : Col) (d : Nat) (l : List UInt8) (x y : Value) (wr : World) : Prop := ∃ (u : Nat) (acc : List UInt8) (o' : Col), x = .int .u64 u ∧ u ≤ 4611686018427387904 ∧ acc ++ enc u = l ∧ Stp [d] w0 o0 wr o' ∧ OwnB wr o' d y acc
set_option maxHeartbeats 1000000 in
set_option maxRecDepth 100000 in
theorem rfnum_calls (e0 : Nat) (x : Int) (w : World) (o : Col) :
    Calls Try.prog 56 #[.int .i64 x] w (Post [] w o fun r w' o' => OwnB w' o' e0 r (enc (clamp x))) := by
  obtain ⟨d, _, _, hd⟩ := fresh o w.heap.size []
  have h9 := enc_len9 x
  have E1 : ∀ b, decide ((4611686018427387904 : Int) < x) = b → ∀ b2, decide ((0 : Int) < x) = b2 → (b = true → b2 = true) → Calls Try.prog 56 #[.int .i64 x] w (Post [] w o fun r w' o' => OwnB w' o' e0 r (enc (clamp x))) := by
    intro b hb1 b2 hb2 hbb
    cases b <;> cases b2
    all_goals first | (exfalso; simp at hbb; done) | skip
    all_goals clear hbb
    all_goals first
      | (have hq := Lib.hid (show (4611686018427387904 : Int) = (clamp x : Int) by have := of_decide_eq_true hb1; unfold clamp; omega))
      | (have hq := Lib.hid (show IntKind.u64.wrap x = (clamp x : Int) by have h1 := of_decide_eq_false hb1; have h2 := of_decide_eq_true hb2; rw [IntKind.wrap_u64]; unfold clamp; omega))
      | (have hq := Lib.hid (show (0 : Int) = (clamp x : Int) by have := of_decide_eq_false hb2; unfold clamp; omega))
    all_goals
        go_enter Try.func56, Try.ntmps56
        go_wp2_with fail
        focus
          go_loopw [3, 4] (RfIn w o d (enc (clamp x))) (fun i _ _ => (intOf i).toNat)
          case atStart => exact ⟨clamp x, [], o, congrArg (Value.int .u64) hq.out, clamp_le x, rfl, Stp.refl _ _ _, OwnB.nil _ _ _⟩
          case round =>
            obtain ⟨u, acc, o2, rfl, hu, he, hs2, hw2⟩ := hrel
            have hbd : acc.length + 1 ≤ 140737488355328 := by
              have h1 := congrArg List.length he
              have h4 := enc_pos u
              simp only [List.length_append] at h1
              omega
            have He := Lib.hid he
            have Hu := Lib.hid hu
            have Hbd := Lib.hid hbd
            clear he hu hbd
            obtain ⟨Av, capv, rfl⟩ := Own.shape hw2
            by_cases hu2 : 128 ≤ u
            · obtain ⟨B, hB⟩ : ∃ B, UInt8.ofNat (u % 128 + 128) = B := ⟨_, rfl⟩
              have hbit := or128' u (by have := Hu.out; omega)
              rw [hB] at hbit
              have Hu2 := Lib.hid (enc_big hu2)
              have HB := Lib.hid hB
              clear hB
              go_wp2_with (refine holdAt 19 ?_)
              apply Hold.mk
              have s1 := (Stp.refl [d] wr o2).alloc (.cells #[.int .u8 (B.toNat : Int)] 5) d
              refine appB _ _ rfl rfl (hw2.stp ((Stp.refl [] wr o2).alloc _ d) (by simp)) (RdB.new wr o2 d #[.int .u8 (B.toNat : Int)] [B] rfl 1 rfl (by omega) 5 _ rfl) rfl rfl Hbd.out fun A' cap' w' o' h1 h2 _ h5 => ?_
              clear hbit
              go_wp2
              have hr : RfIn w o d (enc (clamp x)) (.int .u64 ((u : Int) / 128)) (.slice A' (acc.length + 1) cap') w' := ⟨u / 128, acc ++ [B], _, by go_num, by have := Hu.out; omega, by rw [List.append_assoc, List.singleton_append, ← He.out, Hu2.out, HB.out], hs2.trans (s1.trans h1), h2⟩
              refine ⟨?_, by simp [intOf]; omega⟩
              first
                | exact hr
                | (repeat (first | exact ⟨hr, rfl⟩ | apply Exists.intro))
            · have hbit := ofNat8 (show u < 256 by omega)
              obtain ⟨B, hB⟩ : ∃ B, UInt8.ofNat u = B := ⟨_, rfl⟩
              rw [hB] at hbit
              have Hu2 := Lib.hid (enc_small (show u < 128 by omega))
              have HB := Lib.hid hB
              clear hB
              have Hbit := Lib.hid hbit
              clear hbit
              go_wp2_with (refine holdAt 26 ?_)
              apply Hold.mk
              have s1 := (Stp.refl [d] wr o2).alloc (.cells #[.int .u8 (u : Int)] 5) d
              refine appB _ _ rfl rfl (hw2.stp ((Stp.refl [] wr o2).alloc _ d) (by simp)) (RdB.new wr o2 d #[.int .u8 (u : Int)] [B] (by simp only [vbs, List.map_cons, List.map_nil]; rw [← Hbit.out]) 1 rfl (by omega) 5 _ rfl) rfl rfl Hbd.out fun A' cap' w' o' h1 h2 _ h5 => ?_
              go_wp2
              go_ret
              have s2 := hs2.trans (s1.trans h1)
              rw [show acc ++ [B] = enc (clamp x) by rw [← He.out, Hu2.out, HB.out]] at h2
              exact Post.mk ((s2.drop hd).repaint e0) (Own.fresh h2 s2 hd e0)
  refine E1 _ rfl _ rfl ?_
  simp only [decide_eq_true_eq]
  omega

def RfOut (w0 : World) (o0 : Col) (d : Nat) (ns : List Int) (y x : Value) (wr : World) : Prop := ∃ (k : Nat) (o' : Col), x = .int .i64 k ∧ k ≤ ns.length ∧ Stp [d] w0 o0 wr o' ∧ OwnB wr o' d y (encs (ns.take k))
set_option maxHeartbeats 1000000 in
set_option maxRecDepth 100000 in
theorem rfnums_calls (c e0 : Nat) (v : Value) (ns : List Int) (w : World) (o : Col) (hr : Rd w o c 1 v ns.length (ns.map (.int .i64))) (hb : 9 * ns.length ≤ 140737488355328) :
    Calls Try.prog 87 #[v] w (Post [] w o fun r w' o' => OwnB w' o' e0 r (encs ns)) := by
  obtain ⟨d, hdc, _, hd⟩ := fresh o w.heap.size [c]
  obtain ⟨A, cap, rfl, hnc, hA, _⟩ := hr.is
  go_enter Try.func87, Try.ntmps87
  go_wp2_with fail
  go_loopw [3, 4] (RfOut w o d ns) (fun _ i _ => ns.length - (intOf i).toNat)
  case atStart => exact ⟨0, o, rfl, Nat.zero_le _, Stp.refl _ _ _, OwnB.nil _ _ _⟩
  case round =>
    obtain ⟨k, o1, rfl, hk, hs, hw⟩ := hrel
    obtain ⟨Av, capv, rfl⟩ := Own.shape hw
    by_cases hlt : k < ns.length
    · obtain ⟨a, rfl, hcell⟩ := (hr.stp hs (by simp at hdc ⊢; exact fun e => hdc e.symm)).get hlt
      obtain ⟨x, hx⟩ : ∃ x, ns[k] = x := ⟨_, rfl⟩
      rw [hx] at hcell
      have E1 := Lib.hid (show encs (ns.take (k + 1)) = encs (ns.take k) ++ enc (clamp x) by rw [List.take_succ_eq_append_getElem hlt, hx, encs_snoc])
      have Hbd := Lib.hid (show (encs (ns.take k)).length + (enc (clamp x)).length ≤ 140737488355328 by
        have h1 := encs_len (ns.take k)
        have h2 := enc_len9 x
        simp only [List.length_take] at h1
        omega)
      clear hx
      go_wp2_with fail
      refine (rfnum_calls d x _ o1).mono ?_
      rintro e w2 ⟨r, o2, rfl, s2, h2⟩
      obtain ⟨A2, cap2, rfl⟩ := Own.shape h2
      go_wp2_with (refine holdAt 17 ?_)
      apply Hold.mk
      refine appB _ _ rfl rfl (hw.stp s2 (by simp)) (OwnB.rd h2) rfl rfl Hbd.out fun A' cap' w' o' h3 h4 _ h5 => ?_
      clear hcell
      go_wp2
      go_roundw
      case rel => exact ⟨k + 1, _, by go_num, hlt, hs.trans (s2.none.trans h3), by rw [E1.out]; exact h4⟩
      case measure => simp [intOf]; omega
    · have hk' : k = ns.length := by omega
      subst hk'
      have hf := Own.fresh hw hs hd e0
      rw [List.take_length] at hf
      go_wp2
      go_ret
      refine Post.mk ((hs.drop hd).repaint e0) ?_
      simp only [Array.getD, List.take_length]
      exact hf

set_option maxHeartbeats 400000 in
theorem rfbytes_calls (c e0 : Nat) (v : Value) (l : List UInt8) (w : World) (o : Col) (h : RdB w o c v l) (hb : l.length + 9 ≤ 140737488355328) :
    Calls Try.prog 57 #[v] w (Post [] w o fun r w' o' => OwnB w' o' e0 r (enc (clamp l.length) ++ l)) := by
  obtain ⟨d, hdc, _, hd⟩ := fresh o w.heap.size [c]
  obtain ⟨A, cap, rfl, hlc, hA⟩ := h.shape
  have h9 := enc_len9 l.length
  have Hbd := Lib.hid (show (enc (clamp l.length)).length + l.length ≤ 140737488355328 by omega)
  go_enter Try.func57, Try.ntmps57
  go_wp2_with fail
  refine (rfnum_calls d l.length w o).mono ?_
  rintro e w2 ⟨r, o2, rfl, s2, h2⟩
  obtain ⟨A2, cap2, rfl⟩ := Own.shape h2
  go_wp2_with (refine holdAt 7 ?_)
  apply Hold.mk
  refine appB _ _ rfl rfl h2 (h.stp s2 (by simp)) rfl rfl Hbd.out fun A' cap' w' o' h3 h4 _ h5 => ?_
  go_wp2
  go_ret
  have s3 := s2.none.trans h3
  exact Post.mk ((s3.drop hd).repaint e0) (Own.fresh h4 s3 hd e0)
end Go.Proofs.Ytpjnmijfmfgdpaa
