/- The statements' own helpers: same, spoil, roomy. -/
import Derived.Test.YtollifmdoldacaaOctet
namespace Go.Proofs.Ytollifmdoldacaa
set_option linter.unusedVariables false
set_option linter.unusedSimpArgs false
open Go.RowKit

theorem stp_drewN (w : World) (o : Col) (n : Nat) : Stp [] w o (w.drewN n) o := (Stp.refl [] w o).drewN n
def SmIn (w : World) (l m : List UInt8) (x : Value) (wr : World) : Prop := ∃ k n : Nat, x = .int .i64 k ∧ k ≤ l.length ∧ l.take k = m.take k ∧ wr = w.drewN n
set_option maxHeartbeats 400000 in
theorem same_calls (c d : Nat) (v v2 : Value) (l m : List UInt8) (w : World) (o : Col) (h : RdB w o c v l) (h2 : RdB w o d v2 m) :
    Calls Try.prog 14 #[v, v2] w (Post [] w o fun r _ _ => r = .bool (l == m)) := by
  obtain ⟨A, cap, rfl, hlc, hA⟩ := h.shape
  obtain ⟨B, cap2, rfl, hmc, hB⟩ := h2.shape
  have hbig := h.big
  by_cases hlen : l.length = m.length
  · have hl : ((l.length : Int) != (m.length : Int)) = false := by rw [hlen]; simp
    have Hlen := Lib.hid hlen
    clear hlen
    go_enter Try.func14, Try.ntmps14
    go_wp2_with fail
    go_loopw [5] (SmIn w l m) (fun x _ => l.length - (intOf x).toNat)
    case atStart => exact ⟨0, 0, rfl, Nat.zero_le _, rfl, rfl⟩
    case round =>
      obtain ⟨k, n, rfl, hk, hkm, rfl⟩ := hrel
      by_cases hlt : k < l.length
      · obtain ⟨a, rfl, hc⟩ := h.at_ hlt
        have hlt2 : k < m.length := by have := Hlen.out; omega
        obtain ⟨b, rfl, hc2⟩ := h2.at_ hlt2
        have e1 := List.take_succ_eq_append_getElem hlt
        have e2 := List.take_succ_eq_append_getElem hlt2
        obtain ⟨x, hx⟩ : ∃ x, l[k] = x := ⟨_, rfl⟩
        obtain ⟨y, hy⟩ : ∃ y, m[k] = y := ⟨_, rfl⟩
        rw [hx] at hc e1
        rw [hy] at hc2 e2
        by_cases hxy : x = y
        · have hq : ((x.toNat : Int) != (y.toNat : Int)) = false := by rw [hxy]; simp
          have hkm2 : l.take (k + 1) = m.take (k + 1) := by rw [e1, e2, hkm, hxy]
          have H := Lib.hid hkm2
          clear hx hy hxy e1 e2 hkm hkm2
          go_wp2
          go_quiet (fail)
          go_wp2
          go_roundw
          case rel => exact ⟨k + 1, _, by go_num, hlt, H.out, rfl⟩
          case measure => simp [intOf]; omega
        · have hq : ((x.toNat : Int) != (y.toNat : Int)) = true := by
            rw [bne_iff_ne]
            intro e
            exact hxy (UInt8.toNat_inj.1 (by omega))
          have hne : (l == m) = false := by
            rw [beq_eq_false_iff_ne]
            intro e
            subst e
            exact hxy (hx.symm.trans hy)
          have H := Lib.hid hne
          clear hx hy hxy e1 e2 hkm hne
          go_wp2
          go_quiet (fail)
          go_wp2
          go_ret
          exact Post.mk ((stp_drewN w o n).trans (stp_drewN _ o _)) (by simp only [Array.getD]; rw [H.out]; rfl)
      · have hk' : k = l.length := by omega
        have he : (l == m) = true := by
          rw [beq_iff_eq]
          have h1 := Hlen.out
          rw [hk', List.take_length, h1, List.take_length] at hkm
          exact hkm
        have H := Lib.hid he
        clear he hkm hk'
        go_wp2
        go_ret
        exact Post.mk (stp_drewN w o n) (by simp only [Array.getD]; rw [H.out]; rfl)
  · have hl : ((l.length : Int) != (m.length : Int)) = true := by rw [bne_iff_ne]; omega
    have hne : (l == m) = false := by
      rw [beq_eq_false_iff_ne]
      intro e
      exact hlen (by rw [e])
    have H := Lib.hid hne
    clear hlen hne
    go_enter Try.func14, Try.ntmps14
    go_wp2
    go_ret
    exact Post.mk (Stp.refl _ _ _) (by simp only [Array.getD]; rw [H.out]; rfl)

/-! ### spoil -/
def SpIn (w0 : World) (o0 : Col) (c : Nat) (A : Option Addr) (n cap : Nat) (x : Value) (wr : World) : Prop := ∃ (k : Nat) (o' : Col) (l : List UInt8), x = .int .i64 k ∧ k ≤ n ∧ l.length = n ∧ Stp [c] w0 o0 wr o' ∧ OwnB wr o' c (.slice A n cap) l
set_option maxHeartbeats 400000 in
theorem spoil_calls (c : Nat) (v : Value) (l : List UInt8) (w : World) (o : Col) (h : OwnB w o c v l) (hb : l.length + 1 ≤ 140737488355328) :
    Calls Try.prog 17 #[v] w (Post [c] w o fun r _ _ => r = .tuple #[]) := by
  obtain ⟨A, cap, rfl⟩ := Own.shape h
  have Hb := Lib.hid hb
  go_enter Try.func17, Try.ntmps17
  go_wp2_with (refine holdAt 6 ?_)
  apply Hold.mk
  have s1 := (Stp.refl [c] w o).alloc (.cells #[.int .u8 99] 5) c
  refine appB _ _ rfl rfl (h.stp ((Stp.refl [] w o).alloc (.cells #[.int .u8 99] 5) c) (by simp)) (RdB.new w o c #[.int .u8 99] [99] rfl 1 rfl (by omega) 5 _ rfl) rfl rfl Hb.out fun A' cap' w' o' h1 h2 _ h5 => ?_
  have s2 := s1.trans h1
  have hlen : (l ++ [99]).length = l.length + 1 := by simp
  generalize hL : l ++ [99] = L at h2 hlen
  obtain ⟨n, hn⟩ : ∃ n, l.length + 1 = n := ⟨_, rfl⟩
  have hbn : n ≤ 140737488355328 := by omega
  change OwnB _ _ _ (.slice A' (l.length + 1) cap') L at h2
  show wpList _ _ _ _ (Act.put _ _ (.slice A' (l.length + 1) cap')) _
  rw [hn] at h2 hlen ⊢
  have Hlen := Lib.hid hlen
  clear hlen hL hn h1 h5 s1
  go_wp2_with fail
  go_loopw [3] (SpIn w o c A' n cap') (fun i _ => n - (intOf i).toNat)
  case atStart => exact ⟨0, _, L, rfl, Nat.zero_le _, Hlen.out, s2, h2⟩
  case round =>
    obtain ⟨k, o3, l3, rfl, hk, hl3, s3, h3⟩ := hrel
    by_cases hlt : k < n
    · obtain ⟨g, rfl, hc, hf, hst⟩ := h3.store (show k < l3.length by omega)
      obtain ⟨h4, s4⟩ : OwnB (wr.setCell ⟨g, k, none⟩ (.int .u8 98)) o3 c (.slice (some ⟨g, 0, none⟩) n cap') (l3.set k 98) ∧ Stp [c] wr o3 (wr.setCell ⟨g, k, none⟩ (.int .u8 98)) o3 := hst 98
      have Hl := Lib.hid hl3
      generalize (Value.int .u8 ((l3[k]'(by omega)).toNat : Int)) = z at hc
      clear hl3 hst
      go_wp2
      go_roundw
      case rel => exact ⟨k + 1, o3, l3.set k 98, by go_num, hlt, by rw [List.length_set]; exact Hl.out, s3.trans s4, h4⟩
      case measure => simp [intOf]; omega
    · have Hl := Lib.hid hl3
      clear hl3
      go_wp2
      go_end0
      exact Post.mk s3 rfl

/-! ### roomy, stands -/
set_option maxHeartbeats 400000 in
theorem roomy_calls (c c' : Nat) (v : Value) (l : List UInt8) (w : World) (o : Col) (h : RdB w o c v l) (hb : l.length + 2 ≤ 140737488355328) :
    Calls Try.prog 25 #[v] w (Post [] w o fun r w' o' => OwnB w' o' c' r (l ++ [171])) := by
  obtain ⟨d, hdc, _, hd⟩ := fresh o w.heap.size [c]
  obtain ⟨A, cap, rfl, hlc, hA⟩ := h.shape
  have hdc' : c ∉ [d] := by simp at hdc ⊢; exact fun e => hdc e.symm
  have Hdc := Lib.hid hdc'
  clear hdc hdc'
  go_enter Try.func25, Try.ntmps25
  go_wp2_with (refine holdAt 5 ?_)
  apply Hold.mk
  have s1 := (Stp.refl [d] w o).alloc (.cells #[] 5) d
  refine appB (l := []) _ _ rfl rfl (OwnB.new w o d #[] [] rfl 0 rfl (by omega) _ rfl) (h.stp s1 Hdc.out) rfl rfl (by simp; omega) fun A1 cap1 w1 o1 h1 h2 _ _ => ?_
  have s2 := s1.trans h1
  clear h1 s1
  simp only [List.nil_append, List.length_nil, Nat.zero_add] at h2
  go_wp2_with (refine holdAt 7 ?_)
  apply Hold.mk
  have s3 := (Stp.refl [d] w1 o1).alloc (.cells #[.int .u8 171] 5) d
  refine appB _ _ rfl rfl (h2.stp ((Stp.refl [] w1 o1).alloc (.cells #[.int .u8 171] 5) d) (by simp)) (RdB.new w1 o1 d #[.int .u8 171] [171] rfl 1 rfl (by omega) 5 _ rfl) rfl rfl (by simp; omega) fun A2 cap2 w2 o2 h3 h4 _ _ => ?_
  have s4 := (s2.trans s3).trans h3
  clear h3 s3 s2 h2
  have h5 : OwnB w2 o2 d (.slice A2 (l ++ [171]).length cap2) (l ++ [171]) := by rw [List.length_append]; exact h4
  clear h4
  go_wp2_with (refine holdAt 9 ?_)
  apply Hold.mk
  have s5 := (Stp.refl [d] w2 o2).alloc (.cells #[.int .u8 171] 5) d
  have h6 := h5.stp ((Stp.refl [] w2 o2).alloc (.cells #[.int .u8 171] 5) d) (by simp)
  rw [List.length_append] at h6
  refine appB _ _ rfl rfl h6 (RdB.new w2 o2 d #[.int .u8 171] [171] rfl 1 rfl (by omega) 5 _ rfl) rfl rfl (by simp; omega) fun A3 cap3 w3 o3 h7 h8 _ _ => ?_
  have s6 := (s4.trans s5).trans h7
  clear h7 s5 s4 h5 h6
  generalize hL : l ++ [171] ++ [171] = L at h8
  have hLn : L.length = l.length + 2 := by rw [← hL]; simp
  have hLt : L.take (l.length + 1) = l ++ [171] := by rw [← hL, List.take_append_of_le_length (by simp), List.take_of_length_le (by simp)]
  have h9 : OwnB w3 o3 d (.slice A3 L.length cap3) L := by rw [hLn]; simpa using h8
  have HLt := Lib.hid hLt
  have HLn := Lib.hid hLn
  clear hL hLn hLt h8
  simp only [List.length_append, List.length_cons, List.length_nil, Nat.zero_add]
  go_wp2_with (refine holdAt 13 ?_)
  apply Hold.mk
  refine cutB _ _ rfl rfl h9 (l.length + 1) (by rw [HLn.out]; rfl) rfl (by rw [HLn.out]; omega) fun h10 => ?_
  rw [HLt.out] at h10
  go_wp2
  go_ret
  have h11 : Own w3 o3 d 5 1 (.slice A3 (l.length + 1) cap3) (l ++ [171]).length (vbs (l ++ [171])) := h10
  exact Post.mk ((s6.drop hd).repaint c') (Own.fresh h11 s6 hd c')
end Go.Proofs.Ytollifmdoldacaa
