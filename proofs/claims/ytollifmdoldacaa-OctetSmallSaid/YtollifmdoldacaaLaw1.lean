/- The statements' own helpers: same, spoil, roomy. -/
import Derived.Test.YtollifmdoldacaaOctet
namespace Go.Proofs.Ytollifmdoldacaa
set_option linter.unusedVariables false
set_option linter.unusedSimpArgs false
open Go.RowKit

theorem stp_drewN (w : World) (o : Col) (n : Nat) : Stp [] w o (w.drewN n) o := (Stp.refl [] w o).drewN n
def SmIn (w : World) (l m : List UInt8) (x : Value) (wr : World) : Prop := ∃ k n : Nat, x = .int .i64 k ∧ k ≤ l.length ∧ l.take k = m.take k ∧ wr = w.drewN n
set_option maxHeartbeats 400000 in
theorem same_calls (c d : Nat) (v v2 : Value) (l m : List UInt8) (w : World) (o : Col) (h : RdB w o c v l) (h2 : RdB w o d v2 m) :
    Calls Try.prog 14 #[v, v2] w (Post [] w o fun r _ _ => r = .bool (l == m)) := by
  obtain ⟨A, cap, rfl, hlc, hA⟩ := h.shape
  obtain ⟨B, cap2, rfl, hmc, hB⟩ := h2.shape
  have hbig := h.big
  by_cases hlen : l.length = m.length
  · have hl : ((l.length : Int) != (m.length : Int)) = false := by rw [hlen]; simp
    have Hlen := Lib.hid hlen
    clear hlen
    go_enter Try.func14, Try.ntmps14
    go_wp2_with fail
    go_loopw [5] (SmIn w l m) (fun x _ => l.length - (intOf x).toNat)
    case atStart => exact ⟨0, 0, rfl, Nat.zero_le _, rfl, rfl⟩
    case round =>
      obtain ⟨k, n, rfl, hk, hkm, rfl⟩ := hrel
      by_cases hlt : k < l.length
      · obtain ⟨a, rfl, hc⟩ := h.at_ hlt
        have hlt2 : k < m.length := by have := Hlen.out; omega
        obtain ⟨b, rfl, hc2⟩ := h2.at_ hlt2
        have e1 := List.take_succ_eq_append_getElem hlt
        have e2 := List.take_succ_eq_append_getElem hlt2
        obtain ⟨x, hx⟩ : ∃ x, l[k] = x := ⟨_, rfl⟩
        obtain ⟨y, hy⟩ : ∃ y, m[k] = y := ⟨_, rfl⟩
        rw [hx] at hc e1
        rw [hy] at hc2 e2
        by_cases hxy : x = y
        · have hq : ((x.toNat : Int) != (y.toNat : Int)) = false := by rw [hxy]; simp
          have hkm2 : l.take (k + 1) = m.take (k + 1) := by rw [e1, e2, hkm, hxy]
          have H := Lib.hid hkm2
          clear hx hy hxy e1 e2 hkm hkm2
          go_wp2
          go_quiet (fail)
          go_wp2
          go_roundw
          case rel => exact ⟨k + 1, _, by go_num, hlt, H.out, rfl⟩
          case measure => simp [intOf]; omega
        · have hq : ((x.toNat : Int) != (y.toNat : Int)) = true := by
            rw [bne_iff_ne]
            intro e
            exact hxy (UInt8.toNat_inj.1 (by omega))
          have hne : (l == m) = false := by
            rw [beq_eq_false_iff_ne]
            intro e
            subst e
            exact hxy (hx.symm.trans hy)
          have H := Lib.hid hne
          clear hx hy hxy e1 e2 hkm hne
          go_wp2
          go_quiet (fail)
          go_wp2
          go_ret
          exact Post.mk ((stp_drewN w o n).trans (stp_drewN _ o _)) (by simp only [Array.getD]; rw [H.out]; rfl)
      · have hk' : k = l.length := by omega
        have he : (l == m) = true := by
          rw [beq_iff_eq]
          have h1 := Hlen.out
          rw [hk', List.take_length, h1, List.take_length] at hkm
          exact hkm
        have H := Lib.hid he
        clear he hkm hk'
        go_wp2
        go_ret
        exact Post.mk (stp_drewN w o n) (by simp only [Array.getD]; rw [H.out]; rfl)
  · have hl : ((l.length : Int) != (m.length : Int)) = true := by rw [bne_iff_ne]; omega
    have hne : (l == m) = false := by
      rw [beq_eq_false_iff_ne]
      intro e
      exact hlen (by rw [e])
    have H := Lib.hid hne
    clear hlen hne
    go_enter Try.func14, Try.ntmps14
    go_wp2
    go_ret
    exact Post.mk (Stp.refl _ _ _) (by simp only [Array.getD]; rw [H.out]; rfl)
end Go.Proofs.Ytollifmdoldacaa
