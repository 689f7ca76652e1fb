/- The statements' own helpers: heavyRows, stands. -/
import Derived.Test.YtollifmdoldacaaLaw1
namespace Go.Proofs.Ytollifmdoldacaa
set_option linter.unusedVariables false
set_option linter.unusedSimpArgs false
open Go.RowKit

/-- Are rows more than is looked at? -/
def heavyGo : Nat → List (List UInt8) → Bool
  | _, [] => false
  | n, l :: r => if 4000 < l.length then true else if 4000 < n + 3 + l.length then true else heavyGo (n + 3 + l.length) r
theorem heavy_sum : ∀ (ls : List (List UInt8)) (n : Nat), n ≤ 4000 → heavyGo n ls = false → n + (ls.map fun l => l.length + 3).sum ≤ 4000
  | [], n, hn, _ => by simpa using hn
  | l :: r, n, hn, h => by
    rw [heavyGo] at h
    split at h
    · cases h
    · split at h
      · cases h
      · have := heavy_sum r (n + 3 + l.length) (by omega) h
        simp only [List.map_cons, List.sum_cons]
        omega
def HvIn (ls : List (List UInt8)) (x y : Value) : Prop := ∃ k n : Nat, x = .int .i64 n ∧ n ≤ 4000 ∧ y = .int .i64 k ∧ k ≤ ls.length ∧ heavyGo n (ls.drop k) = heavyGo 0 ls
set_option maxHeartbeats 400000 in
set_option maxRecDepth 100000 in
theorem heavy_calls (c d : Nat) (v : Value) (ls : List (List UInt8)) (w : World) (o : Col) (hr : RdRows w o c d v ls) :
    Calls Try.prog 21 #[v] w fun e w' => e = .returned (.bool (heavyGo 0 ls)) ∧ w = w' := by
  obtain ⟨A, cap, rfl, hnc, hA⟩ := hr.shape
  have hbig : ls.length ≤ 9223372036854775807 := by obtain ⟨_, _, h, _⟩ := hr; exact h.big
  go_enter Try.func21, Try.ntmps21
  go_wp2_with fail
  go_loop [3, 4] (HvIn ls) (fun _ y => ls.length - (intOf y).toNat)
  case atStart => exact ⟨0, 0, rfl, by omega, rfl, Nat.zero_le _, rfl⟩
  case round =>
    obtain ⟨k, n, rfl, hn, rfl, hk, hg⟩ := hrel
    by_cases hlt : k < ls.length
    · obtain ⟨a, uv, r, rfl, hcell, hrd, Hr⟩ := hr.get hlt
      obtain ⟨B, cap2, rfl, hrc, hB⟩ := hrd.shape
      have hbig2 := hrd.big
      rw [List.drop_eq_getElem_cons hlt, Hr.out, heavyGo] at hg
      by_cases h1 : 4000 < r.length
      · rw [if_pos h1] at hg
        have Hg := Lib.hid hg.symm
        clear hg
        go_wp2
        go_ret
        exact ⟨by rw [Hg.out]; rfl, rfl⟩
      · rw [if_neg h1] at hg
        by_cases h2 : 4000 < n + 3 + r.length
        · rw [if_pos h2] at hg
          have Hg := Lib.hid hg.symm
          clear hg
          go_wp2
          go_ret
          exact ⟨by rw [Hg.out]; rfl, rfl⟩
        · rw [if_neg h2] at hg
          have Hg := Lib.hid hg
          clear hg
          go_wp2
          go_round
          case rel => exact ⟨k + 1, n + 3 + r.length, by go_num, by omega, by go_num, hlt, Hg.out⟩
          case measure => simp [intOf]; omega
    · rw [List.drop_of_length_le (by omega), heavyGo] at hg
      have Hg := Lib.hid hg.symm
      clear hg
      go_wp2
      go_ret
      exact ⟨by rw [Hg.out]; rfl, rfl⟩

set_option maxHeartbeats 400000 in
theorem stands_calls (c d : Nat) (v v2 : Value) (l : List UInt8) (w : World) (o : Col) (h : RdB w o c v (l ++ [171])) (h2 : RdB w o d v2 l) (hb : l.length + 1 ≤ 140737488355328) :
    Calls Try.prog 27 #[v, v2] w (Post [] w o fun r _ _ => r = .bool true) := by
  obtain ⟨A, cap, rfl, hlc, hA⟩ := h.shape
  obtain ⟨B, cap2, rfl, hmc, hB⟩ := h2.shape
  obtain ⟨a, rfl, hc⟩ := h.at_ (j := l.length) (by simp)
  have e1 : (l ++ [171])[l.length]'(by simp) = (171 : UInt8) := by simp
  rw [e1] at hc
  have hlen : (l ++ [171]).length = l.length + 1 := by simp
  have htake : (l ++ [171]).take l.length = l := by simp
  clear e1
  generalize hL : l ++ [171] = L at *
  have Ht := Lib.hid htake
  clear hL htake
  have hq : ((L.length : Int) == (l.length : Int) + 1) = true := by rw [hlen]; simp
  have hle : l.length ≤ L.length := by omega
  have hlt : l.length < L.length := by omega
  clear hlen
  have hc' : w.cell? (a.add l.length) = some (.int .u8 171) := hc
  clear hc
  go_enter Try.func27, Try.ntmps27
  go_wp2_with (refine holdAt 15 ?_)
  apply Hold.mk
  refine slcBH (c := c) (l := L) _ _ (by rfl) rfl h l.length rfl rfl hle fun A' r1 => ?_
  rw [Ht.out] at r1
  go_wp2_with fail
  refine (same_calls c d _ _ _ _ _ _ r1 h2).mono ?_
  rintro e w1 ⟨r, o1, rfl, s1, rfl⟩
  rw [beq_self_eq_true]
  have hc1 := s1.cell hc' (by simp)
  clear hc'
  go_wp2
  go_ret
  exact Post.mk s1 rfl
end Go.Proofs.Ytollifmdoldacaa
