/- SHA-256: the small functions' walks. Printed by wip/shagen.py. -/
import Derived.Test.YtpjnmijfmfgdpaaShaP
namespace Go.Proofs.Ytpjnmijfmfgdpaa
set_option linter.unusedVariables false
set_option linter.unusedSimpArgs false
open Go.RowKit

theorem turn_calls (x m : Int) (n : Nat) (hm : m = (n : Int)) (hn : n ≤ 25) (h0 : 0 ≤ x) (h1 : x < 4294967296) (w : World) : Calls Try.prog 105 #[.int .u32 x, .int .u64 m] w fun e w' => e = .returned (.int .u32 (rotI x n)) ∧ w = w' := by
  subst hm
  go_enter Try.func105, Try.ntmps105
  go_wp2
  go_ret
  exact ⟨rfl, rfl⟩
theorem xr_calls (x m : Int) (n : Nat) (hm : m = (n : Int)) (hn : n ≤ 25) (h0 : 0 ≤ x) (h1 : x < 4294967296) (w : World) : Calls Try.prog 86 #[.int .u32 x, .int .u64 m] w fun e w' => e = .returned (.int .u32 (rotI x n)) ∧ w = w' := by
  subst hm
  go_enter Try.func86, Try.ntmps86
  go_wp2
  go_ret
  exact ⟨rfl, rfl⟩
theorem s0_calls (x : Int) (h0 : 0 ≤ x) (h1 : x < 4294967296) (w : World) : Calls Try.prog 96 #[.int .u32 x] w fun e w' => e = .returned (.int .u32 (s0I x)) ∧ w = w' := by
  go_enter Try.func96, Try.ntmps96
  go_wp2_with fail
  refine (turn_calls x 7 7 rfl (by omega) h0 h1 _).mono ?_
  rintro e w' ⟨rfl, rfl⟩
  go_wp2_with fail
  refine (turn_calls x 18 18 rfl (by omega) h0 h1 _).mono ?_
  rintro e w' ⟨rfl, rfl⟩
  go_wp2
  go_ret
  exact ⟨rfl, rfl⟩
theorem s1_calls (x : Int) (h0 : 0 ≤ x) (h1 : x < 4294967296) (w : World) : Calls Try.prog 97 #[.int .u32 x] w fun e w' => e = .returned (.int .u32 (s1I x)) ∧ w = w' := by
  go_enter Try.func97, Try.ntmps97
  go_wp2_with fail
  refine (turn_calls x 17 17 rfl (by omega) h0 h1 _).mono ?_
  rintro e w' ⟨rfl, rfl⟩
  go_wp2_with fail
  refine (turn_calls x 19 19 rfl (by omega) h0 h1 _).mono ?_
  rintro e w' ⟨rfl, rfl⟩
  go_wp2
  go_ret
  exact ⟨rfl, rfl⟩
theorem b0_calls (x : Int) (h0 : 0 ≤ x) (h1 : x < 4294967296) (w : World) : Calls Try.prog 100 #[.int .u32 x] w fun e w' => e = .returned (.int .u32 (b0I x)) ∧ w = w' := by
  go_enter Try.func100, Try.ntmps100
  go_wp2_with fail
  refine (turn_calls x 2 2 rfl (by omega) h0 h1 _).mono ?_
  rintro e w' ⟨rfl, rfl⟩
  go_wp2_with fail
  refine (turn_calls x 13 13 rfl (by omega) h0 h1 _).mono ?_
  rintro e w' ⟨rfl, rfl⟩
  go_wp2_with fail
  refine (turn_calls x 22 22 rfl (by omega) h0 h1 _).mono ?_
  rintro e w' ⟨rfl, rfl⟩
  go_wp2
  go_ret
  exact ⟨rfl, rfl⟩
theorem b1_calls (x : Int) (h0 : 0 ≤ x) (h1 : x < 4294967296) (w : World) : Calls Try.prog 98 #[.int .u32 x] w fun e w' => e = .returned (.int .u32 (b1I x)) ∧ w = w' := by
  go_enter Try.func98, Try.ntmps98
  go_wp2_with fail
  refine (turn_calls x 6 6 rfl (by omega) h0 h1 _).mono ?_
  rintro e w' ⟨rfl, rfl⟩
  go_wp2_with fail
  refine (turn_calls x 11 11 rfl (by omega) h0 h1 _).mono ?_
  rintro e w' ⟨rfl, rfl⟩
  go_wp2_with fail
  refine (turn_calls x 25 25 rfl (by omega) h0 h1 _).mono ?_
  rintro e w' ⟨rfl, rfl⟩
  go_wp2
  go_ret
  exact ⟨rfl, rfl⟩
theorem choose_calls (x y z : Int) (hx : 0 ≤ x ∧ x < 4294967296) (hy : 0 ≤ y ∧ y < 4294967296) (hz : 0 ≤ z ∧ z < 4294967296) (w : World) : Calls Try.prog 99 #[.int .u32 x, .int .u32 y, .int .u32 z] w fun e w' => e = .returned (.int .u32 (chI x y z)) ∧ w = w' := by
  go_enter Try.func99, Try.ntmps99
  go_wp2
  go_ret
  exact ⟨rfl, rfl⟩
theorem most_calls (x y z : Int) (hx : 0 ≤ x ∧ x < 4294967296) (hy : 0 ≤ y ∧ y < 4294967296) (hz : 0 ≤ z ∧ z < 4294967296) (w : World) : Calls Try.prog 101 #[.int .u32 x, .int .u32 y, .int .u32 z] w fun e w' => e = .returned (.int .u32 (mjI x y z)) ∧ w = w' := by
  go_enter Try.func101, Try.ntmps101
  go_wp2
  go_ret
  exact ⟨rfl, rfl⟩
end Go.Proofs.Ytpjnmijfmfgdpaa
