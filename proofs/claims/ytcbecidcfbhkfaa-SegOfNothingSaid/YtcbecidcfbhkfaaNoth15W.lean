/- SegOfNothing: the walk. -/
import Derived.Test.YtcbecidcfbhkfaaKnown15
namespace Go.Proofs.Ytcbecidcfbhkfaa
set_option linter.unusedVariables false
set_option linter.unusedSimpArgs false
open Go.RowKit Go.ChangeMaps

set_option maxHeartbeats 1000000 in
set_option maxRecDepth 100000 in
theorem noth_law (id : Int) (vd : Value) (d : List UInt8) (w : World) (hd : RdB w (fun _ => 0) 0 vd d) : Calls Try.prog 8 #[.agg #[.int .i64 id, vd]] w (Post [] w (fun _ => 0) fun r _ _ => r = .bool true) := by
  obtain ⟨A, cap, rfl, hlc, hA⟩ := hd.shape
  have s0 := (Stp.refl [] w (fun _ => 0)).alloc (.cells #[.int .i64 id, .slice A d.length cap] 37) 1
  have hd0 := hd.stp s0 (by simp)
  by_cases h1 : 100 < d.length
  · have g1 : decide ((100 : Int) < (d.length : Int)) = true := decide_eq_true (by omega)
    go_enter Try.func8, Try.ntmps8
    go_wp2
    go_ret
    exact Post.mk s0 rfl
  have g1 : decide ((100 : Int) < (d.length : Int)) = false := decide_eq_false (by omega)
  replace s0 := Lib.hid s0
  replace hd0 := Lib.hid hd0
  go_enter Try.func8, Try.ntmps8
  go_wp2_with fail
  refine (takeNil_calls id 0 _ d 0 _ _ hd0.out).mono ?_
  rintro e w1 ⟨r, o1, rfl, s1, rfl⟩
  replace s1 := Lib.hid (s0.out.trans s1)
  go_wp2_with fail
  refine (errorsNil_calls w1).mono ?_
  rintro e w2 ⟨rfl, rfl⟩
  go_wp2_with fail
  refine (openNil_calls w1).mono ?_
  rintro e w2 ⟨rfl, rfl⟩
  go_wp2_with fail
  refine (known15_calls w1 o1).mono ?_
  rintro e w9 ⟨r, o9, rfl, s9, rfl⟩
  replace s9 := Lib.hid (s1.out.trans s9)
  go_wp2
  go_ret
  exact Post.mk s9.out rfl

end Go.Proofs.Ytcbecidcfbhkfaa
