/- OctetOfNothing: a nil Writer, a nil Reader. -/
import Derived.Test.YtollifmdoldacaaKnown1
namespace Go.Proofs.Ytollifmdoldacaa
set_option linter.unusedVariables false
set_option linter.unusedSimpArgs false
open Go.RowKit

theorem nil_nums (v : Value) (w : World) : Calls Try.prog 12 #[.pointer none, v] w fun e w' => e = .returned (.tuple #[]) ∧ w = w' := by
  go_enter Try.func12, Try.ntmps12
  go_wp2
  exact bodyPost_ret (results_none rfl _ _ _) rfl ⟨rfl, rfl⟩
theorem nil_wraw (v : Value) (w : World) : Calls Try.prog 29 #[.pointer none, v] w fun e w' => e = .returned (.tuple #[]) ∧ w = w' := by
  go_enter Try.func29, Try.ntmps29
  go_wp2
  go_end0
  exact ⟨rfl, rfl⟩
theorem nil_out (w : World) : Calls Try.prog 13 #[.pointer none] w fun e w' => e = .returned (.slice none 0 0) ∧ w = w' := by
  go_enter Try.func13, Try.ntmps13
  go_wp2
  go_ret
  exact ⟨rfl, rfl⟩
theorem nil_bad (w : World) : Calls Try.prog 33 #[.pointer none] w fun e w' => e = .returned (.tuple #[]) ∧ w = w' := by
  go_enter Try.func33, Try.ntmps33
  go_wp2
  go_end0
  exact ⟨rfl, rfl⟩
theorem nil_num (w : World) : Calls Try.prog 18 #[.pointer none] w fun e w' => e = .returned (.int .i64 0) ∧ w = w' := by
  go_enter Try.func18, Try.ntmps18
  go_wp2
  go_ret
  exact ⟨rfl, rfl⟩
theorem nil_left (w : World) : Calls Try.prog 31 #[.pointer none] w fun e w' => e = .returned (.int .i64 0) ∧ w = w' := by
  go_enter Try.func31, Try.ntmps31
  go_wp2
  go_ret
  exact ⟨rfl, rfl⟩
theorem nil_good (w : World) : Calls Try.prog 19 #[.pointer none] w fun e w' => e = .returned (.bool false) ∧ w = w' := by
  go_enter Try.func19, Try.ntmps19
  go_wp2
  go_ret
  exact ⟨rfl, rfl⟩
theorem nil_whole (w : World) : Calls Try.prog 20 #[.pointer none] w fun e w' => e = .returned (.bool false) ∧ w = w' := by
  go_enter Try.func20, Try.ntmps20
  go_wp2_with fail
  refine (nil_good w).mono ?_
  rintro e w' ⟨rfl, rfl⟩
  go_wp2
  go_ret
  exact ⟨rfl, rfl⟩
theorem nil_rraw (n : Int) (w : World) : Calls Try.prog 32 #[.pointer none, .int .i64 n] w fun e w' => e = .returned (.slice none 0 0) ∧ w = w' := by
  go_enter Try.func32, Try.ntmps32
  go_wp2_with fail
  refine (nil_bad w).mono ?_
  rintro e w' ⟨rfl, rfl⟩
  go_wp2
  go_ret
  exact ⟨rfl, rfl⟩
theorem nil_rbytes (w : World) : Calls Try.prog 30 #[.pointer none] w fun e w' => e = .returned (.slice none 0 0) ∧ w = w' := by
  go_enter Try.func30, Try.ntmps30
  go_wp2_with fail
  refine (nil_num w).mono ?_
  rintro e w' ⟨rfl, rfl⟩
  go_wp2_with fail
  refine (nil_rraw 0 w).mono ?_
  rintro e w' ⟨rfl, rfl⟩
  go_wp2
  go_ret
  exact ⟨rfl, rfl⟩
def NlIn (w0 : World) (o0 : Col) (ls : List (List UInt8)) (x : Value) (wr : World) : Prop := ∃ (k : Nat) (o' : Col), x = .int .i64 k ∧ k ≤ ls.length ∧ Stp [] w0 o0 wr o'
set_option maxHeartbeats 400000 in
theorem nil_wbytes (c d : Nat) (v : Value) (ls : List (List UInt8)) (w : World) (o : Col) (hr : RdRows w o c d v ls) :
    Calls Try.prog 26 #[.pointer none, v] w (Post [] w o fun r _ _ => r = .tuple #[]) := by
  obtain ⟨A, cap, rfl, hnc, hA⟩ := hr.shape
  have hlen : ls.length ≤ 9223372036854775807 := by obtain ⟨_, _, h, _⟩ := hr; exact h.big
  go_enter Try.func26, Try.ntmps26
  go_wp2_with fail
  go_loopw [8] (NlIn w o ls) (fun i _ => ls.length - (intOf i).toNat)
  case atStart => exact ⟨0, o, rfl, Nat.zero_le _, Stp.refl _ _ _⟩
  case round =>
    obtain ⟨k, o1, rfl, hk, hs⟩ := hrel
    by_cases hlt : k < ls.length
    · obtain ⟨a, u, lk, rfl, hcell, hu, Hlk⟩ := (hr.stp hs (by simp) (by simp)).get hlt
      obtain ⟨A1, cap1, rfl, hcap1, hA1⟩ := hu.shape
      go_wp2_with fail
      refine (nil_nums _ _).mono ?_
      rintro e w2 ⟨rfl, rfl⟩
      go_wp2_with fail
      refine (nil_wraw _ _).mono ?_
      rintro e w2 ⟨rfl, rfl⟩
      clear hcell
      go_wp2
      go_roundw
      case rel => exact ⟨k + 1, _, by go_num, hlt, hs.alloc _ 0⟩
      case measure => simp [intOf]; omega
    · go_wp2
      go_end0
      exact Post.mk hs rfl
set_option maxHeartbeats 400000 in
theorem nil_rnums (w : World) (a : Addr) (hc : w.cell? a = some (.pointer none)) (cap : Nat) :
    Calls Try.prog 34 #[.pointer none, .slice (some a) 1 cap] w fun e w' => e = .returned (.tuple #[]) ∧ w = w' := by
  go_enter Try.func34, Try.ntmps34
  go_wp2_with fail
  refine wp_loop_rounds 2 ?_
  rw [rounds_succ]
  go_wp2_with fail
  refine (nil_num w).mono ?_
  rintro e w' ⟨rfl, rfl⟩
  go_wp2_with fail
  rw [rounds_succ]
  go_wp2
  go_end0
  exact ⟨rfl, rfl⟩

set_option maxHeartbeats 1000000 in
set_option maxRecDepth 100000 in
theorem nothing_law (x : Int) (v : Value) (l : List UInt8) (w : World) (_ : (Lit.int .i64 x).wf = true) (h : RdB w (fun _ => 0) 0 v l) :
    Calls Try.prog 9 #[.int .i64 x, v] w (Post [] w (fun _ => 0) fun r _ _ => r = .bool true) := by
  obtain ⟨A, cap, rfl, hlc, hA⟩ := h.shape
  by_cases hbig : 4000 < l.length
  · go_enter Try.func9, Try.ntmps9
    go_wp2
    go_ret
    exact Post.mk (Stp.refl _ _ _) rfl
  go_enter Try.func9, Try.ntmps9
  go_wp2_with fail
  refine (nil_nums _ _).mono ?_
  rintro e w1 ⟨rfl, rfl⟩
  obtain ⟨o1, s1, h1⟩ : ∃ o1, Stp [] w (fun _ => 0) (w.alloc (.cells #[.int .i64 x] 3)) o1 ∧ RdB (w.alloc (.cells #[.int .i64 x] 3)) o1 0 (.slice A l.length cap) l := ⟨_, (Stp.refl [] w (fun _ => 0)).alloc _ 1, h.stp ((Stp.refl [] w (fun _ => 0)).alloc _ 1) (by simp)⟩
  generalize w.alloc (.cells #[.int .i64 x] 3) = w1 at *
  go_wp2_with fail
  refine (nil_wbytes 2 0 _ [l] _ _ (RdRows.new1 w1 o1 2 0 _ l 23 _ rfl h1)).mono ?_
  rintro e w2 ⟨r2, o2, rfl, s2, rfl⟩
  have s3 : Stp [] w (fun _ => 0) w2 o2 := (s1.alloc _ 2).trans s2
  clear s1 s2 h1
  go_wp2_with fail
  refine (nil_wraw _ _).mono ?_
  rintro e w3 ⟨rfl, rfl⟩
  go_wp2_with fail
  refine (nil_bad _).mono ?_
  rintro e w3 ⟨rfl, rfl⟩
  go_wp2_with fail
  obtain ⟨o4, s4⟩ : ∃ o4, Stp [] w (fun _ => 0) (w2.alloc (.cells #[.pointer none] 58)) o4 := ⟨_, s3.alloc (.cells #[.pointer none] 58) 3⟩
  refine (nil_rnums _ ⟨w2.heap.size, 0, none⟩ (by simp [go_sem]) 1).mono ?_
  rintro e w3 ⟨rfl, rfl⟩
  clear s3
  generalize w2.alloc (.cells #[.pointer none] 58) = w3 at *
  go_wp2_with fail
  refine (nil_out _).mono ?_
  rintro e w4 ⟨rfl, rfl⟩
  go_wp2_with fail
  refine (nil_num _).mono ?_
  rintro e w4 ⟨rfl, rfl⟩
  go_wp2_with fail
  refine (nil_rbytes _).mono ?_
  rintro e w4 ⟨rfl, rfl⟩
  go_wp2_with fail
  refine (nil_rraw x _).mono ?_
  rintro e w4 ⟨rfl, rfl⟩
  go_wp2_with fail
  refine (nil_left _).mono ?_
  rintro e w4 ⟨rfl, rfl⟩
  go_wp2_with fail
  refine (nil_good _).mono ?_
  rintro e w4 ⟨rfl, rfl⟩
  go_wp2_with fail
  refine (nil_whole _).mono ?_
  rintro e w4 ⟨rfl, rfl⟩
  go_wp2_with fail
  refine (known1_calls _ o4).mono ?_
  rintro e w5 ⟨r5, o5, rfl, s5, rfl⟩
  go_wp2
  go_ret
  exact Post.mk (s4.trans s5) rfl
end Go.Proofs.Ytollifmdoldacaa
