/- bytes.Clone. -/
import Derived.Test.YtpjnmijfmfgdpaaBase
namespace Go.Proofs.Ytpjnmijfmfgdpaa
set_option linter.unusedVariables false
set_option linter.unusedSimpArgs false
open Go.RowKit

set_option maxHeartbeats 400000 in
theorem clone_calls (c c' : Nat) (v : Value) (l : List UInt8) (w : World) (o : Col) (hr : RdB w o c v l) (hb : l.length ≤ 140737488355328) :
    Calls Try.prog 59 #[v] w (Post [] w o fun v' w' o' => OwnB w' o' c' v' l) := by
  obtain ⟨A, cap, rfl, hlc, hA⟩ := hr.shape
  have hnil := @Lib.run_eql_slice_nil Try.prog
  obtain ⟨d, _, _, hd⟩ := fresh o w.heap.size []
  cases A with
  | none =>
    have hl : l = [] := List.eq_nil_of_length_eq_zero (by have := hA rfl; omega)
    subst hl
    have h0 := hA rfl
    subst h0
    go_enter Try.func59, Try.ntmps59
    go_wp2
    go_ret
    exact Post.mk (Stp.refl _ _ _) (OwnB.nil _ _ _)
  | some a =>
    go_enter Try.func59, Try.ntmps59
    go_wp2_with (refine holdAt 7 ?_)
    apply Hold.mk
    have s1 : Stp [d] w o _ _ := (Stp.refl _ _ _).alloc (.cells #[] 5) d
    refine appB (l := []) _ _ rfl rfl (OwnB.new w o d #[] [] rfl 0 rfl (by omega) _ rfl) (hr.stp (s1.drop hd) (by simp)) rfl rfl (by simpa using hb) fun A' cap' w' o' h1 h2 _ _ => ?_
    have s2 := s1.trans h1
    simp only [List.nil_append, List.length_nil, Nat.zero_add] at h2
    go_wp2
    go_ret
    exact Post.mk ((s2.drop hd).repaint c') (Own.fresh h2 s2 hd c')

end Go.Proofs.Ytpjnmijfmfgdpaa
