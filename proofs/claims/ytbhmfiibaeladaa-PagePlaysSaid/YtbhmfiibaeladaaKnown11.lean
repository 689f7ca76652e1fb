/- What is known at once, of chapter 11. -/
import Derived.Test.YtbhmfiibaeladaaPage3
import Derived.Laws.IdiomStrings
import Derived.Laws.BytesArg
namespace Go.Proofs.Ytbhmfiibaeladaa
set_option linter.unusedVariables false
set_option linter.unusedSimpArgs false
open Go.RowKit

/-- string(b), b read. -/
theorem convBS {w : World} {o : Col} {c cap n : Nat} {A : Option Addr} {l : List UInt8} (h : RdB w o c (.slice A n cap) l) (hn : n = l.length) : (convert 22 9 (.slice A n cap)).run Try.prog w = .ok (.string ⟨l.toArray⟩) w := by
  subst hn
  cases A with
  | none =>
    have hl : l = [] := by
      cases l with
      | nil => rfl
      | cons x l =>
        obtain ⟨a, e, _⟩ := h.at_ (j := 0) (by simp)
        cases e
    subst hl
    exact run_convert_bytes_nil w 22 5 Try.underlying22 Try.underlying5 _ _ 9 Try.underlying9
  | some a =>
    refine run_convert_bytes_back w 22 9 5 a cap l Try.underlying22 Try.underlying5 Try.underlying9 (fun j hj => ?_)
    obtain ⟨a', e, hc⟩ := h.at_ hj
    injection e with e
    subst e
    exact hc
/-- One page, no fuse, the power on. -/
def one (q : List UInt8) : FS := ⟨[q], -1, 0, false⟩
theorem prog_one {q a : List UInt8} (h : a.length ≤ 64) : progS (one q) 0 a = one (andPage q a) ∧ progE (one q) 0 a = 0 := by
  have h1 : mayE (one q) 0 a.length = 0 := by
    simp [mayE, one, hasB]
    omega
  refine ⟨?_, ?_⟩
  · rw [progS, if_pos h1, bec, if_neg (by simp [one])]
    rfl
  · rw [progE, if_pos h1, becE, if_neg (by simp [one])]
theorem read_one (q : List UInt8) : readB (one q) 0 = q ∧ readE (one q) 0 = 0 := by
  refine ⟨?_, ?_⟩
  · rw [readB, if_pos (by rfl)]
    rfl
  · rw [readE, if_pos (by rfl)]

set_option maxHeartbeats 1000000 in
set_option maxRecDepth 100000 in
theorem known11_calls (w : World) (o : Col) : Calls Try.prog 13 #[] w (Post [] w o fun r _ _ => r = .bool true) := by
  obtain ⟨c, _, _, hd⟩ := fresh o w.heap.size []
  have k1 : andPage (andPage blankPage [15]) [240] = 0 :: 255 :: List.replicate 62 255 := by decide +kernel
  obtain ⟨L, hL⟩ : ∃ L, andPage (andPage blankPage [15]) [240] = L := ⟨_, rfl⟩
  obtain ⟨L1, hL1⟩ : ∃ L, andPage blankPage [15] = L := ⟨_, rfl⟩
  obtain ⟨L0, hL0⟩ : ∃ L, blankPage = L := ⟨_, rfl⟩
  rw [hL1] at hL
  rw [hL0] at hL1
  have hLl : L.length = 64 := by rw [← hL, ← hL1, ← hL0, k1]; simp
  have hb0 : L[0]'(by omega) = 0 := by simp only [← hL, ← hL1, ← hL0, k1]; rfl
  have hb1 : L[1]'(by omega) = 255 := by simp only [← hL, ← hL1, ← hL0, k1]; rfl
  clear k1
  go_enter Try.func13, Try.ntmps13
  go_wp2_with fail
  refine (new_calls c 1 w o 1 (by omega)).mono ?_
  rintro e w1 ⟨r, o1, rfl, s1, p, g, cap, rfl, f1⟩
  rw [hL0] at f1
  rw [show (⟨List.replicate 1 L0, -1, 0, false⟩ : FS) = one L0 from rfl] at f1
  go_wp2_with fail
  have b1 := RdB.new w1 o1 (c + 1) #[.int .u8 15] [15] rfl 1 rfl (by omega) 5 _ rfl
  have a1 := (Stp.refl [] w1 o1).alloc (.cells #[.int .u8 15] 5) (c + 1)
  refine (program_calls c (c + 1) p g cap _ 0 _ _ _ _ (f1.stp a1 (by simp)) b1).mono ?_
  rintro e w2 ⟨r, o2, rfl, s2, rfl, f2⟩
  rw [(prog_one (by simp)).1, hL1] at f2
  rw [(prog_one (by simp)).2]
  have s3 := Lib.hid ((s1.none.trans a1.none).trans s2)
  clear s1 a1 s2 b1 f1
  go_wp2_with fail
  have b1 := RdB.new w2 o2 (c + 1) #[.int .u8 240] [240] rfl 1 rfl (by omega) 5 _ rfl
  have a1 := (Stp.refl [] w2 o2).alloc (.cells #[.int .u8 240] 5) (c + 1)
  refine (program_calls c (c + 1) p g cap _ 0 _ _ _ _ (f2.stp a1 (by simp)) b1).mono ?_
  rintro e w3 ⟨r, o3, rfl, s4, rfl, f3⟩
  rw [(prog_one (by simp)).1, hL] at f3
  rw [(prog_one (by simp)).2]
  have s5 := Lib.hid ((s3.out.trans a1.none).trans s4)
  clear s4 a1 s3 b1 f2
  go_wp2_with fail
  refine (read_calls c (c + 1) p g cap _ 0 _ _ f3).mono ?_
  rintro e w4 ⟨r, o4, rfl, s6, v, rfl, hv⟩
  rw [(read_one L).1] at hv
  rw [(read_one L).2]
  have s7 := Lib.hid (s5.out.trans s6.none)
  obtain ⟨A, cap1, rfl⟩ := Own.shape hv
  obtain ⟨a, rfl, c0⟩ := (OwnB.rd hv).at_ (j := 0) (by omega)
  obtain ⟨a', e, c1⟩ := (OwnB.rd hv).at_ (j := 1) (by omega)
  injection e with e
  subst e
  rw [hb0, show a.add 0 = a from rfl] at c0
  rw [hb1, show a.add 1 = ⟨a.block, a.off + 1, none⟩ from rfl] at c1
  simp only [show ((0 : UInt8).toNat : Int) = 0 from rfl, show ((255 : UInt8).toNat : Int) = 255 from rfl] at c0 c1
  clear s5 s6 hv f3
  rw [hLl]
  go_wp2
  go_ret
  exact Post.mk (s7.out.drop hd) rfl

end Go.Proofs.Ytbhmfiibaeladaa
