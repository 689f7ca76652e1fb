/- What is known at once, of chapter 1. -/
import Derived.Test.YtollifmdoldacaaLaw1
import Derived.Test.YtollifmdoldacaaSum
import Derived.Test.YtollifmdoldacaaOctetN
namespace Go.Proofs.Ytollifmdoldacaa
set_option linter.unusedVariables false
set_option linter.unusedSimpArgs false
open Go.RowKit

theorem Wr.new (w : World) (o : Col) (c : Nat) : Wr (w.alloc (.cells #[.slice none 0 0] 25)) (paint o w.heap.size c) c w.heap.size [] (.slice none 0 0) :=
  ⟨heap_alloc_new w _, paint_at _ _ _, OwnB.nil _ _ _⟩

set_option maxHeartbeats 1000000 in
set_option maxRecDepth 100000 in
theorem known1_calls (w : World) (o : Col) : Calls Try.prog 11 #[] w (Post [] w o fun r _ _ => r = .bool true) := by
  obtain ⟨c, _, _, hd⟩ := fresh o w.heap.size []
  go_enter Try.func11, Try.ntmps11
  go_wp2_with fail
  have s0 : Stp [c] w o _ _ := (Stp.refl [c] w o).alloc (.cells #[.slice none 0 0] 25) c
  have w0 := Wr.new w o c
  have a1 := (Stp.refl [] (w.alloc (.cells #[.slice none 0 0] 25)) (paint o w.heap.size c)).alloc (.cells #[.int .i64 1, .int .i64 300] 3) (c + 1)
  refine (wnums_calls c (c + 1) _ _ _ [] [1, 300] _ _ (w0.stp a1 (by simp)) (Rd.new _ _ (c + 1) #[.int .i64 1, .int .i64 300] _ rfl 2 rfl (by omega) (by simp [Value.oneCell']) 3 _ (by simp)) (by omega) (by simp)).mono ?_
  rintro e w1 ⟨r, o1, rfl, s1, rfl, v1, h1⟩
  have s2 := (s0.trans a1.none).trans s1
  clear s0 s1 a1 w0
  have kc := constB
  have kc2 := fun (w : World) (C D : Array Value) (e : Nat) (fz : Nat × Nat) => constB (w.alloc (.cells D e fz)) C
  simp only [World.size_alloc] at kc2
  go_wp2_with fail
  have b1 := RdB.newz w1 o1 (c + 1) #[.int .u8 97] [97] rfl 1 rfl (by omega) 5 (1, 2) _ rfl
  have b2 := RdRows.new1 _ _ (c + 1) (c + 1) _ _ 23 (w1.heap.size + 1) (by simp) b1
  have s3 := ((Stp.refl [] w1 o1).alloc (.cells #[.int .u8 97] 5 (1, 2)) (c + 1)).alloc (.cells #[.slice (some ⟨w1.heap.size, 0, none⟩) 1 1] 23) (c + 1)
  refine (wbytes_calls c (c + 1) (c + 1) _ _ _ _ [[97]] _ _ (h1.stp s3 (by simp)) b2 (by omega) (by omega) (by simp [wide, encs]; have := enc_len9 1; have := enc_len9 300; omega)).mono ?_
  rintro e w2 ⟨r, o2, rfl, s4, rfl, v2, h2⟩
  have s5 := (s2.trans s3.none).trans s4
  clear s2 s3 s4 b1 b2 h1
  have hl : [] ++ encs [1, 300] ++ encRows [[97]] = [1, 172, 2, 1, 97] := by decide +kernel
  rw [hl] at h2
  go_wp2_with fail
  refine (wout_calls c (c + 1) _ _ _ w2 o2 h2 (by simp)).mono ?_
  rintro e w3 ⟨r, o3, rfl, s6, h3⟩
  go_wp2_with fail
  have b3 := RdB.new w3 o3 (c + 1) #[.int .u8 1, .int .u8 172, .int .u8 2, .int .u8 1, .int .u8 97] [1, 172, 2, 1, 97] rfl 5 rfl (by omega) 5 _ rfl
  have s7 := (Stp.refl [] w3 o3).alloc (.cells #[.int .u8 1, .int .u8 172, .int .u8 2, .int .u8 1, .int .u8 97] 5) (c + 1)
  refine (same_calls (c + 1) (c + 1) _ _ _ _ _ _ ((OwnB.rd h3).stp s7 (by simp)) b3).mono ?_
  rintro e w4 ⟨r, o4, rfl, s8, rfl⟩
  rw [show (([1, 172, 2, 1, 97] : List UInt8) == [1, 172, 2, 1, 97]) = true from rfl]
  have s9 := s5.trans (s6.none.trans (s7.none.trans s8.none))
  clear s5 s6 s7 s8 b3 h2 h3 hl
  go_wp2_with fail
  have b4 := RdB.newz w4 o4 (c + 1) #[.int .u8 49, .int .u8 50, .int .u8 51, .int .u8 52] [49, 50, 51, 52] rfl 4 rfl (by omega) 5 (4, 5) _ rfl
  have b5 := RdB.newz (w4.alloc (.cells #[.int .u8 49, .int .u8 50, .int .u8 51, .int .u8 52] 5 (4, 5))) (paint o4 w4.heap.size (c + 1)) (c + 1) #[.int .u8 53, .int .u8 54, .int .u8 55, .int .u8 56, .int .u8 57] [53, 54, 55, 56, 57] rfl 5 rfl (by omega) 5 (5, 6) (w4.heap.size + 1) (by simp)
  have t4 := (Stp.refl [] (w4.alloc (.cells #[.int .u8 49, .int .u8 50, .int .u8 51, .int .u8 52] 5 (4, 5))) (paint o4 w4.heap.size (c + 1))).alloc (.cells #[.int .u8 53, .int .u8 54, .int .u8 55, .int .u8 56, .int .u8 57] 5 (5, 6)) (c + 1)
  have b6 := RdRows.new2 _ _ (c + 1) (c + 1) _ _ _ _ 23 (w4.heap.size + 1 + 1) (by simp) (b4.stp t4 (by simp)) b5
  refine (sum_calls (c + 1) (c + 1) _ _ _ _ b6).mono ?_
  rintro e w5 ⟨rfl, rfl⟩
  have hk : ((crc ([[49, 50, 51, 52], [53, 54, 55, 56, 57]] : List (List UInt8)).flatten : Nat) : Int) = 3421780262 := by
    rw [show ([[49, 50, 51, 52], [53, 54, 55, 56, 57]] : List (List UInt8)).flatten = [49, 50, 51, 52, 53, 54, 55, 56, 57] from rfl, crc_known]
    rfl
  rw [hk]
  have s10 := s9.trans (((((Stp.refl [] w4 o4).alloc (.cells #[.int .u8 49, .int .u8 50, .int .u8 51, .int .u8 52] 5 (4, 5)) (c + 1)).trans t4).alloc (.cells #[.slice (some ⟨w4.heap.size, 0, none⟩) 4 4, .slice (some ⟨w4.heap.size + 1, 0, none⟩) 5 5] 23) (c + 1)).none)
  clear b4 b5 b6 t4 hk s9
  go_wp2
  go_ret
  exact Post.mk (s10.drop hd) rfl
end Go.Proofs.Ytollifmdoldacaa
