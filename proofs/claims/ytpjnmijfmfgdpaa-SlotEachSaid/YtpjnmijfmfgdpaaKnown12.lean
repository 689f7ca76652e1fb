/- What is known at once, of chapter 12. -/
import Derived.Test.YtpjnmijfmfgdpaaSlotE
import Derived.Test.YtpjnmijfmfgdpaaSlotM
import Derived.Test.YtpjnmijfmfgdpaaPage3
namespace Go.Proofs.Ytpjnmijfmfgdpaa
set_option linter.unusedVariables false
set_option linter.unusedSimpArgs false
open Go.RowKit

/-- A calm flash and what it tells: enough to save on. -/
structure Tells (s : FS) (b : List UInt8) (n : Nat) (t : Int) : Prop where
  calm : Calm s
  room : 80 ≤ s.pg.length
  told : loadedS s = (b, n, t)
theorem Tells.save {s : FS} {b : List UInt8} {n : Nat} {t : Int} (h : Tells s b n t) {b' : List UInt8} (hb : b'.length ≤ 2500) (hn : n < 1073741824) : ∃ s', saveS s b' = (s', 0) ∧ Tells s' b' (n + 1) (if t = 0 then 1 else 0) ∧ s'.pg.length = s.pg.length := by
  obtain ⟨pg, h1, h2, h3, _⟩ := save_calm h.calm h.room hb (by rw [h.told]; exact hn)
  rw [h.told] at h3
  exact ⟨_, h1, ⟨h.calm.with_ pg, by show 80 ≤ pg.length; rw [h2]; exact h.room, h3⟩, h2⟩
theorem Tells.load {s : FS} {b : List UInt8} {n : Nat} {t : Int} (h : Tells s b n t) (ht : 0 ≤ t) : loadS s = (b, n, 0) := load_of h.room h.told ht
theorem Tells.new {n : Nat} (h : 80 ≤ n) : Tells (newS n) [] 0 (-1) := ⟨newS_calm n, by simp [newS]; exact h, newS_loaded h⟩
theorem new_calls' (c : Nat) (w : World) (o : Col) : Calls Try.prog 15 #[.int .i64 80] w (Post [] w o fun r w' o' => ∃ p g cap, r = .pointer (some ⟨p, 0, none⟩) ∧ Fl w' o' c p g cap (newS 80)) := new_calls c 80 w o 80 (by omega)

set_option maxHeartbeats 4000000 in
set_option maxRecDepth 100000 in
theorem known12_calls (w : World) (o : Col) : Calls Try.prog 20 #[] w (Post [] w o fun r _ _ => r = .bool true) := by
  obtain ⟨c, hc1, _, hcf⟩ := fresh o w.heap.size [0]
  simp only [List.mem_cons, List.not_mem_nil, or_false, not_or] at hc1
  obtain ⟨x, hx1, _, hxf⟩ := fresh o w.heap.size [0, c]
  simp only [List.mem_cons, List.not_mem_nil, or_false, not_or] at hx1
  have t0 := Tells.new (n := 80) (by omega)
  obtain ⟨sA, e1, t1, _⟩ := t0.save (b' := [97]) (by simp) (by omega)
  rw [if_neg (by omega)] at t1
  obtain ⟨sB, e2, t2, _⟩ := t1.save (b' := [98]) (by simp) (by omega)
  rw [if_pos rfl] at t2
  have e3 := t2.load (by omega)
  obtain ⟨S0, hS0⟩ : ∃ S0, newS 80 = S0 := ⟨_, rfl⟩
  have hnew := new_calls' c w o
  rw [hS0] at e1 hnew
  replace t0 := Lib.hid t0
  replace t1 := Lib.hid t1
  replace t2 := Lib.hid t2
  replace e1 := Lib.hid e1
  replace e2 := Lib.hid e2
  replace e3 := Lib.hid e3
  replace hS0 := Lib.hid hS0
  go_enter Try.func20, Try.ntmps20
  go_wp2_with fail
  refine hnew.mono ?_
  clear hnew
  rintro e w1 ⟨r, o1, rfl, s1, p, g, cap, rfl, f1⟩
  have k1 := constB w1 #[.int .u8 97] 1 1
  have a1 := (Stp.refl [] w1 o1).alloc (.cells #[.int .u8 97] 5 (1, 2)) x
  have r1 := Lib.hid (RdB.newz w1 o1 x #[.int .u8 97] [97] rfl 1 rfl (by omega) 5 (1, 2) _ rfl)
  have f1' := Lib.hid (f1.stp a1 (by simp))
  have st1 := Lib.hid (s1.trans a1)
  replace f1 := Lib.hid f1
  replace s1 := Lib.hid s1
  clear a1
  go_wp2_with fail
  refine (save_calls c x p g cap S0 _ [97] _ _ f1'.out r1.out hx1.2 (by simp)).mono ?_
  rw [e1.out]
  rintro e w2 ⟨r, o2, rfl, s2, rfl, f2⟩
  dsimp only at f2
  clear k1
  have k2 := constB w2 #[.int .u8 98] 1 1
  have a2 := (Stp.refl [] w2 o2).alloc (.cells #[.int .u8 98] 5 (1, 2)) x
  have r2 := Lib.hid (RdB.newz w2 o2 x #[.int .u8 98] [98] rfl 1 rfl (by omega) 5 (1, 2) _ rfl)
  have f2' := Lib.hid (f2.stp a2 (by simp))
  have st2 := Lib.hid ((st1.out.none.trans s2).trans a2.none)
  replace f2 := Lib.hid f2
  replace s2 := Lib.hid s2
  clear a2
  go_wp2_with fail
  refine (save_calls c x p g cap sA _ [98] _ _ f2'.out r2.out hx1.2 (by simp)).mono ?_
  rw [e2.out]
  rintro e w3 ⟨r, o3, rfl, s3, rfl, f3⟩
  dsimp only at f3
  clear k2
  have hld := load_calls c x p g cap sB w3 o3 f3
  rw [e3.out] at hld
  have st3 := Lib.hid (st2.out.trans s3)
  replace f3 := Lib.hid f3
  replace s3 := Lib.hid s3
  go_wp2_with fail
  refine hld.mono ?_
  clear hld
  rintro e w4 ⟨r, o4, rfl, s4, v4, rfl, h4⟩
  obtain ⟨A4, cap4, rfl⟩ := Own.shape h4
  have h4' : OwnB w4 o4 x (.slice A4 1 cap4) [98] := h4
  have cv := convBS (n := 1) (OwnB.rd h4') rfl
  replace h4' := Lib.hid h4'
  have st4 := Lib.hid ((st3.out.trans s4.none).drop hcf)
  replace h4 := Lib.hid h4
  replace s4 := Lib.hid s4
  go_wp2
  go_ret
  exact Post.mk st4.out rfl
end Go.Proofs.Ytpjnmijfmfgdpaa
