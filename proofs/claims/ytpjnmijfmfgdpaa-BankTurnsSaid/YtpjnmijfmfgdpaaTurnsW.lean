/- BankTurns: the walk. Printed by wip/bankturnsgen.py. -/
import Derived.Test.YtpjnmijfmfgdpaaKnown13
import Derived.Test.YtpjnmijfmfgdpaaRead
namespace Go.Proofs.Ytpjnmijfmfgdpaa
set_option linter.unusedVariables false
set_option linter.unusedSimpArgs false
open Go.RowKit

/-- A flash behind k installs by turns. -/
def TurnI (s : FS) (k : Nat) : Prop := (k = 0 ∧ s = newS 96) ∨ ∃ t im, Boots s t im k ∧ t.bank = (((k - 1) % 2 : Nat) : Int) ∧ t.counter = ((k - 1 : Nat) : Int) ∧ 1 ≤ k
theorem TurnI.next {s : FS} {k : Nat} (h : TurnI s k) (hk : k < 100) {m : List UInt8} (hm : m.length ≤ 512) : ∃ s', installS s [97] m (k : Int) [] = (s', 0) ∧ Boots s' (nextB ((k % 2 : Nat) : Int) [97] m (k : Int) []) m (k + 1) := by
  rcases h with ⟨rfl, rfl⟩ | ⟨t, im, hb, h1, h2, h3⟩
  · obtain ⟨s', e1, b1, _⟩ := install_first [97] m [] 0 hm (by simp) (by simp) (by omega)
    exact ⟨s', e1, b1⟩
  · obtain ⟨s', e1, b1⟩ := hb.install (by omega) (by rw [h1]; omega) (by rw [h1]; omega) [97] m [] (k : Int) hm (by simp) (by simp) (by omega) (by rw [h2]; omega)
    have e : 1 - t.bank = ((k % 2 : Nat) : Int) := by rw [h1]; omega
    rw [e] at b1
    exact ⟨s', e1, b1⟩
theorem TurnI.of {s : FS} {k : Nat} {m : List UInt8} (h : Boots s (nextB ((k % 2 : Nat) : Int) [97] m (k : Int) []) m (k + 1)) : TurnI s (k + 1) :=
  .inr ⟨_, _, h, rfl, rfl, by omega⟩
/-- What the loop of BankTurns keeps. -/
def TuR (w0 : World) (o0 : Col) (p g cap n : Nat) (x : Value) (wr : World) : Prop :=
  ∃ (k : Nat) (o' : Col) (s : FS), x = .int .i64 k ∧ k ≤ n ∧ Stp [1] w0 o0 wr o' ∧ Fl wr o' 1 p g cap s ∧ TurnI s k
set_option maxHeartbeats 4000000 in
set_option maxRecDepth 100000 in
theorem turns_law (v : Value) (ls : List (List UInt8)) (w : World) (h : RdRows w (fun _ => 0) 0 0 v ls) : Calls Try.prog 10 #[v] w (Post [] w (fun _ => 0) fun r _ _ => r = .bool true) := by
  obtain ⟨A, cap0, rfl, hnc, hA⟩ := h.shape
  replace h := Lib.hid h
  by_cases h8 : 8 < ls.length
  · have g1 : decide ((8 : Int) < (ls.length : Int)) = true := decide_eq_true (by omega)
    go_enter Try.func10, Try.ntmps10
    go_wp2
    go_ret
    exact Post.mk (Stp.refl _ _ _) rfl
  have g1 : decide ((8 : Int) < (ls.length : Int)) = false := decide_eq_false (by omega)
  obtain ⟨S0, hS0⟩ : ∃ S0, newS 96 = S0 := ⟨_, rfl⟩
  have hnew := new96_calls 1 w (fun _ => 0)
  rw [hS0] at hnew
  have hpg := bpages_calls w
  have t0 : TurnI S0 0 := .inl ⟨rfl, hS0.symm⟩
  replace t0 := Lib.hid t0
  replace hS0 := Lib.hid hS0
  go_enter Try.func10, Try.ntmps10
  go_wp2_with fail
  refine hpg.mono ?_
  clear hpg
  rintro e w1 ⟨rfl, he⟩
  replace he := he.symm
  subst he
  go_wp2_with fail
  refine hnew.mono ?_
  clear hnew
  rintro e w1 ⟨r, o1, rfl, s1, p, g, cap, rfl, f1⟩
  replace f1 := Lib.hid f1
  replace s1 := Lib.hid s1
  go_wp2_with fail
  go_loopw [4] (TuR w1 o1 p g cap ls.length) (fun x _ => ls.length - (intOf x).toNat)
  case atStart => exact ⟨0, o1, S0, rfl, Nat.zero_le _, Stp.refl _ _ _, f1.out, t0.out⟩
  case round =>
    obtain ⟨j, o3, s, rfl, hj, st3, f3, t3⟩ := hrel
    have st4 := Lib.hid ((s1.out.none.trans st3 : Stp [1] w (fun _ => 0) wr o3))
    by_cases hlt2 : j < ls.length
    · have g5 : decide ((j : Int) < (ls.length : Int)) = true := decide_eq_true (by omega)
      have g6 : (0 : Int) ≤ (j : Int) ∧ (j : Int) < (ls.length : Int) := by omega
      obtain ⟨a, u, r, rfl, hcell, hrd, Hr⟩ := h.out.get hlt2
      have d1 := st4.out.cell hcell (by simp)
      have r1 := hrd.stp st4.out (by simp)
      obtain ⟨B, capB, rfl, hrc, hB⟩ := hrd.shape
      by_cases hbig : 512 < r.length
      · have g7 : decide ((512 : Int) < (r.length : Int)) = true := decide_eq_true (by omega)
        replace hrd := Lib.hid hrd
        replace r1 := Lib.hid r1
        replace f3 := Lib.hid f3
        replace t3 := Lib.hid t3
        replace st3 := Lib.hid st3
        clear hcell
        go_wp2
        go_ret
        exact Post.mk (st4.out.law (by simp)) rfl
      have g7 : decide ((512 : Int) < (r.length : Int)) = false := decide_eq_false (by omega)
      obtain ⟨S2, e2, b2⟩ := t3.next (by omega) (m := r) (by omega)
      have e3 := b2.boot
      obtain ⟨kr, hkr⟩ : ∃ kr, j % 2 = kr := ⟨_, rfl⟩
      have hkrI : Int.tmod (j : Int) 2 = (kr : Int) := by rw [← hkr]; rfl
      have hkrJ : (j : Int) % 2 = (kr : Int) := by rw [← hkr]; rfl
      have hin := install_calls 1 0 4 p g cap s [97] r [] (.slice B r.length capB) (.slice none 0 0) (j : Int) wr o3 f3 r1 (RdB.nil _ _ _) (by decide) (by decide)
      rw [e2] at hin
      dsimp only at hin
      obtain ⟨NB, hNB⟩ : ∃ NB, nextB ((j % 2 : Nat) : Int) [97] r (j : Int) [] = NB := ⟨_, rfl⟩
      have hNb : NB.bank = (kr : Int) := by rw [← hNB, hkr]; rfl
      have hNz : NB.size = (r.length : Int) := by rw [← hNB]; rfl
      have hNc : NB.counter = (j : Int) := by rw [← hNB]; rfl
      have hNs : NB.sum.length = 32 := by rw [← hNB]; exact sha_len _
      have t4 := TurnI.of b2
      rw [hNB] at e3
      have hjb : j ≤ 8 := by omega
      replace hNB := Lib.hid hNB
      replace hkr := Lib.hid hkr
      replace hrd := Lib.hid hrd
      replace r1 := Lib.hid r1
      replace f3 := Lib.hid f3
      replace t3 := Lib.hid t3
      replace t4 := Lib.hid t4
      replace e2 := Lib.hid e2
      replace b2 := Lib.hid b2
      replace st3 := Lib.hid st3
      have Hcell := Lib.hid hcell
      clear hcell
      go_wp2_with fail
      refine hin.mono ?_
      clear hin
      rintro e w4 ⟨rr, o4, rfl, s4, rfl, f4⟩
      have hbo := bboot_calls 1 4 4 p g cap S2 w4 o4 f4
      rw [e3] at hbo
      dsimp only at hbo
      have st5 := st4.out.trans s4
      have s34 := st3.out.trans s4
      replace e3 := Lib.hid e3
      replace f4 := Lib.hid f4
      clear d1
      replace s4 := Lib.hid s4
      go_wp2_with fail
      refine hbo.mono ?_
      clear hbo
      rintro e w5 ⟨rr, o5, rfl, s5, vm, vi, rfl, q5, r5⟩
      obtain ⟨A4, cap4, rfl⟩ := Own.shape q5
      obtain ⟨A5, cap5, rfl, _, _⟩ := r5.shape
      obtain ⟨w6, w7, o7, hw6, hw7, hz6, s7, B7, i1, i2, i3⟩ := Sb.lay (w := w5) (o := o5) (e := 4) NB (.slice A4 NB.mind.length cap4) _ _ _ rfl hNs
      have st7 := (st5.trans s5.none).trans s7.none
      have s37 := (s34.trans s5.none).trans s7.none
      have f7 := (f4.out.stp s5 (by simp)).stp s7 (by simp)
      have r7 := r5.stp s7 (by simp)
      have d3 := st7.cell Hcell.out (by simp)
      have r3 := hrd.out.stp st7 (by simp)
      have d0 := B7.c0
      have d01 := B7.c1
      have d34 := B7.c34
      rw [hNb] at d0
      rw [hNz] at d01
      rw [hNc] at d34
      have cv1 : ∀ n, (convert 22 9 (.slice A5 r.length cap5)).run Try.prog (w7.drewN n) = .ok (.string ⟨r.toArray⟩) (w7.drewN n) := fun n => convBS (r7.stp ((Stp.refl [] w7 o7).drewN n) (by simp)) rfl
      have cv2 : ∀ n, (convert 22 9 (.slice B r.length capB)).run Try.prog (w7.drewN n) = .ok (.string ⟨r.toArray⟩) (w7.drewN n) := fun n => convBS (r3.stp ((Stp.refl [] w7 o7).drewN n) (by simp)) rfl
      obtain ⟨CB, hCB⟩ : ∃ CB, (cellsBS NB (.slice A4 NB.mind.length cap4)).toArray = CB := ⟨_, rfl⟩
      rw [hCB] at hw7 i1 i2 i3
      replace hz6 := Lib.hid hz6
      replace B7 := Lib.hid B7
      replace st5 := Lib.hid st5
      replace st7 := Lib.hid st7
      replace s37 := Lib.hid s37
      replace s34 := Lib.hid s34
      replace f7 := Lib.hid f7
      replace r7 := Lib.hid r7
      replace r3 := Lib.hid r3
      replace q5 := Lib.hid q5
      replace r5 := Lib.hid r5
      replace i1 := Lib.hid i1
      replace i2 := Lib.hid i2
      replace i3 := Lib.hid i3
      replace hw6 := Lib.hid hw6
      replace hw7 := Lib.hid hw7
      replace hCB := Lib.hid hCB
      replace hNb := Lib.hid hNb
      replace hNz := Lib.hid hNz
      replace hNc := Lib.hid hNc
      replace hNs := Lib.hid hNs
      clear s5 s7
      go_wp2_with (refine holdSt 59 ?_)
      apply Hold.mk
      rw [show w5.alloc (.cells (Value.int .i64 0 :: .int .i64 0 :: .int .u8 0 :: .int .u8 0 :: .int .u8 0 :: .int .u8 0 :: .int .u8 0 :: .int .u8 0 :: .int .u8 0 :: .int .u8 0 :: .int .u8 0 :: .int .u8 0 :: .int .u8 0 :: .int .u8 0 :: .int .u8 0 :: .int .u8 0 :: .int .u8 0 :: .int .u8 0 :: .int .u8 0 :: .int .u8 0 :: .int .u8 0 :: .int .u8 0 :: .int .u8 0 :: .int .u8 0 :: .int .u8 0 :: .int .u8 0 :: .int .u8 0 :: .int .u8 0 :: .int .u8 0 :: .int .u8 0 :: .int .u8 0 :: .int .u8 0 :: .int .u8 0 :: .int .u8 0 :: .int .i64 0 :: .string ⟨#[]⟩ :: .slice none 0 0 :: []).toArray 59) = w6 from hw6.out, hCB.out]
      refine wpList_store_row rfl 59 _ _ rfl w5.heap.size CB rfl rfl 59 _ hz6.out i1.out i2.out i3.out ?_
      rw [hw7.out]
      obtain ⟨T, hT⟩ : ∃ T, w5.heap.size = T := ⟨_, rfl⟩
      rw [hT] at d0 d01 d34 ⊢
      replace hT := Lib.hid hT
      go_wp2_with fail
      go_quiet (fail)
      clear cv1 cv2 d0 d01 d34 d3
      go_wp2
      go_roundw
      case rel => exact ⟨j + 1, o7, S2, by go_num, by omega, s37.out.drewN _, f7.out.stp ((Stp.refl [] w7 o7).drewN _) (by simp), t4.out⟩
      case measure => simp [intOf]; omega
    · have g5 : decide ((j : Int) < (ls.length : Int)) = false := decide_eq_false (by omega)
      replace f3 := Lib.hid f3
      replace t3 := Lib.hid t3
      replace st3 := Lib.hid st3
      have hkn := known13_calls wr o3
      go_wp2_with fail
      refine hkn.mono ?_
      clear hkn
      rintro e w9 ⟨rr, o9, rfl, s9, rfl⟩
      have st9 := Lib.hid (st4.out.trans s9.none)
      clear s9
      go_wp2
      go_ret
      exact Post.mk (st9.out.law (by simp)) rfl
end Go.Proofs.Ytpjnmijfmfgdpaa
