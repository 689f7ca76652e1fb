/- Slots (chapter 12): all, HasPrefix, whole: the walks. -/
import Derived.Test.YtpjnmijfmfgdpaaSlotW
import Derived.Test.YtpjnmijfmfgdpaaPage3
namespace Go.Proofs.Ytpjnmijfmfgdpaa
set_option linter.unusedVariables false
set_option linter.unusedSimpArgs false
open Go.RowKit

/-- What the loop of 'all' keeps. -/
def AlR (w0 : World) (o0 : Col) (d : Nat) (s : FS) (k : Nat) (x y : Value) (wr : World) : Prop :=
  ∃ (i : Nat) (o' : Col), y = .int .i64 i ∧ i ≤ 40 ∧ Stp [d] w0 o0 wr o' ∧ OwnB wr o' d x (pagesB s (k * 40) i)
set_option maxHeartbeats 1000000 in
theorem all_calls (c e0 p g cap : Nat) (s : FS) (k : Nat) (hk : k ≤ 1000) (w : World) (o : Col) (h : Fl w o c p g cap s) :
    Calls Try.prog 92 #[.pointer (some ⟨p, 0, none⟩), .int .i64 k] w (Post [] w o fun r w' o' => OwnB w' o' e0 r (pagesB s (k * 40) 40)) := by
  obtain ⟨d, hd1, _, hdf⟩ := fresh o w.heap.size [c]
  simp only [List.mem_cons, List.not_mem_nil, or_false, not_or] at hd1
  have hok := h.ok
  replace h := Lib.hid h
  go_enter Try.func92, Try.ntmps92
  go_wp2_with fail
  go_loopw [5, 9] (AlR w o d s k) (fun _ y _ => 40 - (intOf y).toNat)
  case atStart => exact ⟨0, o, rfl, by omega, Stp.refl _ _ _, OwnB.nil _ _ _⟩
  case round =>
    obtain ⟨i, o1, rfl, hi, st, hm⟩ := hrel
    have hle := pagesB_le s hok (k * 40) i
    obtain ⟨A, capA, rfl⟩ := Own.shape hm
    obtain ⟨N, hN⟩ : ∃ N, (pagesB s (k * 40) i).length = N := ⟨_, rfl⟩
    have hfl := h.out.stp st (by simpa using fun x => hd1 x.symm)
    by_cases hlt : i < 40
    · have g1 : decide ((i : Int) < 40) = true := decide_eq_true (by omega)
      obtain ⟨j, hj⟩ : ∃ j, k * 40 + i = j := ⟨_, rfl⟩
      have hjI : (k : Int) * 40 + (i : Int) = (j : Int) := by omega
      have hnx : pagesB s (k * 40) (i + 1) = pagesB s (k * 40) i ++ readB s (j : Int) := by rw [pagesB, hj]
      have hrl := readB_le s hok (j : Int)
      replace hm := Lib.hid hm
      replace st := Lib.hid st
      replace hfl := Lib.hid hfl
      replace hj := Lib.hid hj
      replace hnx := Lib.hid hnx
      have HN := Lib.hid hN
      clear hN
      go_wp2_with fail
      refine (read_calls c d p g cap s (j : Int) _ _ hfl.out).mono ?_
      rintro e w2 ⟨r, o2, rfl, s2, v2, rfl, h2⟩
      have hm2 := Lib.hid (OwnB.stp hm.out s2 (by simp))
      have st2 := Lib.hid (st.out.trans s2.none)
      obtain ⟨A2, cap2, rfl⟩ := Own.shape h2
      replace h2 := Lib.hid h2
      clear s2
      go_wp2_with (refine holdAt 23 ?_)
      apply Hold.mk
      refine appB _ _ rfl rfl hm2.out (OwnB.rd h2.out) rfl rfl (by omega) fun A3 cap3 w3 o3 s3 h3 _ _ => ?_
      rw [← hnx.out] at h3
      have hl : (pagesB s (k * 40) i).length + (readB s (j : Int)).length = (pagesB s (k * 40) (i + 1)).length := by rw [hnx.out, List.length_append]
      rw [hl] at h3 ⊢
      have s4 := Lib.hid (st2.out.trans s3)
      replace h3 := Lib.hid h3
      replace hl := Lib.hid hl
      obtain ⟨N2, hN2⟩ : ∃ N2, (pagesB s (k * 40) (i + 1)).length = N2 := ⟨_, rfl⟩
      rw [hN2] at h3 ⊢
      replace hN2 := Lib.hid hN2
      clear s3
      go_wp2
      go_roundw
      case rel => exact ⟨i + 1, o3, by go_num, by omega, s4.out, h3.out⟩
      case measure => simp [intOf]; omega
    · have hi40 : i = 40 := by omega
      have g1 : decide ((i : Int) < 40) = false := decide_eq_false (by omega)
      rw [hi40] at hm hN ⊢
      have hf : OwnB wr (paint o w.heap.size e0) e0 (.slice A N capA) (pagesB s (k * 40) 40) := by rw [← hN]; exact Own.fresh hm st hdf e0
      replace hf := Lib.hid hf
      have s4 := Lib.hid ((st.drop hdf).repaint e0)
      replace hfl := Lib.hid hfl
      replace st := Lib.hid st
      rw [hN]
      replace hm := Lib.hid hm
      replace hN := Lib.hid hN
      go_wp2
      go_ret
      exact Post.mk s4.out hf.out
end Go.Proofs.Ytpjnmijfmfgdpaa
