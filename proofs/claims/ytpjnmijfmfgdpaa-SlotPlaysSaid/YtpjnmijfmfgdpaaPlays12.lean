/- SlotPlays: the walks of what it calls: long, alike. -/
import Derived.Test.YtpjnmijfmfgdpaaActsM
import Derived.Test.YtpjnmijfmfgdpaaXSlotD
import Derived.Test.YtpjnmijfmfgdpaaRef11c
import Derived.Test.YtpjnmijfmfgdpaaKnown12
namespace Go.Proofs.Ytpjnmijfmfgdpaa
set_option linter.unusedVariables false
set_option linter.unusedSimpArgs false
open Go.RowKit

/-- What the loop of 'long' keeps. -/
def LgM (w0 : World) (n : Nat) (x y : Value) (wr : World) : Prop := ∃ (k : Nat) (z : Int), y = .int .i64 k ∧ k ≤ n ∧ x = .int .i64 z ∧ wr = w0
set_option maxHeartbeats 1000000 in
set_option maxRecDepth 100000 in
theorem long12_calls (c : Nat) (v : Value) (l : List ActM) (w : World) (o : Col) (h : ActsM w o c v l) : Calls Try.prog 28 #[v] w fun e w' => ∃ b, e = .returned (.bool b) ∧ w = w' := by
  obtain ⟨⟨A, cap, rfl, hl, hb, hc⟩, hby⟩ := h
  go_enter Try.func28, Try.ntmps28
  go_wp2_with fail
  go_loopw [3, 4] (LgM w l.length) (fun _ y _ => l.length - (intOf y).toNat)
  case atStart => exact ⟨0, 0, rfl, Nat.zero_le _, rfl, rfl⟩
  case round =>
    obtain ⟨k, z, rfl, hk, rfl, rfl⟩ := hrel
    by_cases hlt : k < l.length
    · by_cases hk80 : k < 20
      · obtain ⟨a, rfl, _, hcell⟩ := hc (by omega)
        obtain ⟨x, hx⟩ : ∃ x, l[k]? = some x := ⟨l[k], by simp [hlt]⟩
        have hc2 := hcell k x hx 1 _ rfl
        obtain ⟨A2, cap2, hvb, _, _⟩ := (hby x (List.mem_of_getElem? hx)).1.shape
        rw [hvb, ← add_add, show (a.add (k * 4)).add 1 = ⟨(a.add (k * 4)).block, (a.add (k * 4)).off + 1, none⟩ from rfl] at hc2
        have g1 : decide ((k : Int) < (l.length : Int)) = true := decide_eq_true (by omega)
        have g2 : decide ((k : Int) < 20) = true := decide_eq_true (by omega)
        have g3 : (0 : Int) ≤ (k : Int) ∧ (k : Int) < (l.length : Int) := by omega
        obtain ⟨Z, hZ⟩ : ∃ Z, wrap64 (wrap64 (z + 1) + (x.b.length : Int)) = Z := ⟨_, rfl⟩
        clear hcell hc hby
        by_cases hbig : 12000 < Z
        · go_wp2
          go_ret
          exact ⟨true, rfl, rfl⟩
        · have hbig2 : decide (12000 < Z) = false := decide_eq_false hbig
          go_wp2
          go_roundw
          case rel => exact ⟨k + 1, Z, by go_num, by omega, by rw [hZ], rfl⟩
          case measure => simp [intOf]; omega
      · have g1 : decide ((k : Int) < (l.length : Int)) = true := decide_eq_true (by omega)
        have g2 : decide ((k : Int) < 20) = false := decide_eq_false (by omega)
        go_wp2
        go_ret
        exact ⟨false, rfl, rfl⟩
    · have g1 : decide ((k : Int) < (l.length : Int)) = false := decide_eq_false (by omega)
      go_wp2
      go_ret
      exact ⟨false, rfl, rfl⟩

/-- What the loop of 'alike' keeps. -/
def AlM (w0 : World) (o0 : Col) (n : Nat) (x : Value) (wr : World) : Prop := ∃ (k : Nat) (o' : Col), x = .int .i64 k ∧ k ≤ n ∧ Stp [] w0 o0 wr o'
set_option maxHeartbeats 1000000 in
set_option maxRecDepth 100000 in
theorem alike12_calls (c p g cap cx ex px : Nat) (vP : Value) (vs : List Value) (s : FS) (w : World) (o : Col) (hf : Fl w o c p g cap s) (hx : XFl w o cx ex px vP vs s) :
    Calls Try.prog 33 #[.pointer (some ⟨p, 0, none⟩), .pointer (some ⟨px, 0, none⟩)] w (Post [] w o fun r _ _ => r = .bool true) := by
  obtain ⟨A, capP, rfl⟩ := hx.shape
  have hok := Lib.hid hf.ok.2.1
  obtain ⟨d, hd1, _, hdf⟩ := fresh o w.heap.size [c, cx, ex]
  simp only [List.mem_cons, List.not_mem_nil, or_false, not_or] at hd1
  replace hf := Lib.hid hf
  replace hx := Lib.hid hx
  go_enter Try.func33, Try.ntmps33
  go_wp2_with fail
  go_loopw [5] (AlM w o s.pg.length) (fun x _ => s.pg.length - (intOf x).toNat)
  case atStart => exact ⟨0, o, rfl, Nat.zero_le _, Stp.refl _ _ _⟩
  case round =>
    obtain ⟨k, o1, rfl, hk, hs⟩ := hrel
    have hx2 := hx.out.stp hs (by simp) (by simp)
    have c0 := hx2.c0
    by_cases hlt : k < s.pg.length
    · have hf2 := Lib.hid (hf.out.stp hs (by simp))
      obtain ⟨a, v, q, rfl, hca, hv, hq, hcell, hown, hql⟩ := hx2.slot (i := k) hlt
      have hbk : hasB s (k : Int) = true := by simp [hasB]; omega
      have hE : readE s (k : Int) = 0 := by rw [readE, hbk]; rfl
      have hR : readB s (k : Int) = q := readB_get hq
      have hrd := read_calls c d p g cap s (k : Int) wr o1 hf2.out
      rw [hE, hR] at hrd
      obtain ⟨PL, hPL⟩ : ∃ PL, s.pg.length = PL := ⟨_, rfl⟩
      have hk256 : k < 256 := by have := hok.out; omega
      rw [hPL] at c0
      have g1 : decide ((k : Int) < (PL : Int)) = true := decide_eq_true (by omega)
      have g2 : (0 : Int) ≤ (k : Int) ∧ (k : Int) < (PL : Int) := by omega
      replace hPL := Lib.hid hPL
      replace hE := Lib.hid hE
      replace hR := Lib.hid hR
      replace hq := Lib.hid hq
      replace hv := Lib.hid hv
      replace hca := Lib.hid hca
      replace hx2 := Lib.hid hx2
      replace hs := Lib.hid hs
      replace hql := Lib.hid hql
      have Hcell := Lib.hid hcell
      have C0 := Lib.hid c0
      clear hcell
      go_wp2_with fail
      refine hrd.mono ?_
      clear hrd
      rintro e w2 ⟨r, o2, rfl, s2, v2, rfl, h2⟩
      have d0 := s2.cell C0.out (by simp)
      have dc := s2.cell Hcell.out (by simp)
      have hown2 := OwnB.stp hown s2 (by simp)
      obtain ⟨A2, cap2, rfl⟩ := Own.shape h2
      obtain ⟨A3, cap3, rfl⟩ := Own.shape hown2
      have h2' : OwnB w2 o2 d (.slice A2 q.length cap2) q := h2
      have h3' : OwnB w2 o2 cx (.slice A3 q.length cap3) q := hown2
      have cv1 : ∀ n, (convert 22 9 (.slice A2 q.length cap2)).run Try.prog (w2.drewN n) = .ok (.string ⟨q.toArray⟩) (w2.drewN n) := fun n => convBS ((OwnB.rd h2').stp ((Stp.refl [] w2 o2).drewN n) (by simp)) rfl
      have cv2 : ∀ n, (convert 22 9 (.slice A3 q.length cap3)).run Try.prog (w2.drewN n) = .ok (.string ⟨q.toArray⟩) (w2.drewN n) := fun n => convBS ((OwnB.rd h3').stp ((Stp.refl [] w2 o2).drewN n) (by simp)) rfl
      have st := Lib.hid (hs.out.trans s2)
      replace h2 := Lib.hid h2
      replace h2' := Lib.hid h2'
      replace h3' := Lib.hid h3'
      replace hown := Lib.hid hown
      replace hown2 := Lib.hid hown2
      clear s2 c0
      go_wp2_with fail
      go_quiet (fail)
      go_wp2
      go_roundw
      case rel => exact ⟨k + 1, o2, by go_num, by omega, st.out.drewN _⟩
      case measure => simp [intOf]; omega
    · obtain ⟨PL, hPL⟩ : ∃ PL, s.pg.length = PL := ⟨_, rfl⟩
      rw [hPL] at c0
      have g1 : decide ((k : Int) < (PL : Int)) = false := decide_eq_false (by omega)
      have g2 : ¬ k < PL := by omega
      replace hPL := Lib.hid hPL
      replace hs := Lib.hid hs
      replace hx2 := Lib.hid hx2
      go_wp2
      go_ret
      exact Post.mk hs.out rfl
end Go.Proofs.Ytpjnmijfmfgdpaa
