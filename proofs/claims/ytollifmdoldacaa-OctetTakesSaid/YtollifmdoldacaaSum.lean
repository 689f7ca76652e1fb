/- The check sum: the walks. -/
import Derived.Test.YtollifmdoldacaaOctet
import Derived.Test.YtollifmdoldacaaCrc
namespace Go.Proofs.Ytollifmdoldacaa
set_option linter.unusedVariables false
set_option linter.unusedSimpArgs false
open Go.RowKit

theorem xor32 (u : Nat) (b : UInt8) (hu : u < 4294967296) : bits BinOp.xor IntKind.u32 (u : Int) ((b.toNat : Int) % 4294967296) = ((u ^^^ b.toNat : Nat) : Int) := by
  have hb := b.toNat_lt
  rw [show ((b.toNat : Int) % 4294967296) = ((b.toNat : Nat) : Int) by omega]
  exact u32_xor_nat u b.toNat hu (by omega)
/-- A round as the program has it. -/
theorem step32 (u : Nat) (hu : u < 4294967296) : bits BinOp.xor IntKind.u32 ((u : Int) / 2) (bits BinOp.and IntKind.u32 3988292384 (-bits BinOp.and IntKind.u32 (u : Int) 1 % 4294967296)) = ((crcStep u : Nat) : Int) := by
  have e1 : bits BinOp.and IntKind.u32 (u : Int) 1 = ((u % 2 : Nat) : Int) := by
    have := u32_and_nat u 1 hu (by omega)
    rw [nat_mask1] at this
    exact this
  rw [e1]
  have e2 : bits BinOp.and IntKind.u32 3988292384 (-((u % 2 : Nat) : Int) % 4294967296) = ((if u % 2 = 1 then 3988292384 else 0 : Nat) : Int) := by
    by_cases h : u % 2 = 1
    · rw [if_pos h, h]
      decide +kernel
    · have h0 : u % 2 = 0 := by omega
      rw [if_neg h, h0]
      decide +kernel
  rw [e2]
  have := u32_xor_nat (u / 2) (if u % 2 = 1 then 3988292384 else 0) (by omega) (by split <;> omega)
  exact this
theorem xor_max (u : Nat) (hu : u < 4294967296) : 4294967295 ^^^ u = 4294967295 - u := by
  have h := congrArg BitVec.toNat (BitVec.xor_allOnes (x := BitVec.ofNat 32 u))
  rw [BitVec.toNat_xor, BitVec.toNat_allOnes, BitVec.toNat_not, BitVec.toNat_ofNat, Nat.mod_eq_of_lt (by simpa using hu)] at h
  rw [Nat.xor_comm]
  simpa using h
/-- All digits turned. -/
theorem not32 (u : Nat) (hu : u < 4294967296) : bits BinOp.xor IntKind.u32 IntKind.u32.max (u : Int) = ((4294967295 - u : Nat) : Int) := by
  have := u32_xor_nat 4294967295 u (by omega) hu
  rw [xor_max u hu] at this
  exact this

def CrIn (t : Nat) (x y : Value) : Prop := ∃ k u : Nat, x = .int .u32 u ∧ u < 4294967296 ∧ y = .int .i64 k ∧ k ≤ 8 ∧ crcRounds (8 - k) u = t
def CrMid (g : Nat) (l : List UInt8) (x y : Value) : Prop := ∃ k u : Nat, x = .int .u32 u ∧ u < 4294967296 ∧ y = .int .i64 k ∧ k ≤ l.length ∧ u = crcGo g (l.take k)
def CrOut (ls : List (List UInt8)) (x y : Value) : Prop := ∃ k u : Nat, x = .int .u32 u ∧ u < 4294967296 ∧ y = .int .i64 k ∧ k ≤ ls.length ∧ u = crcGo 4294967295 (ls.take k).flatten

set_option maxHeartbeats 1000000 in
set_option maxRecDepth 100000 in
theorem sum_calls (c d : Nat) (v : Value) (ls : List (List UInt8)) (w : World) (o : Col) (hr : RdRows w o c d v ls) :
    Calls Try.prog 23 #[v] w fun e w' => e = .returned (.int .u32 (crc ls.flatten : Int)) ∧ w = w' := by
  obtain ⟨A, cap, rfl, hnc, hA⟩ := hr.shape
  have hbig : ls.length ≤ 9223372036854775807 := by obtain ⟨_, _, h, _⟩ := hr; exact h.big
  go_enter Try.func23, Try.ntmps23
  go_wp2_with fail
  go_loop [3, 10] (CrOut ls) (fun _ y => ls.length - (intOf y).toNat)
  case atStart => exact ⟨0, 4294967295, rfl, by omega, rfl, Nat.zero_le _, rfl⟩
  case round =>
    obtain ⟨k, u, rfl, hu, rfl, hk, hg⟩ := hrel
    by_cases hlt : k < ls.length
    · obtain ⟨a, uv, r, rfl, hcell, hrd, Hr⟩ := hr.get hlt
      obtain ⟨B, cap2, rfl, hrc, hB⟩ := hrd.shape
      have hbig2 := hrd.big
      have Hg := Lib.hid hg
      have Hu := Lib.hid hu
      clear hg hu
      go_wp2_with fail
      go_loop [3, 16] (CrMid u r) (fun _ y => r.length - (intOf y).toNat)
      case atStart => exact ⟨0, u, rfl, Hu.out, rfl, Nat.zero_le _, rfl⟩
      case round =>
        obtain ⟨k2, u2, rfl, hu2, rfl, hk2, hg2⟩ := hrel
        by_cases hlt2 : k2 < r.length
        · obtain ⟨b, rfl, hc2⟩ := hrd.at_ hlt2
          obtain ⟨x, hx⟩ : ∃ x, r[k2] = x := ⟨_, rfl⟩
          rw [hx] at hc2
          have Hx := Lib.hid hx
          have Hg2 := Lib.hid hg2
          have Hu2 := Lib.hid hu2
          clear hx hg2 hu2
          have hxor := xor32 u2 x Hu2.out
          go_wp2_with fail
          go_loop [3, 24] (CrIn (crcByte u2 x)) (fun _ y => 8 - (intOf y).toNat)
          case atStart => exact ⟨0, _, rfl, xor_lt Hu2.out (by have := x.toNat_lt; omega), rfl, by omega, rfl⟩
          case round =>
            obtain ⟨k3, u3, rfl, hu3, rfl, hk3, hg3⟩ := hrel
            have Hg3 := Lib.hid hg3
            have Hu3 := Lib.hid hu3
            clear hg3 hu3 hxor
            by_cases hlt3 : k3 < 8
            · have hst := step32 u3 Hu3.out
              have Hst := Lib.hid (show crcRounds (8 - (k3 + 1)) (crcStep u3) = crcByte u2 x by
                rw [← Hg3.out, show 8 - k3 = (8 - (k3 + 1)) + 1 by omega]; rfl)
              go_wp2
              go_round
              case rel => exact ⟨k3 + 1, crcStep u3, rfl, crcStep_lt Hu3.out, by go_num, by omega, Hst.out⟩
              case measure => simp [intOf]; omega
            · have hk8 : k3 = 8 := by omega
              subst hk8
              have Hlt := Lib.hid (crcByte_lt x Hu2.out)
              have hu3 : u3 = crcByte u2 x := Hg3.out
              subst hu3
              go_wp2
              go_round
              case rel =>
                refine ⟨k2 + 1, _, rfl, Hlt.out, by go_num, hlt2, ?_⟩
                rw [List.take_succ_eq_append_getElem hlt2, Hx.out, crcGo_append, ← Hg2.out]
                rfl
              case measure => simp [intOf]; omega
        · have hk2' : k2 = r.length := by omega
          subst hk2'
          rw [List.take_length] at hg2
          have Hg2 := Lib.hid hg2
          have Hu2 := Lib.hid hu2
          clear hg2 hu2
          go_wp2
          go_round
          case rel =>
            refine ⟨k + 1, u2, rfl, Hu2.out, by go_num, hlt, ?_⟩
            rw [List.take_succ_eq_append_getElem hlt, Hr.out, List.flatten_append, crcGo_append, ← Hg.out, Hg2.out]
            simp
          case measure => simp [intOf]; omega
    · have hk' : k = ls.length := by omega
      subst hk'
      rw [List.take_length] at hg
      have Hu := Lib.hid hu
      have hnot := not32 u Hu.out
      have Hfin := Lib.hid (show (4294967295 - u) = crc ls.flatten by unfold crc; rw [← hg])
      clear hg hu
      go_wp2
      go_ret
      exact ⟨by rw [← Hfin.out]; rfl, rfl⟩

/-- A round as the reference has it. -/
theorem step32_odd (u : Nat) (hu : u < 4294967296) (h : u % 2 = 1) : bits BinOp.xor IntKind.u32 ((u : Int) / 2) 3988292384 = ((crcStep u : Nat) : Int) := by
  have := u32_xor_nat (u / 2) 3988292384 (by omega) (by omega)
  unfold crcStep
  rw [if_pos h]
  exact this
theorem step32_even (u : Nat) (h : ¬ u % 2 = 1) : (u : Int) / 2 = ((crcStep u : Nat) : Int) := by
  unfold crcStep
  rw [if_neg h]
  simp
theorem bit32 (u : Nat) (hu : u < 4294967296) : bits BinOp.and IntKind.u32 (u : Int) 1 = ((u % 2 : Nat) : Int) := by
  have := u32_and_nat u 1 hu (by omega)
  rw [nat_mask1] at this
  exact this
set_option maxHeartbeats 1000000 in
set_option maxRecDepth 100000 in
theorem rsum_calls (c : Nat) (v : Value) (l : List UInt8) (w : World) (o : Col) (hr : RdB w o c v l) :
    Calls Try.prog 24 #[v] w fun e w' => e = .returned (.int .u32 (crc l : Int)) ∧ w = w' := by
  obtain ⟨A, cap, rfl, hnc, hA⟩ := hr.shape
  have hbig := hr.big
  go_enter Try.func24, Try.ntmps24
  go_wp2_with fail
  go_loop [3, 4] (CrMid 4294967295 l) (fun _ y => l.length - (intOf y).toNat)
  case atStart => exact ⟨0, 4294967295, rfl, by omega, rfl, Nat.zero_le _, rfl⟩
  case round =>
    obtain ⟨k2, u2, rfl, hu2, rfl, hk2, hg2⟩ := hrel
    by_cases hlt2 : k2 < l.length
    · obtain ⟨b, rfl, hc2⟩ := hr.at_ hlt2
      obtain ⟨x, hx⟩ : ∃ x, l[k2] = x := ⟨_, rfl⟩
      rw [hx] at hc2
      have Hx := Lib.hid hx
      have Hg2 := Lib.hid hg2
      have Hu2 := Lib.hid hu2
      clear hx hg2 hu2
      have hxor := xor32 u2 x Hu2.out
      go_wp2_with fail
      go_loop [3, 5] (CrIn (crcByte u2 x)) (fun _ y => 8 - (intOf y).toNat)
      case atStart => exact ⟨0, _, rfl, xor_lt Hu2.out (by have := x.toNat_lt; omega), rfl, by omega, rfl⟩
      case round =>
        obtain ⟨k3, u3, rfl, hu3, rfl, hk3, hg3⟩ := hrel
        have Hg3 := Lib.hid hg3
        have Hu3 := Lib.hid hu3
        clear hg3 hu3 hxor
        by_cases hlt3 : k3 < 8
        · have Hst := Lib.hid (show crcRounds (8 - (k3 + 1)) (crcStep u3) = crcByte u2 x by
            rw [← Hg3.out, show 8 - k3 = (8 - (k3 + 1)) + 1 by omega]; rfl)
          have hbit := bit32 u3 Hu3.out
          by_cases hodd : u3 % 2 = 1
          · have hst := step32_odd u3 Hu3.out hodd
            rw [hodd] at hbit
            have Hodd := Lib.hid hodd
            clear hodd
            go_wp2
            go_round
            case rel => exact ⟨k3 + 1, crcStep u3, rfl, crcStep_lt Hu3.out, by go_num, by omega, Hst.out⟩
            case measure => simp [intOf]; omega
          · have hst := step32_even u3 hodd
            rw [show u3 % 2 = 0 by omega] at hbit
            have Hodd := Lib.hid hodd
            clear hodd
            go_wp2
            go_round
            case rel => exact ⟨k3 + 1, crcStep u3, rfl, crcStep_lt Hu3.out, by go_num, by omega, Hst.out⟩
            case measure => simp [intOf]; omega
        · have hk8 : k3 = 8 := by omega
          subst hk8
          have Hlt := Lib.hid (crcByte_lt x Hu2.out)
          have hu3 : u3 = crcByte u2 x := Hg3.out
          subst hu3
          go_wp2
          go_round
          case rel =>
            refine ⟨k2 + 1, _, rfl, Hlt.out, by go_num, hlt2, ?_⟩
            rw [List.take_succ_eq_append_getElem hlt2, Hx.out, crcGo_append, ← Hg2.out]
            rfl
          case measure => simp [intOf]; omega
    · have hk2' : k2 = l.length := by omega
      subst hk2'
      rw [List.take_length] at hg2
      have hnot := not32 u2 hu2
      have Hfin := Lib.hid (show (4294967295 - u2) = crc l by unfold crc; rw [← hg2])
      clear hg2 hu2
      go_wp2
      go_ret
      exact ⟨by rw [← Hfin.out]; rfl, rfl⟩
end Go.Proofs.Ytollifmdoldacaa
