/- Package octet: a Reader takes a number. -/
import Derived.Test.YtpjnmijfmfgdpaaOctetR
namespace Go.Proofs.Ytpjnmijfmfgdpaa
set_option linter.unusedVariables false
set_option linter.unusedSimpArgs false
open Go.RowKit

theorem pow7 (k : Nat) : (128 : Nat) ^ k = 2 ^ (7 * k) := by rw [Nat.pow_mul]
theorem pow7_le {k : Nat} (hk : k ≤ 8) : (128 : Nat) ^ k ≤ 72057594037927936 := Nat.le_trans (Nat.pow_le_pow_right (by omega) hk) (by decide)
/-- Seven digits more. -/
theorem numOr (k u : Nat) (b : UInt8) (hk : k ≤ 8) (hu : u < 128 ^ k) :
    bits BinOp.or IntKind.u64 (u : Int) (IntKind.u64.wrap (IntKind.u64.wrap (bits BinOp.and IntKind.u8 (b.toNat : Int) 127) * 2 ^ (7 * k))) = ((u + b.toNat % 128 * 128 ^ k : Nat) : Int) := by
  have hb := b.toNat_lt
  have h8 := pow7_le hk
  have e1 : bits BinOp.and IntKind.u8 (b.toNat : Int) 127 = ((b.toNat % 128 : Nat) : Int) := by
    have := u8_and_nat b.toNat 127 (by omega) (by omega)
    rw [nat_mask7] at this
    exact this
  have hx : b.toNat % 128 * 128 ^ k ≤ 127 * 72057594037927936 := Nat.mul_le_mul (by omega) h8
  have e2 : IntKind.u64.wrap ((b.toNat % 128 : Nat) : Int) = ((b.toNat % 128 : Nat) : Int) := by rw [IntKind.wrap_u64]; omega
  have e3 : ((b.toNat % 128 : Nat) : Int) * 2 ^ (7 * k) = ((b.toNat % 128 * 128 ^ k : Nat) : Int) := by rw [pow7]; simp
  have e4 : IntKind.u64.wrap ((b.toNat % 128 * 128 ^ k : Nat) : Int) = ((b.toNat % 128 * 128 ^ k : Nat) : Int) := by rw [IntKind.wrap_u64]; omega
  rw [e1, e2, e3, e4, u64_or_nat _ _ (by omega) (by omega)]
  have h0 : b.toNat % 128 * 128 ^ k % 2 ^ (7 * k) = 0 := by rw [pow7]; exact Nat.mul_mod_left _ _
  rw [Nat.or_comm, nat_join (7 * k) _ _ h0 (by rw [← pow7]; exact hu), Nat.add_comm]

def RnIn (l : List UInt8) (x y : Value) : Prop := ∃ k u : Nat, x = .int .u64 u ∧ y = .int .i64 k ∧ k ≤ l.length ∧ k ≤ 9 ∧ u < 128 ^ k ∧ rnumGo (l.drop k) k u = rnum l
set_option maxHeartbeats 1000000 in
set_option maxRecDepth 100000 in
theorem rnum_calls (c d p : Nat) (v : Value) (l : List UInt8) (bad : Bool) (w : World) (o : Col) (h : Rr w o c d p v l bad) (hb : l.length ≤ 140737488355328) :
    Calls Try.prog 93 #[.pointer (some ⟨p, 0, none⟩)] w (Post [c] w o fun r w' o' => r = .int .i64 ((nNum l bad).1 : Int) ∧ ∃ v', Rr w' o' c d p v' (nNum l bad).2.1 (nNum l bad).2.2) := by
  have hc := h.c0
  obtain ⟨A, cap, rfl, hlc, hA⟩ := h.rd.shape
  have fin : rnum l = none → ∀ w1 o1, Stp [c] w o w1 o1 → Rr w1 o1 c d p (.slice none 0 0) [] true → Post [c] w o (fun r w' o' => r = .int .i64 ((nNum l bad).1 : Int) ∧ ∃ v', Rr w' o' c d p v' (nNum l bad).2.1 (nNum l bad).2.2) (.returned (.int .i64 0)) w1 := by
    intro hn w1 o1 hs h1
    unfold nNum
    rw [hn]
    exact Post.mk hs ⟨rfl, _, h1⟩
  have Fin := Lib.hid fin
  clear fin
  go_enter Try.func93, Try.ntmps93
  go_wp2_with fail
  go_loop [3, 13] (RnIn l) (fun _ y => l.length - (intOf y).toNat)
  case atStart => exact ⟨0, 0, rfl, rfl, Nat.zero_le _, by omega, by simp, rfl⟩
  case round =>
    obtain ⟨k, u, rfl, rfl, hk, hk9, hu, hgo⟩ := hrel
    by_cases hlt : k < l.length
    · have hcellx := h.rd.at_ hlt
      have hdrop := List.drop_eq_getElem_cons hlt
      obtain ⟨b, hb'⟩ : ∃ b, l[k] = b := ⟨_, rfl⟩
      rw [hb'] at hcellx hdrop
      obtain ⟨a, rfl, hcell⟩ := hcellx
      rw [hdrop] at hgo
      have hb256 := b.toNat_lt
      by_cases h9 : 9 ≤ k
      · have hn : rnum l = none := by rw [← hgo, rnumGo, if_pos (.inl h9)]
        have Hn := Lib.hid hn
        clear hb' hgo hu hdrop hn
        go_wp2_with fail
        all_goals
          refine (rbad_calls c d p _ l bad w o h).mono ?_
          rintro e w1 ⟨r, o1, rfl, s1, rfl, h1⟩
          clear hc hcell
          go_wp2
          go_ret
          exact Fin.out Hn.out w1 o1 s1 h1
      · by_cases h0 : 0 < k ∧ b.toNat = 0
        · have hn : rnum l = none := by rw [← hgo, rnumGo, if_pos (.inr h0)]
          have Hn := Lib.hid hn
          have h00 : ((b.toNat : Int) == 0) = true := by rw [h0.2]; rfl
          have h01 := h0.1
          clear hb' hgo hu hdrop hn h0
          go_wp2_with fail
          refine (rbad_calls c d p _ l bad w o h).mono ?_
          rintro e w1 ⟨r, o1, rfl, s1, rfl, h1⟩
          clear hc hcell
          go_wp2
          go_ret
          exact Fin.out Hn.out w1 o1 s1 h1
        · obtain ⟨u2, hu2⟩ : ∃ u2, u + b.toNat % 128 * 128 ^ k = u2 := ⟨_, rfl⟩
          have hor := numOr k u b (by omega) hu
          rw [hu2] at hor
          rw [rnumGo, if_neg (by omega)] at hgo
          have h00 : ¬ 0 < k ∨ (0 < k ∧ ((b.toNat : Int) == 0) = false) := by
            by_cases hk0 : 0 < k
            · refine .inr ⟨hk0, ?_⟩
              rw [beq_eq_false_iff_ne]
              omega
            · exact .inl hk0
          clear h0
          by_cases hs : b.toNat < 128
          · rw [if_pos hs, show u + b.toNat * 128 ^ k = u2 by rw [← hu2, Nat.mod_eq_of_lt hs]] at hgo
            by_cases hbig : 4611686018427387904 < u2
            · have hn : rnum l = none := by rw [← hgo, if_pos hbig]
              have Hn := Lib.hid hn
              clear hb' hgo hu hdrop hn hu2
              rcases h00 with h00 | ⟨h00, h01⟩
              all_goals
                go_wp2_with fail
                refine (rbad_calls c d p _ l bad w o h).mono ?_
                rintro e w1 ⟨r, o1, rfl, s1, rfl, h1⟩
                clear hc hcell
                go_wp2
                go_ret
                exact Fin.out Hn.out w1 o1 s1 h1
            · have hn : rnum l = some (u2, l.drop (k + 1)) := by rw [← hgo, if_neg hbig]
              have Hn := Lib.hid hn
              have hf := h.free 0
              clear hb' hgo hu hdrop hn hu2 Fin
              rcases h00 with h00 | ⟨h00, h01⟩
              all_goals
                go_wp2_with (refine holdAt 47 ?_)
                apply Hold.mk
                refine slcBL (c := d) _ _ rfl rfl h.rd (k + 1) rfl rfl hlt fun A2 r2 => ?_
                obtain ⟨h3, s3⟩ := h.put r2
                go_wp2
                go_ret
                unfold nNum
                rw [Hn.out]
                exact Post.mk s3 ⟨rfl, _, h3⟩
          · rw [if_neg hs] at hgo
            have hu3 : u2 < 128 ^ (k + 1) := by
              have : b.toNat % 128 * 128 ^ k ≤ 127 * 128 ^ k := Nat.mul_le_mul_right _ (by omega)
              rw [Nat.pow_succ]
              omega
            rw [show u + (b.toNat - 128) * 128 ^ k = u2 by rw [← hu2]; congr 2; omega] at hgo
            have Hgo := Lib.hid hgo
            have Hu3 := Lib.hid hu3
            clear hb' hgo hu hdrop hu2 Fin hu3
            rcases h00 with h00 | ⟨h00, h01⟩
            all_goals
              go_wp2
              go_round
              case rel => exact ⟨k + 1, u2, rfl, by go_num, hlt, by omega, Hu3.out, Hgo.out⟩
              case measure => simp [intOf]; omega
    · have hn : rnum l = none := by
        rw [← hgo, show l.drop k = [] from List.drop_of_length_le (by omega), rnumGo]
      have Hn := Lib.hid hn
      clear hgo hn hu
      go_wp2_with fail
      refine (rbad_calls c d p _ l bad w o h).mono ?_
      rintro e w1 ⟨r, o1, rfl, s1, rfl, h1⟩
      clear hc
      go_wp2
      go_ret
      exact Fin.out Hn.out w1 o1 s1 h1
set_option maxHeartbeats 400000 in
theorem rbytes_calls (c d e0 p : Nat) (v : Value) (l : List UInt8) (bad : Bool) (w : World) (o : Col) (h : Rr w o c d p v l bad) (hb : l.length ≤ 140737488355328) :
    Calls Try.prog 84 #[.pointer (some ⟨p, 0, none⟩)] w (Post [c] w o fun r w' o' => OwnB w' o' e0 r (nBytes l bad).1 ∧ ∃ v', Rr w' o' c d p v' (nBytes l bad).2.1 (nBytes l bad).2.2) := by
  have hle := (nNum_le l bad).1
  go_enter Try.func84, Try.ntmps84
  go_wp2_with fail
  refine (rnum_calls c d p v l bad w o h hb).mono ?_
  rintro e w1 ⟨r, o1, rfl, s1, rfl, v1, h1⟩
  go_wp2_with fail
  refine (rraw_calls c d e0 p v1 _ _ _ w1 o1 h1 (by omega)).mono ?_
  rintro e w2 ⟨r, o2, rfl, s2, h2, v2, h3⟩
  go_wp2
  go_ret
  exact Post.mk (s1.trans s2) ⟨h2, v2, h3⟩
end Go.Proofs.Ytpjnmijfmfgdpaa
