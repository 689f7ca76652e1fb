/- SegFew: the walk. -/
import Derived.Test.YtcbecidcfbhkfaaKnown15
namespace Go.Proofs.Ytcbecidcfbhkfaa
set_option linter.unusedVariables false
set_option linter.unusedSimpArgs false
open Go.RowKit Go.ChangeMaps

theorem splitF_len (m : List UInt8) : (splitF m).length = if m.length ≤ 7 then 1 else 1 + m.length / 7 := by
  unfold splitF
  split
  · rfl
  · simp; omega
theorem splitF_le (m : List UInt8) : ∀ q ∈ splitF m, q.length ≤ 8 := by
  intro q hq
  unfold splitF at hq
  split at hq
  · simp only [List.mem_singleton] at hq
    subst hq
    simp [oneF]; omega
  · rcases List.mem_cons.1 hq with rfl | hq
    · simp [firstF]; omega
    · obtain ⟨i, _, rfl⟩ := List.mem_map.1 hq
      simp [contF]; omega
/-- What a loop that only reads keeps. -/
def RoR (w0 : World) (o0 : Col) (n : Nat) (x : Value) (wr : World) : Prop := ∃ (k : Nat) (o' : Col), x = .int .i64 k ∧ k ≤ n ∧ Stp [] w0 o0 wr o'
set_option maxHeartbeats 1000000 in
set_option maxRecDepth 100000 in
theorem few_law (v : Value) (m : List UInt8) (w : World) (hm : RdB w (fun _ => 0) 0 v m) : Calls Try.prog 5 #[v] w (Post [] w (fun _ => 0) fun r _ _ => r = .bool true) := by
  obtain ⟨A, cap, rfl, hlc, hA⟩ := hm.shape
  by_cases h1 : m.length < 1
  · have g1 : decide ((m.length : Int) < 1) = true := decide_eq_true (by omega)
    go_enter Try.func5, Try.ntmps5
    go_wp2
    go_ret
    exact Post.mk (Stp.refl _ _ _) rfl
  have g1 : decide ((m.length : Int) < 1) = false := decide_eq_false (by omega)
  by_cases h2 : 600 < m.length
  · have g2 : decide ((600 : Int) < (m.length : Int)) = true := decide_eq_true (by omega)
    go_enter Try.func5, Try.ntmps5
    go_wp2
    go_ret
    exact Post.mk (Stp.refl _ _ _) rfl
  have g2 : decide ((600 : Int) < (m.length : Int)) = false := decide_eq_false (by omega)
  have hE : splitE 7 m = 0 := by rw [splitE, if_neg (by omega), if_neg h2]
  have hL : splitL 7 m = splitF m := by rw [splitL, if_pos hE]
  have hlen := splitF_len m
  have hle := splitF_le m
  obtain ⟨L, hLL⟩ : ∃ L, splitF m = L := ⟨_, rfl⟩
  rw [hLL] at hlen hle hL
  replace hLL := Lib.hid hLL
  have hwant : (m.length ≤ 7 ∧ L.length = 1) ∨ (¬ m.length ≤ 7 ∧ L.length = 1 + m.length / 7) := by
    split at hlen
    · exact .inl ⟨by assumption, hlen⟩
    · exact .inr ⟨by assumption, hlen⟩
  replace hlen := Lib.hid hlen
  replace hle := Lib.hid hle
  have hw : (decide ((7 : Int) < (m.length : Int)) = false ∧ (L.length : Int) = 1) ∨ (decide ((7 : Int) < (m.length : Int)) = true ∧ (L.length : Int) = 1 + (m.length : Int) / 7) := by
    rcases hwant with ⟨h7, hl7⟩ | ⟨h7, hl7⟩
    · exact .inl ⟨decide_eq_false (by omega), by omega⟩
    · exact .inr ⟨decide_eq_true (by omega), by omega⟩
  replace hm := Lib.hid hm
  clear hwant
  rcases hw with ⟨g3, hl7⟩ | ⟨g3, hl7⟩
  all_goals
    go_enter Try.func5, Try.ntmps5
    go_wp2_with fail
    refine (split_calls 0 0 7 _ m _ _ hm.out).mono ?_
    rintro e w1 ⟨r, o1, rfl, s1, vl, rfl, fr1⟩
    rw [hE]
    rw [hL] at fr1
    obtain ⟨A1, cap1, hv, hc1, hc2, hfr⟩ := fr1
    rw [List.length_map] at hv hc1 hc2
    subst hv
    replace hfr := Lib.hid hfr
    replace s1 := Lib.hid s1
    go_wp2_with fail
    go_loopw [6] (RoR w1 o1 L.length) (fun x _ => L.length - (intOf x).toNat)
    case atStart => exact ⟨0, o1, rfl, Nat.zero_le _, Stp.refl _ _ _⟩
    case round =>
      obtain ⟨k, o2, rfl, hk, hs⟩ := hrel
      by_cases hlt : k < L.length
      · have hq : L[k]? = some L[k] := by simp [hlt]
        obtain ⟨q, hqq⟩ : ∃ q, L[k] = q := ⟨_, rfl⟩
        rw [hqq] at hq
        have hq8 := hle.out q (List.mem_of_getElem? hq)
        obtain ⟨a, vd, rfl, ha, c1, c2, hr⟩ := hfr.out k (7, q) (by rw [List.getElem?_map, hq]; rfl)
        have d1 := hs.cell c1 (by simp)
        have d2 := hs.cell c2 (by simp)
        obtain ⟨Av, capv, rfl, _, _⟩ := hr.shape
        rw [← add_add, show (a.add (k * 2)).add 1 = ⟨(a.add (k * 2)).block, (a.add (k * 2)).off + 1, none⟩ from rfl] at d2
        have z1 : decide ((k : Int) < (L.length : Int)) = true := decide_eq_true (by omega)
        have z2 : decide ((8 : Int) < (q.length : Int)) = false := decide_eq_false (by omega)
        have z3 : (0 : Int) ≤ (k : Int) ∧ (k : Int) < (L.length : Int) := by omega
        replace hs := Lib.hid hs
        clear c1 c2 hr hqq hq
        go_wp2
        go_roundw
        case rel => exact ⟨k + 1, o2, by go_num, by omega, hs.out⟩
        case measure => simp [intOf]; omega
      · have z1 : decide ((k : Int) < (L.length : Int)) = false := decide_eq_false (by omega)
        replace hs := Lib.hid hs
        go_wp2_with fail
        refine (known15_calls _ o2).mono ?_
        rintro e w9 ⟨r, o9, rfl, s9, rfl⟩
        have st := Lib.hid (s1.out.trans (hs.out.trans s9))
        clear s9
        go_wp2
        go_ret
        exact Post.mk st.out rfl

end Go.Proofs.Ytcbecidcfbhkfaa
