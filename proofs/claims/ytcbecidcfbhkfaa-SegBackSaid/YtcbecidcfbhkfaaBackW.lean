/- SegBack: the walk. -/
import Derived.Test.YtcbecidcfbhkfaaSegB
import Derived.Test.YtcbecidcfbhkfaaRead15
namespace Go.Proofs.Ytcbecidcfbhkfaa
set_option linter.unusedVariables false
set_option linter.unusedSimpArgs false
open Go.RowKit Go.ChangeMaps

def one01 (x : Option OE) : Nat := if x.isSome then 1 else 0
/-- What the loop of SegBack keeps. -/
def BkR (w0 : World) (o0 : Col) (pj mb : Nat) (id other : Int) (a b : List UInt8) (x y z : Value) (wr : World) : Prop :=
  ∃ (p q : Nat) (o' : Col) (Q : Int → Nat) (V : Int → Value) (s : JS), x = .int .i64 p ∧ y = .int .i64 q ∧ z = .int .i64 ((p + q : Nat) : Int) ∧ p ≤ nF a ∧ q ≤ nF b ∧ Stp [1] w0 o0 wr o' ∧ JFl wr o' 1 pj mb Q V s ∧ s.ok ∧ s.f id = stM a p 5 ∧ s.f other = stM b q 5 ∧ s.err = 0 ∧
    s.cnt = one01 (stM a p 5) + one01 (stM b q 5)
theorem nF_le (m : List UInt8) (h : m.length ≤ 600) : 1 ≤ nF m ∧ nF m ≤ 100 := by
  unfold nF
  split <;> omega
theorem one01_le (x : Option OE) : one01 x ≤ 1 := by
  unfold one01
  split <;> omega
set_option maxHeartbeats 8000000 in
set_option maxRecDepth 100000 in
theorem back_law (va : Value) (a : List UInt8) (vb : Value) (b : List UInt8) (id other : Int) (vt : Value) (ts : List Bool) (w : World) (ha : RdB w (fun _ => 0) 0 va a) (hb : RdB w (fun _ => 0) 0 vb b) (hwi : (Lit.int .i64 id).wf = true) (hwo : (Lit.int .i64 other).wf = true)
    (ht : Rd w (fun _ => 0) 0 1 vt ts.length (ts.map .bool)) : Calls Try.prog 7 #[va, vb, .int .i64 id, .int .i64 other, vt] w (Post [] w (fun _ => 0) fun r _ _ => r = .bool true) := by
  obtain ⟨Aa, ca, rfl, hac, _⟩ := ha.shape
  obtain ⟨Ab, cb, rfl, hbc, _⟩ := hb.shape
  obtain ⟨At, ct, rfl, htc, hAt, _⟩ := ht.is
  replace ha := Lib.hid ha
  replace hb := Lib.hid hb
  replace ht := Lib.hid ht
  replace hwi := Lib.hid hwi
  replace hwo := Lib.hid hwo
  by_cases h1 : a.length < 1
  · have g1 : decide ((a.length : Int) < 1) = true := decide_eq_true (by omega)
    go_enter Try.func7, Try.ntmps7
    go_wp2
    go_ret
    exact Post.mk (Stp.refl _ _ _) rfl
  have g1 : decide ((a.length : Int) < 1) = false := decide_eq_false (by omega)
  by_cases h2 : 600 < a.length
  · have g2 : decide ((600 : Int) < (a.length : Int)) = true := decide_eq_true (by omega)
    go_enter Try.func7, Try.ntmps7
    go_wp2
    go_ret
    exact Post.mk (Stp.refl _ _ _) rfl
  have g2 : decide ((600 : Int) < (a.length : Int)) = false := decide_eq_false (by omega)
  by_cases h3 : b.length < 1
  · have g3 : decide ((b.length : Int) < 1) = true := decide_eq_true (by omega)
    go_enter Try.func7, Try.ntmps7
    go_wp2
    go_ret
    exact Post.mk (Stp.refl _ _ _) rfl
  have g3 : decide ((b.length : Int) < 1) = false := decide_eq_false (by omega)
  by_cases h4 : 600 < b.length
  · have g4 : decide ((600 : Int) < (b.length : Int)) = true := decide_eq_true (by omega)
    go_enter Try.func7, Try.ntmps7
    go_wp2
    go_ret
    exact Post.mk (Stp.refl _ _ _) rfl
  have g4 : decide ((600 : Int) < (b.length : Int)) = false := decide_eq_false (by omega)
  by_cases h5 : id < 0
  · have g5 : decide (id < 0) = true := decide_eq_true (by omega)
    go_enter Try.func7, Try.ntmps7
    go_wp2
    go_ret
    exact Post.mk (Stp.refl _ _ _) rfl
  have g5 : decide (id < 0) = false := decide_eq_false (by omega)
  by_cases h6 : 2047 < id
  · have g6 : decide (2047 < id) = true := decide_eq_true (by omega)
    go_enter Try.func7, Try.ntmps7
    go_wp2
    go_ret
    exact Post.mk (Stp.refl _ _ _) rfl
  have g6 : decide (2047 < id) = false := decide_eq_false (by omega)
  by_cases h7 : other < 0
  · have g7 : decide (other < 0) = true := decide_eq_true (by omega)
    go_enter Try.func7, Try.ntmps7
    go_wp2
    go_ret
    exact Post.mk (Stp.refl _ _ _) rfl
  have g7 : decide (other < 0) = false := decide_eq_false (by omega)
  by_cases h8 : 2047 < other
  · have g8 : decide (2047 < other) = true := decide_eq_true (by omega)
    go_enter Try.func7, Try.ntmps7
    go_wp2
    go_ret
    exact Post.mk (Stp.refl _ _ _) rfl
  have g8 : decide (2047 < other) = false := decide_eq_false (by omega)
  by_cases h9 : id = other
  · have g9 : (id == other) = true := by simpa using h9
    go_enter Try.func7, Try.ntmps7
    go_wp2
    go_ret
    exact Post.mk (Stp.refl _ _ _) rfl
  have g9 : (id == other) = false := by simpa using h9
  have hEa : splitE id a = 0 := by rw [splitE, if_neg (by omega), if_neg h2]
  have hLa : splitL id a = splitF a := by rw [splitL, if_pos hEa]
  have hEb : splitE other b = 0 := by rw [splitE, if_neg (by omega), if_neg h4]
  have hLb : splitL other b = splitF b := by rw [splitL, if_pos hEb]
  have hla := nF_len a
  have hlb := nF_len b
  obtain ⟨na1, na2⟩ := nF_le a (by omega)
  obtain ⟨nb1, nb2⟩ := nF_le b (by omega)
  have hnext : ∀ (s : JS) (k : Nat) (q : List UInt8), k < nF a → s.f id = stM a k 5 → (splitF a)[k]? = some q → _ := fun s k q hk hf hq => take_next s id a k 5 5 (by omega) (by omega) hk hf (by omega) (by omega) q hq
  have hnextb : ∀ (s : JS) (k : Nat) (q : List UInt8), k < nF b → s.f other = stM b k 5 → (splitF b)[k]? = some q → _ := fun s k q hk hf hq => take_next s other b k 5 5 (by omega) (by omega) hk hf (by omega) (by omega) q hq
  obtain ⟨NX, hNX⟩ : ∃ NX, nF a = NX := ⟨_, rfl⟩
  obtain ⟨NY, hNY⟩ : ∃ NY, nF b = NY := ⟨_, rfl⟩
  have hne : id ≠ other := h9
  have hal : a.length ≤ 600 := by omega
  have hbl : b.length ≤ 600 := by omega
  have hsle : ∀ (m q : List UInt8), q ∈ splitF m → q.length ≤ 8 := splitF_le
  replace hsle := Lib.hid hsle
  rw [hNX] at hla na1 na2 hnext
  rw [hNY] at hlb nb1 nb2 hnextb
  replace hla := Lib.hid hla
  replace hlb := Lib.hid hlb
  replace hnext := Lib.hid hnext
  replace hnextb := Lib.hid hnextb
  replace hne := Lib.hid hne
  replace hLa := Lib.hid hLa
  replace hLb := Lib.hid hLb
  replace hNX := Lib.hid hNX
  replace hNY := Lib.hid hNY
  have e1 : ((NX : Int) == 0) = false := by simp; omega
  have e2 : ((NY : Int) == 0) = false := by simp; omega
  go_enter Try.func7, Try.ntmps7
  go_wp2_with fail
  refine (split_calls 0 0 id _ a _ _ ha.out).mono ?_
  rintro e w1 ⟨r, o1, rfl, s1, vx, rfl, fx⟩
  rw [hEa]
  rw [hLa.out] at fx
  have hb1 := hb.out.stp s1 (by simp)
  replace hb1 := Lib.hid hb1
  replace fx := Lib.hid fx
  replace s1 := Lib.hid s1
  go_wp2_with fail
  refine (split_calls 0 0 other _ b _ _ hb1.out).mono ?_
  rintro e w2 ⟨r, o2, rfl, s2, vy, rfl, fy⟩
  rw [hEb]
  rw [hLb.out] at fy
  replace fx := Lib.hid (fx.out.stp s2 (by simp))
  replace fy := Lib.hid fy
  replace s2 := Lib.hid (s1.out.trans s2)
  go_wp2_with fail
  refine (newJ_calls 1 w2 o2).mono ?_
  rintro e w3 ⟨r, o3, rfl, s3, pj, mb, rfl, j3⟩
  have fx3 := fx.out.stp s3 (by simp)
  have fy3 := fy.out.stp s3 (by simp)
  obtain ⟨Ax, cx, hvx, hcx, _, hfx⟩ := fx3
  obtain ⟨Ay, cy, hvy, hcy, _, hfy⟩ := fy3
  rw [List.length_map, hla.out] at hvx hcx
  rw [List.length_map, hlb.out] at hvy hcy
  subst hvx
  subst hvy
  replace hfx := Lib.hid hfx
  replace hfy := Lib.hid hfy
  replace s3 := Lib.hid (s2.out.trans s3)
  replace j3 := Lib.hid j3
  replace hEa := Lib.hid hEa
  replace hEb := Lib.hid hEb
  have hu := Lib.hid Try.underlying37
  clear fx fy s1 s2 hb1
  go_wp2_with fail
  go_loopw [16, 17, 18] (BkR w3 o3 pj mb id other a b) (fun x y _ _ => NX + NY - ((intOf x).toNat + (intOf y).toNat))
  case atStart => exact ⟨0, 0, o3, _, _, noJ, rfl, rfl, rfl, Nat.zero_le _, Nat.zero_le _, Stp.refl _ _ _, j3.out, noJ_ok, rfl, rfl, rfl, rfl⟩
  case round =>
    obtain ⟨p, q, o4, Q, V, s, rfl, rfl, rfl, hp, hq, hs, hj, hok, hfi, hfo, her, hct⟩ := hrel
    rw [hNX.out] at hp
    rw [hNY.out] at hq
    obtain ⟨i, hi⟩ : ∃ i, p + q = i := ⟨_, rfl⟩
    rw [hi]
    have st := Lib.hid (s3.out.none.trans hs)
    have l1 := one01_le (stM a p 5)
    have l2 := one01_le (stM b q 5)
    have bnd : s.err ≤ 900000 ∧ s.cnt ≤ 900000 := by omega
    have hi2 : (0 : Int) ≤ (i : Int) ∧ (i : Int) ≤ 300 := by omega
    have hp2 : (0 : Int) ≤ (p : Int) ∧ (p : Int) ≤ 100 := by omega
    have hq2 : (0 : Int) ≤ (q : Int) ∧ (q : Int) ≤ 100 := by omega
    have hi0 : (0 : Int) ≤ (i : Int) := by omega
    by_cases hdone : ¬ p < NX ∧ ¬ q < NY
    · have d1 : decide ((p : Int) < (NX : Int)) = false := decide_eq_false (by omega)
      have d2 : decide ((q : Int) < (NY : Int)) = false := decide_eq_false (by omega)
      have hct0 : s.cnt = 0 := by
        have x1 : stM a p 5 = none := by rw [stM, if_pos (.inr (by rw [hNX.out]; omega))]
        have x2 : stM b q 5 = none := by rw [stM, if_pos (.inr (by rw [hNY.out]; omega))]
        rw [hct, x1, x2]; rfl
      replace hs := Lib.hid hs
      go_wp2_with fail
      refine (errors_calls 1 pj mb Q V s wr o4 hj).mono ?_
      rintro e w5 ⟨rfl, rfl⟩
      rw [her]
      go_wp2_with fail
      refine (open_calls 1 pj mb Q V s wr o4 hj).mono ?_
      rintro e w5 ⟨rfl, rfl⟩
      rw [hct0]
      replace hj := Lib.hid hj
      go_wp2_with fail
      refine (known15_calls _ o4).mono ?_
      rintro e w9 ⟨r, o9, rfl, s9, rfl⟩
      replace st := Lib.hid (st.out.trans s9.none)
      clear s9
      go_wp2
      go_ret
      exact Post.mk (st.out.law (by simp)) rfl
    · have hturn : ¬ i < ts.length ∨ (i < ts.length ∧ (0 ≤ (i : Int) ∧ (i : Int) < (ts.length : Int)) ∧ ∃ ad B, At = some ad ∧ wr.cell? (ad.add i) = some (.bool B)) := by
        by_cases hlt : i < ts.length
        · obtain ⟨ad, e, hc⟩ := (ht.out.stp st.out (by simp)).get hlt
          exact .inr ⟨hlt, by omega, ad, _, e, hc⟩
        · exact .inl hlt
      replace hs := Lib.hid hs
      replace hj := Lib.hid hj
      replace hfi := Lib.hid hfi
      replace hfo := Lib.hid hfo
      replace hok := Lib.hid hok
      replace hct := Lib.hid hct
      replace her := Lib.hid her
      replace bnd := Lib.hid bnd
      replace hi := Lib.hid hi
      by_cases hq3 : q < NY
      · have d2 : decide ((q : Int) < (NY : Int)) = true := decide_eq_true (by omega)
        have d3 : decide ((NY : Int) ≤ (q : Int)) = false := decide_eq_false (by omega)
        by_cases hp3 : p < NX
        · have d1 : decide ((p : Int) < (NX : Int)) = true := decide_eq_true (by omega)
          rcases hturn with T1 | ⟨T1, T2, ad, B, rfl, T3⟩
          · have hqd : (splitF b)[q]? = some ((splitF b)[q]'(by rw [hlb.out]; omega)) := by simp
            obtain ⟨qd, hqe⟩ : ∃ qd, (splitF b)[q]'(by rw [hlb.out]; omega) = qd := ⟨_, rfl⟩
            rw [hqe] at hqd
            clear hqe
            have hq8 := hsle.out b qd (List.mem_of_getElem? hqd)
            obtain ⟨ax, vd, rfl, hax, c1, c2, hrd⟩ := hfy.out q (other, qd) (by rw [List.getElem?_map, hqd]; rfl)
            have k1 := Lib.hid (hs.out.cell c1 (by rw [add_block, hax]; simp))
            have k2 := Lib.hid (hs.out.cell c2 (by rw [add_block, hax]; simp))
            have k3 := Lib.hid (hrd.stp hs.out (by simp))
            clear c1 c2 hrd
            obtain ⟨t1, t2, t3, t4⟩ := hnextb.out s q qd (by omega) hfo.out hqd
            have ok6 := takeJ_ok hok.out other qd 5 (by decide) (by decide)
            obtain ⟨s6, hs6⟩ : ∃ s6, (takeJ s other qd 5).1 = s6 := ⟨_, rfl⟩
            rw [hs6] at t1 t2 t3 ok6
            have f6i : s6.f id = stM a p 5 := by rw [t1, upd_other _ _ hne.out]; exact hfi.out
            have f6o : s6.f other = stM b (q + 1) 5 := by rw [t1, upd_same]
            have ct6 : s6.cnt = one01 (stM a p 5) + one01 (stM b (q + 1) 5) := by
              have := hct.out
              unfold one01 at this ⊢
              rw [t3, this]
              split <;> split <;> split <;> omega
            have er6 : s6.err = 0 := by rw [t2]; exact her.out
            replace f6i := Lib.hid f6i
            replace f6o := Lib.hid f6o
            replace ct6 := Lib.hid ct6
            replace er6 := Lib.hid er6
            replace ok6 := Lib.hid ok6
            replace t4 := Lib.hid t4
            replace hs6 := Lib.hid hs6
            replace hqd := Lib.hid hqd
            clear t1 t2 t3
            go_wp2_with (refine holdAt 163 ?_)
            apply Hold.mk
            refine load_cells rfl _ _ rfl (ax.add (q * 2)) rfl [.int .i64 other, vd] _ (fun j u hj => ?_) hu.out rfl (by kernel_rfl) ?_
            · match j, hj with
              | 0, hj => injection hj with hj; subst hj; exact k1.out
              | 1, hj => injection hj with hj; subst hj; rw [add_add]; exact k2.out
            go_wp2_with fail
            refine (take_calls 1 0 pj mb Q V s other vd qd 5 _ _ hj.out hok.out hwo.out bnd.out.1 bnd.out.2 (by decide) (by decide) k3.out (by decide) (by omega)).mono ?_
            rw [t4.out]
            by_cases hend : q + 1 = NY
            · rw [if_pos hend]
              rintro e w6 ⟨r, o6, rfl, s7, v6, rfl, r6, Q6, V6, j6⟩
              rw [Option.getD_some] at r6
              rw [hs6.out] at j6
              obtain ⟨A6, c6, rfl, _, _⟩ := r6.shape
              have st6 := hs.out.trans s7
              have cv1 := convBS r6 rfl
              have cv2 := convBS (hb.out.stp (s3.out.none.trans st6) (by simp)) rfl
              have z9 : ((q : Int) + 1 == (NY : Int)) = true := by simp; omega
              replace hend := Lib.hid hend
              replace st6 := Lib.hid st6
              replace r6 := Lib.hid r6
              replace j6 := Lib.hid j6
              clear s7
              go_wp2
              go_roundw
              case rel => exact ⟨p, q + 1, o6, Q6, V6, s6, rfl, by go_num, by have := hi.out; go_num, by rw [hNX.out]; omega, by rw [hNY.out]; omega, st6.out, j6.out, ok6.out, f6i.out, f6o.out, er6.out, ct6.out⟩
              case measure => simp [intOf]; have := hi.out; omega
            · rw [if_neg hend]
              rintro e w6 ⟨r, o6, rfl, s7, v6, rfl, r6, Q6, V6, j6⟩
              rw [hs6.out] at j6
              obtain ⟨A6, c6, rfl, _, _⟩ := r6.shape
              have st6 := hs.out.trans s7
              have z9 : ((q : Int) + 1 == (NY : Int)) = false := by simp; omega
              replace hend := Lib.hid hend
              replace st6 := Lib.hid st6
              replace r6 := Lib.hid r6
              replace j6 := Lib.hid j6
              clear s7
              go_wp2
              go_roundw
              case rel => exact ⟨p, q + 1, o6, Q6, V6, s6, rfl, by go_num, by have := hi.out; go_num, by rw [hNX.out]; omega, by rw [hNY.out]; omega, st6.out, j6.out, ok6.out, f6i.out, f6o.out, er6.out, ct6.out⟩
              case measure => simp [intOf]; have := hi.out; omega
          · cases B
            · have hqd : (splitF b)[q]? = some ((splitF b)[q]'(by rw [hlb.out]; omega)) := by simp
              obtain ⟨qd, hqe⟩ : ∃ qd, (splitF b)[q]'(by rw [hlb.out]; omega) = qd := ⟨_, rfl⟩
              rw [hqe] at hqd
              clear hqe
              have hq8 := hsle.out b qd (List.mem_of_getElem? hqd)
              obtain ⟨ax, vd, rfl, hax, c1, c2, hrd⟩ := hfy.out q (other, qd) (by rw [List.getElem?_map, hqd]; rfl)
              have k1 := Lib.hid (hs.out.cell c1 (by rw [add_block, hax]; simp))
              have k2 := Lib.hid (hs.out.cell c2 (by rw [add_block, hax]; simp))
              have k3 := Lib.hid (hrd.stp hs.out (by simp))
              clear c1 c2 hrd
              obtain ⟨t1, t2, t3, t4⟩ := hnextb.out s q qd (by omega) hfo.out hqd
              have ok6 := takeJ_ok hok.out other qd 5 (by decide) (by decide)
              obtain ⟨s6, hs6⟩ : ∃ s6, (takeJ s other qd 5).1 = s6 := ⟨_, rfl⟩
              rw [hs6] at t1 t2 t3 ok6
              have f6i : s6.f id = stM a p 5 := by rw [t1, upd_other _ _ hne.out]; exact hfi.out
              have f6o : s6.f other = stM b (q + 1) 5 := by rw [t1, upd_same]
              have ct6 : s6.cnt = one01 (stM a p 5) + one01 (stM b (q + 1) 5) := by
                have := hct.out
                unfold one01 at this ⊢
                rw [t3, this]
                split <;> split <;> split <;> omega
              have er6 : s6.err = 0 := by rw [t2]; exact her.out
              replace f6i := Lib.hid f6i
              replace f6o := Lib.hid f6o
              replace ct6 := Lib.hid ct6
              replace er6 := Lib.hid er6
              replace ok6 := Lib.hid ok6
              replace t4 := Lib.hid t4
              replace hs6 := Lib.hid hs6
              replace hqd := Lib.hid hqd
              clear t1 t2 t3
              go_wp2_with (refine holdAt 163 ?_)
              apply Hold.mk
              refine load_cells rfl _ _ rfl (ax.add (q * 2)) rfl [.int .i64 other, vd] _ (fun j u hj => ?_) hu.out rfl (by kernel_rfl) ?_
              · match j, hj with
                | 0, hj => injection hj with hj; subst hj; exact k1.out
                | 1, hj => injection hj with hj; subst hj; rw [add_add]; exact k2.out
              go_wp2_with fail
              refine (take_calls 1 0 pj mb Q V s other vd qd 5 _ _ hj.out hok.out hwo.out bnd.out.1 bnd.out.2 (by decide) (by decide) k3.out (by decide) (by omega)).mono ?_
              rw [t4.out]
              by_cases hend : q + 1 = NY
              · rw [if_pos hend]
                rintro e w6 ⟨r, o6, rfl, s7, v6, rfl, r6, Q6, V6, j6⟩
                rw [Option.getD_some] at r6
                rw [hs6.out] at j6
                obtain ⟨A6, c6, rfl, _, _⟩ := r6.shape
                have st6 := hs.out.trans s7
                have cv1 := convBS r6 rfl
                have cv2 := convBS (hb.out.stp (s3.out.none.trans st6) (by simp)) rfl
                have z9 : ((q : Int) + 1 == (NY : Int)) = true := by simp; omega
                replace hend := Lib.hid hend
                replace st6 := Lib.hid st6
                replace r6 := Lib.hid r6
                replace j6 := Lib.hid j6
                clear s7
                go_wp2
                go_roundw
                case rel => exact ⟨p, q + 1, o6, Q6, V6, s6, rfl, by go_num, by have := hi.out; go_num, by rw [hNX.out]; omega, by rw [hNY.out]; omega, st6.out, j6.out, ok6.out, f6i.out, f6o.out, er6.out, ct6.out⟩
                case measure => simp [intOf]; have := hi.out; omega
              · rw [if_neg hend]
                rintro e w6 ⟨r, o6, rfl, s7, v6, rfl, r6, Q6, V6, j6⟩
                rw [hs6.out] at j6
                obtain ⟨A6, c6, rfl, _, _⟩ := r6.shape
                have st6 := hs.out.trans s7
                have z9 : ((q : Int) + 1 == (NY : Int)) = false := by simp; omega
                replace hend := Lib.hid hend
                replace st6 := Lib.hid st6
                replace r6 := Lib.hid r6
                replace j6 := Lib.hid j6
                clear s7
                go_wp2
                go_roundw
                case rel => exact ⟨p, q + 1, o6, Q6, V6, s6, rfl, by go_num, by have := hi.out; go_num, by rw [hNX.out]; omega, by rw [hNY.out]; omega, st6.out, j6.out, ok6.out, f6i.out, f6o.out, er6.out, ct6.out⟩
                case measure => simp [intOf]; have := hi.out; omega
            · have hqd : (splitF a)[p]? = some ((splitF a)[p]'(by rw [hla.out]; omega)) := by simp
              obtain ⟨qd, hqe⟩ : ∃ qd, (splitF a)[p]'(by rw [hla.out]; omega) = qd := ⟨_, rfl⟩
              rw [hqe] at hqd
              clear hqe
              have hq8 := hsle.out a qd (List.mem_of_getElem? hqd)
              obtain ⟨ax, vd, rfl, hax, c1, c2, hrd⟩ := hfx.out p (id, qd) (by rw [List.getElem?_map, hqd]; rfl)
              have k1 := Lib.hid (hs.out.cell c1 (by rw [add_block, hax]; simp))
              have k2 := Lib.hid (hs.out.cell c2 (by rw [add_block, hax]; simp))
              have k3 := Lib.hid (hrd.stp hs.out (by simp))
              clear c1 c2 hrd
              obtain ⟨t1, t2, t3, t4⟩ := hnext.out s p qd (by omega) hfi.out hqd
              have ok6 := takeJ_ok hok.out id qd 5 (by decide) (by decide)
              obtain ⟨s6, hs6⟩ : ∃ s6, (takeJ s id qd 5).1 = s6 := ⟨_, rfl⟩
              rw [hs6] at t1 t2 t3 ok6
              have f6i : s6.f id = stM a (p + 1) 5 := by rw [t1, upd_same]
              have f6o : s6.f other = stM b q 5 := by rw [t1, upd_other _ _ (Ne.symm hne.out)]; exact hfo.out
              have ct6 : s6.cnt = one01 (stM a (p + 1) 5) + one01 (stM b q 5) := by
                have := hct.out
                unfold one01 at this ⊢
                rw [t3, this]
                split <;> split <;> split <;> omega
              have er6 : s6.err = 0 := by rw [t2]; exact her.out
              replace f6i := Lib.hid f6i
              replace f6o := Lib.hid f6o
              replace ct6 := Lib.hid ct6
              replace er6 := Lib.hid er6
              replace ok6 := Lib.hid ok6
              replace t4 := Lib.hid t4
              replace hs6 := Lib.hid hs6
              replace hqd := Lib.hid hqd
              clear t1 t2 t3
              go_wp2_with (refine holdAt 136 ?_)
              apply Hold.mk
              refine load_cells rfl _ _ rfl (ax.add (p * 2)) rfl [.int .i64 id, vd] _ (fun j u hj => ?_) hu.out rfl (by kernel_rfl) ?_
              · match j, hj with
                | 0, hj => injection hj with hj; subst hj; exact k1.out
                | 1, hj => injection hj with hj; subst hj; rw [add_add]; exact k2.out
              go_wp2_with fail
              refine (take_calls 1 0 pj mb Q V s id vd qd 5 _ _ hj.out hok.out hwi.out bnd.out.1 bnd.out.2 (by decide) (by decide) k3.out (by decide) (by omega)).mono ?_
              rw [t4.out]
              by_cases hend : p + 1 = NX
              · rw [if_pos hend]
                rintro e w6 ⟨r, o6, rfl, s7, v6, rfl, r6, Q6, V6, j6⟩
                rw [Option.getD_some] at r6
                rw [hs6.out] at j6
                obtain ⟨A6, c6, rfl, _, _⟩ := r6.shape
                have st6 := hs.out.trans s7
                have cv1 := convBS r6 rfl
                have cv2 := convBS (ha.out.stp (s3.out.none.trans st6) (by simp)) rfl
                have z9 : ((p : Int) + 1 == (NX : Int)) = true := by simp; omega
                replace hend := Lib.hid hend
                replace st6 := Lib.hid st6
                replace r6 := Lib.hid r6
                replace j6 := Lib.hid j6
                clear s7
                go_wp2
                go_roundw
                case rel => exact ⟨p + 1, q, o6, Q6, V6, s6, by go_num, rfl, by have := hi.out; go_num, by rw [hNX.out]; omega, by rw [hNY.out]; omega, st6.out, j6.out, ok6.out, f6i.out, f6o.out, er6.out, ct6.out⟩
                case measure => simp [intOf]; have := hi.out; omega
              · rw [if_neg hend]
                rintro e w6 ⟨r, o6, rfl, s7, v6, rfl, r6, Q6, V6, j6⟩
                rw [hs6.out] at j6
                obtain ⟨A6, c6, rfl, _, _⟩ := r6.shape
                have st6 := hs.out.trans s7
                have z9 : ((p : Int) + 1 == (NX : Int)) = false := by simp; omega
                replace hend := Lib.hid hend
                replace st6 := Lib.hid st6
                replace r6 := Lib.hid r6
                replace j6 := Lib.hid j6
                clear s7
                go_wp2
                go_roundw
                case rel => exact ⟨p + 1, q, o6, Q6, V6, s6, by go_num, rfl, by have := hi.out; go_num, by rw [hNX.out]; omega, by rw [hNY.out]; omega, st6.out, j6.out, ok6.out, f6i.out, f6o.out, er6.out, ct6.out⟩
                case measure => simp [intOf]; have := hi.out; omega
        · have d1 : decide ((p : Int) < (NX : Int)) = false := decide_eq_false (by omega)
          rcases hturn with T1 | ⟨T1, T2, ad, B, rfl, T3⟩
          · have hqd : (splitF b)[q]? = some ((splitF b)[q]'(by rw [hlb.out]; omega)) := by simp
            obtain ⟨qd, hqe⟩ : ∃ qd, (splitF b)[q]'(by rw [hlb.out]; omega) = qd := ⟨_, rfl⟩
            rw [hqe] at hqd
            clear hqe
            have hq8 := hsle.out b qd (List.mem_of_getElem? hqd)
            obtain ⟨ax, vd, rfl, hax, c1, c2, hrd⟩ := hfy.out q (other, qd) (by rw [List.getElem?_map, hqd]; rfl)
            have k1 := Lib.hid (hs.out.cell c1 (by rw [add_block, hax]; simp))
            have k2 := Lib.hid (hs.out.cell c2 (by rw [add_block, hax]; simp))
            have k3 := Lib.hid (hrd.stp hs.out (by simp))
            clear c1 c2 hrd
            obtain ⟨t1, t2, t3, t4⟩ := hnextb.out s q qd (by omega) hfo.out hqd
            have ok6 := takeJ_ok hok.out other qd 5 (by decide) (by decide)
            obtain ⟨s6, hs6⟩ : ∃ s6, (takeJ s other qd 5).1 = s6 := ⟨_, rfl⟩
            rw [hs6] at t1 t2 t3 ok6
            have f6i : s6.f id = stM a p 5 := by rw [t1, upd_other _ _ hne.out]; exact hfi.out
            have f6o : s6.f other = stM b (q + 1) 5 := by rw [t1, upd_same]
            have ct6 : s6.cnt = one01 (stM a p 5) + one01 (stM b (q + 1) 5) := by
              have := hct.out
              unfold one01 at this ⊢
              rw [t3, this]
              split <;> split <;> split <;> omega
            have er6 : s6.err = 0 := by rw [t2]; exact her.out
            replace f6i := Lib.hid f6i
            replace f6o := Lib.hid f6o
            replace ct6 := Lib.hid ct6
            replace er6 := Lib.hid er6
            replace ok6 := Lib.hid ok6
            replace t4 := Lib.hid t4
            replace hs6 := Lib.hid hs6
            replace hqd := Lib.hid hqd
            clear t1 t2 t3
            go_wp2_with (refine holdAt 163 ?_)
            apply Hold.mk
            refine load_cells rfl _ _ rfl (ax.add (q * 2)) rfl [.int .i64 other, vd] _ (fun j u hj => ?_) hu.out rfl (by kernel_rfl) ?_
            · match j, hj with
              | 0, hj => injection hj with hj; subst hj; exact k1.out
              | 1, hj => injection hj with hj; subst hj; rw [add_add]; exact k2.out
            go_wp2_with fail
            refine (take_calls 1 0 pj mb Q V s other vd qd 5 _ _ hj.out hok.out hwo.out bnd.out.1 bnd.out.2 (by decide) (by decide) k3.out (by decide) (by omega)).mono ?_
            rw [t4.out]
            by_cases hend : q + 1 = NY
            · rw [if_pos hend]
              rintro e w6 ⟨r, o6, rfl, s7, v6, rfl, r6, Q6, V6, j6⟩
              rw [Option.getD_some] at r6
              rw [hs6.out] at j6
              obtain ⟨A6, c6, rfl, _, _⟩ := r6.shape
              have st6 := hs.out.trans s7
              have cv1 := convBS r6 rfl
              have cv2 := convBS (hb.out.stp (s3.out.none.trans st6) (by simp)) rfl
              have z9 : ((q : Int) + 1 == (NY : Int)) = true := by simp; omega
              replace hend := Lib.hid hend
              replace st6 := Lib.hid st6
              replace r6 := Lib.hid r6
              replace j6 := Lib.hid j6
              clear s7
              go_wp2
              go_roundw
              case rel => exact ⟨p, q + 1, o6, Q6, V6, s6, rfl, by go_num, by have := hi.out; go_num, by rw [hNX.out]; omega, by rw [hNY.out]; omega, st6.out, j6.out, ok6.out, f6i.out, f6o.out, er6.out, ct6.out⟩
              case measure => simp [intOf]; have := hi.out; omega
            · rw [if_neg hend]
              rintro e w6 ⟨r, o6, rfl, s7, v6, rfl, r6, Q6, V6, j6⟩
              rw [hs6.out] at j6
              obtain ⟨A6, c6, rfl, _, _⟩ := r6.shape
              have st6 := hs.out.trans s7
              have z9 : ((q : Int) + 1 == (NY : Int)) = false := by simp; omega
              replace hend := Lib.hid hend
              replace st6 := Lib.hid st6
              replace r6 := Lib.hid r6
              replace j6 := Lib.hid j6
              clear s7
              go_wp2
              go_roundw
              case rel => exact ⟨p, q + 1, o6, Q6, V6, s6, rfl, by go_num, by have := hi.out; go_num, by rw [hNX.out]; omega, by rw [hNY.out]; omega, st6.out, j6.out, ok6.out, f6i.out, f6o.out, er6.out, ct6.out⟩
              case measure => simp [intOf]; have := hi.out; omega
          · cases B
            · have hqd : (splitF b)[q]? = some ((splitF b)[q]'(by rw [hlb.out]; omega)) := by simp
              obtain ⟨qd, hqe⟩ : ∃ qd, (splitF b)[q]'(by rw [hlb.out]; omega) = qd := ⟨_, rfl⟩
              rw [hqe] at hqd
              clear hqe
              have hq8 := hsle.out b qd (List.mem_of_getElem? hqd)
              obtain ⟨ax, vd, rfl, hax, c1, c2, hrd⟩ := hfy.out q (other, qd) (by rw [List.getElem?_map, hqd]; rfl)
              have k1 := Lib.hid (hs.out.cell c1 (by rw [add_block, hax]; simp))
              have k2 := Lib.hid (hs.out.cell c2 (by rw [add_block, hax]; simp))
              have k3 := Lib.hid (hrd.stp hs.out (by simp))
              clear c1 c2 hrd
              obtain ⟨t1, t2, t3, t4⟩ := hnextb.out s q qd (by omega) hfo.out hqd
              have ok6 := takeJ_ok hok.out other qd 5 (by decide) (by decide)
              obtain ⟨s6, hs6⟩ : ∃ s6, (takeJ s other qd 5).1 = s6 := ⟨_, rfl⟩
              rw [hs6] at t1 t2 t3 ok6
              have f6i : s6.f id = stM a p 5 := by rw [t1, upd_other _ _ hne.out]; exact hfi.out
              have f6o : s6.f other = stM b (q + 1) 5 := by rw [t1, upd_same]
              have ct6 : s6.cnt = one01 (stM a p 5) + one01 (stM b (q + 1) 5) := by
                have := hct.out
                unfold one01 at this ⊢
                rw [t3, this]
                split <;> split <;> split <;> omega
              have er6 : s6.err = 0 := by rw [t2]; exact her.out
              replace f6i := Lib.hid f6i
              replace f6o := Lib.hid f6o
              replace ct6 := Lib.hid ct6
              replace er6 := Lib.hid er6
              replace ok6 := Lib.hid ok6
              replace t4 := Lib.hid t4
              replace hs6 := Lib.hid hs6
              replace hqd := Lib.hid hqd
              clear t1 t2 t3
              go_wp2_with (refine holdAt 163 ?_)
              apply Hold.mk
              refine load_cells rfl _ _ rfl (ax.add (q * 2)) rfl [.int .i64 other, vd] _ (fun j u hj => ?_) hu.out rfl (by kernel_rfl) ?_
              · match j, hj with
                | 0, hj => injection hj with hj; subst hj; exact k1.out
                | 1, hj => injection hj with hj; subst hj; rw [add_add]; exact k2.out
              go_wp2_with fail
              refine (take_calls 1 0 pj mb Q V s other vd qd 5 _ _ hj.out hok.out hwo.out bnd.out.1 bnd.out.2 (by decide) (by decide) k3.out (by decide) (by omega)).mono ?_
              rw [t4.out]
              by_cases hend : q + 1 = NY
              · rw [if_pos hend]
                rintro e w6 ⟨r, o6, rfl, s7, v6, rfl, r6, Q6, V6, j6⟩
                rw [Option.getD_some] at r6
                rw [hs6.out] at j6
                obtain ⟨A6, c6, rfl, _, _⟩ := r6.shape
                have st6 := hs.out.trans s7
                have cv1 := convBS r6 rfl
                have cv2 := convBS (hb.out.stp (s3.out.none.trans st6) (by simp)) rfl
                have z9 : ((q : Int) + 1 == (NY : Int)) = true := by simp; omega
                replace hend := Lib.hid hend
                replace st6 := Lib.hid st6
                replace r6 := Lib.hid r6
                replace j6 := Lib.hid j6
                clear s7
                go_wp2
                go_roundw
                case rel => exact ⟨p, q + 1, o6, Q6, V6, s6, rfl, by go_num, by have := hi.out; go_num, by rw [hNX.out]; omega, by rw [hNY.out]; omega, st6.out, j6.out, ok6.out, f6i.out, f6o.out, er6.out, ct6.out⟩
                case measure => simp [intOf]; have := hi.out; omega
              · rw [if_neg hend]
                rintro e w6 ⟨r, o6, rfl, s7, v6, rfl, r6, Q6, V6, j6⟩
                rw [hs6.out] at j6
                obtain ⟨A6, c6, rfl, _, _⟩ := r6.shape
                have st6 := hs.out.trans s7
                have z9 : ((q : Int) + 1 == (NY : Int)) = false := by simp; omega
                replace hend := Lib.hid hend
                replace st6 := Lib.hid st6
                replace r6 := Lib.hid r6
                replace j6 := Lib.hid j6
                clear s7
                go_wp2
                go_roundw
                case rel => exact ⟨p, q + 1, o6, Q6, V6, s6, rfl, by go_num, by have := hi.out; go_num, by rw [hNX.out]; omega, by rw [hNY.out]; omega, st6.out, j6.out, ok6.out, f6i.out, f6o.out, er6.out, ct6.out⟩
                case measure => simp [intOf]; have := hi.out; omega
            · have hqd : (splitF b)[q]? = some ((splitF b)[q]'(by rw [hlb.out]; omega)) := by simp
              obtain ⟨qd, hqe⟩ : ∃ qd, (splitF b)[q]'(by rw [hlb.out]; omega) = qd := ⟨_, rfl⟩
              rw [hqe] at hqd
              clear hqe
              have hq8 := hsle.out b qd (List.mem_of_getElem? hqd)
              obtain ⟨ax, vd, rfl, hax, c1, c2, hrd⟩ := hfy.out q (other, qd) (by rw [List.getElem?_map, hqd]; rfl)
              have k1 := Lib.hid (hs.out.cell c1 (by rw [add_block, hax]; simp))
              have k2 := Lib.hid (hs.out.cell c2 (by rw [add_block, hax]; simp))
              have k3 := Lib.hid (hrd.stp hs.out (by simp))
              clear c1 c2 hrd
              obtain ⟨t1, t2, t3, t4⟩ := hnextb.out s q qd (by omega) hfo.out hqd
              have ok6 := takeJ_ok hok.out other qd 5 (by decide) (by decide)
              obtain ⟨s6, hs6⟩ : ∃ s6, (takeJ s other qd 5).1 = s6 := ⟨_, rfl⟩
              rw [hs6] at t1 t2 t3 ok6
              have f6i : s6.f id = stM a p 5 := by rw [t1, upd_other _ _ hne.out]; exact hfi.out
              have f6o : s6.f other = stM b (q + 1) 5 := by rw [t1, upd_same]
              have ct6 : s6.cnt = one01 (stM a p 5) + one01 (stM b (q + 1) 5) := by
                have := hct.out
                unfold one01 at this ⊢
                rw [t3, this]
                split <;> split <;> split <;> omega
              have er6 : s6.err = 0 := by rw [t2]; exact her.out
              replace f6i := Lib.hid f6i
              replace f6o := Lib.hid f6o
              replace ct6 := Lib.hid ct6
              replace er6 := Lib.hid er6
              replace ok6 := Lib.hid ok6
              replace t4 := Lib.hid t4
              replace hs6 := Lib.hid hs6
              replace hqd := Lib.hid hqd
              clear t1 t2 t3
              go_wp2_with (refine holdAt 163 ?_)
              apply Hold.mk
              refine load_cells rfl _ _ rfl (ax.add (q * 2)) rfl [.int .i64 other, vd] _ (fun j u hj => ?_) hu.out rfl (by kernel_rfl) ?_
              · match j, hj with
                | 0, hj => injection hj with hj; subst hj; exact k1.out
                | 1, hj => injection hj with hj; subst hj; rw [add_add]; exact k2.out
              go_wp2_with fail
              refine (take_calls 1 0 pj mb Q V s other vd qd 5 _ _ hj.out hok.out hwo.out bnd.out.1 bnd.out.2 (by decide) (by decide) k3.out (by decide) (by omega)).mono ?_
              rw [t4.out]
              by_cases hend : q + 1 = NY
              · rw [if_pos hend]
                rintro e w6 ⟨r, o6, rfl, s7, v6, rfl, r6, Q6, V6, j6⟩
                rw [Option.getD_some] at r6
                rw [hs6.out] at j6
                obtain ⟨A6, c6, rfl, _, _⟩ := r6.shape
                have st6 := hs.out.trans s7
                have cv1 := convBS r6 rfl
                have cv2 := convBS (hb.out.stp (s3.out.none.trans st6) (by simp)) rfl
                have z9 : ((q : Int) + 1 == (NY : Int)) = true := by simp; omega
                replace hend := Lib.hid hend
                replace st6 := Lib.hid st6
                replace r6 := Lib.hid r6
                replace j6 := Lib.hid j6
                clear s7
                go_wp2
                go_roundw
                case rel => exact ⟨p, q + 1, o6, Q6, V6, s6, rfl, by go_num, by have := hi.out; go_num, by rw [hNX.out]; omega, by rw [hNY.out]; omega, st6.out, j6.out, ok6.out, f6i.out, f6o.out, er6.out, ct6.out⟩
                case measure => simp [intOf]; have := hi.out; omega
              · rw [if_neg hend]
                rintro e w6 ⟨r, o6, rfl, s7, v6, rfl, r6, Q6, V6, j6⟩
                rw [hs6.out] at j6
                obtain ⟨A6, c6, rfl, _, _⟩ := r6.shape
                have st6 := hs.out.trans s7
                have z9 : ((q : Int) + 1 == (NY : Int)) = false := by simp; omega
                replace hend := Lib.hid hend
                replace st6 := Lib.hid st6
                replace r6 := Lib.hid r6
                replace j6 := Lib.hid j6
                clear s7
                go_wp2
                go_roundw
                case rel => exact ⟨p, q + 1, o6, Q6, V6, s6, rfl, by go_num, by have := hi.out; go_num, by rw [hNX.out]; omega, by rw [hNY.out]; omega, st6.out, j6.out, ok6.out, f6i.out, f6o.out, er6.out, ct6.out⟩
                case measure => simp [intOf]; have := hi.out; omega
      · have d2 : decide ((q : Int) < (NY : Int)) = false := decide_eq_false (by omega)
        have d3 : decide ((NY : Int) ≤ (q : Int)) = true := decide_eq_true (by omega)
        have hp3 : p < NX := by omega
        have d1 : decide ((p : Int) < (NX : Int)) = true := decide_eq_true (by omega)
        rcases hturn with T1 | ⟨T1, T2, ad, B, rfl, T3⟩
        · have hqd : (splitF a)[p]? = some ((splitF a)[p]'(by rw [hla.out]; omega)) := by simp
          obtain ⟨qd, hqe⟩ : ∃ qd, (splitF a)[p]'(by rw [hla.out]; omega) = qd := ⟨_, rfl⟩
          rw [hqe] at hqd
          clear hqe
          have hq8 := hsle.out a qd (List.mem_of_getElem? hqd)
          obtain ⟨ax, vd, rfl, hax, c1, c2, hrd⟩ := hfx.out p (id, qd) (by rw [List.getElem?_map, hqd]; rfl)
          have k1 := Lib.hid (hs.out.cell c1 (by rw [add_block, hax]; simp))
          have k2 := Lib.hid (hs.out.cell c2 (by rw [add_block, hax]; simp))
          have k3 := Lib.hid (hrd.stp hs.out (by simp))
          clear c1 c2 hrd
          obtain ⟨t1, t2, t3, t4⟩ := hnext.out s p qd (by omega) hfi.out hqd
          have ok6 := takeJ_ok hok.out id qd 5 (by decide) (by decide)
          obtain ⟨s6, hs6⟩ : ∃ s6, (takeJ s id qd 5).1 = s6 := ⟨_, rfl⟩
          rw [hs6] at t1 t2 t3 ok6
          have f6i : s6.f id = stM a (p + 1) 5 := by rw [t1, upd_same]
          have f6o : s6.f other = stM b q 5 := by rw [t1, upd_other _ _ (Ne.symm hne.out)]; exact hfo.out
          have ct6 : s6.cnt = one01 (stM a (p + 1) 5) + one01 (stM b q 5) := by
            have := hct.out
            unfold one01 at this ⊢
            rw [t3, this]
            split <;> split <;> split <;> omega
          have er6 : s6.err = 0 := by rw [t2]; exact her.out
          replace f6i := Lib.hid f6i
          replace f6o := Lib.hid f6o
          replace ct6 := Lib.hid ct6
          replace er6 := Lib.hid er6
          replace ok6 := Lib.hid ok6
          replace t4 := Lib.hid t4
          replace hs6 := Lib.hid hs6
          replace hqd := Lib.hid hqd
          clear t1 t2 t3
          go_wp2_with (refine holdAt 136 ?_)
          apply Hold.mk
          refine load_cells rfl _ _ rfl (ax.add (p * 2)) rfl [.int .i64 id, vd] _ (fun j u hj => ?_) hu.out rfl (by kernel_rfl) ?_
          · match j, hj with
            | 0, hj => injection hj with hj; subst hj; exact k1.out
            | 1, hj => injection hj with hj; subst hj; rw [add_add]; exact k2.out
          go_wp2_with fail
          refine (take_calls 1 0 pj mb Q V s id vd qd 5 _ _ hj.out hok.out hwi.out bnd.out.1 bnd.out.2 (by decide) (by decide) k3.out (by decide) (by omega)).mono ?_
          rw [t4.out]
          by_cases hend : p + 1 = NX
          · rw [if_pos hend]
            rintro e w6 ⟨r, o6, rfl, s7, v6, rfl, r6, Q6, V6, j6⟩
            rw [Option.getD_some] at r6
            rw [hs6.out] at j6
            obtain ⟨A6, c6, rfl, _, _⟩ := r6.shape
            have st6 := hs.out.trans s7
            have cv1 := convBS r6 rfl
            have cv2 := convBS (ha.out.stp (s3.out.none.trans st6) (by simp)) rfl
            have z9 : ((p : Int) + 1 == (NX : Int)) = true := by simp; omega
            replace hend := Lib.hid hend
            replace st6 := Lib.hid st6
            replace r6 := Lib.hid r6
            replace j6 := Lib.hid j6
            clear s7
            go_wp2
            go_roundw
            case rel => exact ⟨p + 1, q, o6, Q6, V6, s6, by go_num, rfl, by have := hi.out; go_num, by rw [hNX.out]; omega, by rw [hNY.out]; omega, st6.out, j6.out, ok6.out, f6i.out, f6o.out, er6.out, ct6.out⟩
            case measure => simp [intOf]; have := hi.out; omega
          · rw [if_neg hend]
            rintro e w6 ⟨r, o6, rfl, s7, v6, rfl, r6, Q6, V6, j6⟩
            rw [hs6.out] at j6
            obtain ⟨A6, c6, rfl, _, _⟩ := r6.shape
            have st6 := hs.out.trans s7
            have z9 : ((p : Int) + 1 == (NX : Int)) = false := by simp; omega
            replace hend := Lib.hid hend
            replace st6 := Lib.hid st6
            replace r6 := Lib.hid r6
            replace j6 := Lib.hid j6
            clear s7
            go_wp2
            go_roundw
            case rel => exact ⟨p + 1, q, o6, Q6, V6, s6, by go_num, rfl, by have := hi.out; go_num, by rw [hNX.out]; omega, by rw [hNY.out]; omega, st6.out, j6.out, ok6.out, f6i.out, f6o.out, er6.out, ct6.out⟩
            case measure => simp [intOf]; have := hi.out; omega
        · cases B
          · have hqd : (splitF a)[p]? = some ((splitF a)[p]'(by rw [hla.out]; omega)) := by simp
            obtain ⟨qd, hqe⟩ : ∃ qd, (splitF a)[p]'(by rw [hla.out]; omega) = qd := ⟨_, rfl⟩
            rw [hqe] at hqd
            clear hqe
            have hq8 := hsle.out a qd (List.mem_of_getElem? hqd)
            obtain ⟨ax, vd, rfl, hax, c1, c2, hrd⟩ := hfx.out p (id, qd) (by rw [List.getElem?_map, hqd]; rfl)
            have k1 := Lib.hid (hs.out.cell c1 (by rw [add_block, hax]; simp))
            have k2 := Lib.hid (hs.out.cell c2 (by rw [add_block, hax]; simp))
            have k3 := Lib.hid (hrd.stp hs.out (by simp))
            clear c1 c2 hrd
            obtain ⟨t1, t2, t3, t4⟩ := hnext.out s p qd (by omega) hfi.out hqd
            have ok6 := takeJ_ok hok.out id qd 5 (by decide) (by decide)
            obtain ⟨s6, hs6⟩ : ∃ s6, (takeJ s id qd 5).1 = s6 := ⟨_, rfl⟩
            rw [hs6] at t1 t2 t3 ok6
            have f6i : s6.f id = stM a (p + 1) 5 := by rw [t1, upd_same]
            have f6o : s6.f other = stM b q 5 := by rw [t1, upd_other _ _ (Ne.symm hne.out)]; exact hfo.out
            have ct6 : s6.cnt = one01 (stM a (p + 1) 5) + one01 (stM b q 5) := by
              have := hct.out
              unfold one01 at this ⊢
              rw [t3, this]
              split <;> split <;> split <;> omega
            have er6 : s6.err = 0 := by rw [t2]; exact her.out
            replace f6i := Lib.hid f6i
            replace f6o := Lib.hid f6o
            replace ct6 := Lib.hid ct6
            replace er6 := Lib.hid er6
            replace ok6 := Lib.hid ok6
            replace t4 := Lib.hid t4
            replace hs6 := Lib.hid hs6
            replace hqd := Lib.hid hqd
            clear t1 t2 t3
            go_wp2_with (refine holdAt 136 ?_)
            apply Hold.mk
            refine load_cells rfl _ _ rfl (ax.add (p * 2)) rfl [.int .i64 id, vd] _ (fun j u hj => ?_) hu.out rfl (by kernel_rfl) ?_
            · match j, hj with
              | 0, hj => injection hj with hj; subst hj; exact k1.out
              | 1, hj => injection hj with hj; subst hj; rw [add_add]; exact k2.out
            go_wp2_with fail
            refine (take_calls 1 0 pj mb Q V s id vd qd 5 _ _ hj.out hok.out hwi.out bnd.out.1 bnd.out.2 (by decide) (by decide) k3.out (by decide) (by omega)).mono ?_
            rw [t4.out]
            by_cases hend : p + 1 = NX
            · rw [if_pos hend]
              rintro e w6 ⟨r, o6, rfl, s7, v6, rfl, r6, Q6, V6, j6⟩
              rw [Option.getD_some] at r6
              rw [hs6.out] at j6
              obtain ⟨A6, c6, rfl, _, _⟩ := r6.shape
              have st6 := hs.out.trans s7
              have cv1 := convBS r6 rfl
              have cv2 := convBS (ha.out.stp (s3.out.none.trans st6) (by simp)) rfl
              have z9 : ((p : Int) + 1 == (NX : Int)) = true := by simp; omega
              replace hend := Lib.hid hend
              replace st6 := Lib.hid st6
              replace r6 := Lib.hid r6
              replace j6 := Lib.hid j6
              clear s7
              go_wp2
              go_roundw
              case rel => exact ⟨p + 1, q, o6, Q6, V6, s6, by go_num, rfl, by have := hi.out; go_num, by rw [hNX.out]; omega, by rw [hNY.out]; omega, st6.out, j6.out, ok6.out, f6i.out, f6o.out, er6.out, ct6.out⟩
              case measure => simp [intOf]; have := hi.out; omega
            · rw [if_neg hend]
              rintro e w6 ⟨r, o6, rfl, s7, v6, rfl, r6, Q6, V6, j6⟩
              rw [hs6.out] at j6
              obtain ⟨A6, c6, rfl, _, _⟩ := r6.shape
              have st6 := hs.out.trans s7
              have z9 : ((p : Int) + 1 == (NX : Int)) = false := by simp; omega
              replace hend := Lib.hid hend
              replace st6 := Lib.hid st6
              replace r6 := Lib.hid r6
              replace j6 := Lib.hid j6
              clear s7
              go_wp2
              go_roundw
              case rel => exact ⟨p + 1, q, o6, Q6, V6, s6, by go_num, rfl, by have := hi.out; go_num, by rw [hNX.out]; omega, by rw [hNY.out]; omega, st6.out, j6.out, ok6.out, f6i.out, f6o.out, er6.out, ct6.out⟩
              case measure => simp [intOf]; have := hi.out; omega
          · have hqd : (splitF a)[p]? = some ((splitF a)[p]'(by rw [hla.out]; omega)) := by simp
            obtain ⟨qd, hqe⟩ : ∃ qd, (splitF a)[p]'(by rw [hla.out]; omega) = qd := ⟨_, rfl⟩
            rw [hqe] at hqd
            clear hqe
            have hq8 := hsle.out a qd (List.mem_of_getElem? hqd)
            obtain ⟨ax, vd, rfl, hax, c1, c2, hrd⟩ := hfx.out p (id, qd) (by rw [List.getElem?_map, hqd]; rfl)
            have k1 := Lib.hid (hs.out.cell c1 (by rw [add_block, hax]; simp))
            have k2 := Lib.hid (hs.out.cell c2 (by rw [add_block, hax]; simp))
            have k3 := Lib.hid (hrd.stp hs.out (by simp))
            clear c1 c2 hrd
            obtain ⟨t1, t2, t3, t4⟩ := hnext.out s p qd (by omega) hfi.out hqd
            have ok6 := takeJ_ok hok.out id qd 5 (by decide) (by decide)
            obtain ⟨s6, hs6⟩ : ∃ s6, (takeJ s id qd 5).1 = s6 := ⟨_, rfl⟩
            rw [hs6] at t1 t2 t3 ok6
            have f6i : s6.f id = stM a (p + 1) 5 := by rw [t1, upd_same]
            have f6o : s6.f other = stM b q 5 := by rw [t1, upd_other _ _ (Ne.symm hne.out)]; exact hfo.out
            have ct6 : s6.cnt = one01 (stM a (p + 1) 5) + one01 (stM b q 5) := by
              have := hct.out
              unfold one01 at this ⊢
              rw [t3, this]
              split <;> split <;> split <;> omega
            have er6 : s6.err = 0 := by rw [t2]; exact her.out
            replace f6i := Lib.hid f6i
            replace f6o := Lib.hid f6o
            replace ct6 := Lib.hid ct6
            replace er6 := Lib.hid er6
            replace ok6 := Lib.hid ok6
            replace t4 := Lib.hid t4
            replace hs6 := Lib.hid hs6
            replace hqd := Lib.hid hqd
            clear t1 t2 t3
            go_wp2_with (refine holdAt 136 ?_)
            apply Hold.mk
            refine load_cells rfl _ _ rfl (ax.add (p * 2)) rfl [.int .i64 id, vd] _ (fun j u hj => ?_) hu.out rfl (by kernel_rfl) ?_
            · match j, hj with
              | 0, hj => injection hj with hj; subst hj; exact k1.out
              | 1, hj => injection hj with hj; subst hj; rw [add_add]; exact k2.out
            go_wp2_with fail
            refine (take_calls 1 0 pj mb Q V s id vd qd 5 _ _ hj.out hok.out hwi.out bnd.out.1 bnd.out.2 (by decide) (by decide) k3.out (by decide) (by omega)).mono ?_
            rw [t4.out]
            by_cases hend : p + 1 = NX
            · rw [if_pos hend]
              rintro e w6 ⟨r, o6, rfl, s7, v6, rfl, r6, Q6, V6, j6⟩
              rw [Option.getD_some] at r6
              rw [hs6.out] at j6
              obtain ⟨A6, c6, rfl, _, _⟩ := r6.shape
              have st6 := hs.out.trans s7
              have cv1 := convBS r6 rfl
              have cv2 := convBS (ha.out.stp (s3.out.none.trans st6) (by simp)) rfl
              have z9 : ((p : Int) + 1 == (NX : Int)) = true := by simp; omega
              replace hend := Lib.hid hend
              replace st6 := Lib.hid st6
              replace r6 := Lib.hid r6
              replace j6 := Lib.hid j6
              clear s7
              go_wp2
              go_roundw
              case rel => exact ⟨p + 1, q, o6, Q6, V6, s6, by go_num, rfl, by have := hi.out; go_num, by rw [hNX.out]; omega, by rw [hNY.out]; omega, st6.out, j6.out, ok6.out, f6i.out, f6o.out, er6.out, ct6.out⟩
              case measure => simp [intOf]; have := hi.out; omega
            · rw [if_neg hend]
              rintro e w6 ⟨r, o6, rfl, s7, v6, rfl, r6, Q6, V6, j6⟩
              rw [hs6.out] at j6
              obtain ⟨A6, c6, rfl, _, _⟩ := r6.shape
              have st6 := hs.out.trans s7
              have z9 : ((p : Int) + 1 == (NX : Int)) = false := by simp; omega
              replace hend := Lib.hid hend
              replace st6 := Lib.hid st6
              replace r6 := Lib.hid r6
              replace j6 := Lib.hid j6
              clear s7
              go_wp2
              go_roundw
              case rel => exact ⟨p + 1, q, o6, Q6, V6, s6, by go_num, rfl, by have := hi.out; go_num, by rw [hNX.out]; omega, by rw [hNY.out]; omega, st6.out, j6.out, ok6.out, f6i.out, f6o.out, er6.out, ct6.out⟩
              case measure => simp [intOf]; have := hi.out; omega

end Go.Proofs.Ytcbecidcfbhkfaa
