/- SegLost: the walk. -/
import Derived.Test.YtcbecidcfbhkfaaSegB
import Derived.Test.YtcbecidcfbhkfaaRead15
namespace Go.Proofs.Ytcbecidcfbhkfaa
set_option linter.unusedVariables false
set_option linter.unusedSimpArgs false
open Go.RowKit Go.ChangeMaps

/-- What the first loop of SegLost keeps. -/
def LsR (w0 : World) (o0 : Col) (pj mb : Nat) (a : List UInt8) (late : Bool) (k : Nat) (x y : Value) (wr : World) : Prop :=
  ∃ (i : Nat) (o' : Col) (Q : Int → Nat) (V : Int → Value) (s : JS), x = .int .i64 (lostT late k i) ∧ y = .int .i64 i ∧ i ≤ nF a ∧ Stp [1] w0 o0 wr o' ∧ JFl wr o' 1 pj mb Q V s ∧ s.ok ∧ s.f 3 = lostS a late k i ∧ s.err ≤ 2 * i ∧ s.cnt ≤ i
/-- .. the second one. -/
def LtR (w0 : World) (o0 : Col) (pj mb : Nat) (b : List UInt8) (T : Int) (x y z : Value) (wr : World) : Prop :=
  ∃ (j : Nat) (o' : Col) (Q : Int → Nat) (V : Int → Value) (s : JS) (okb : Bool), y = .bool okb ∧ z = .int .i64 j ∧ j ≤ nF b ∧ Stp [1] w0 o0 wr o' ∧ JFl wr o' 1 pj mb Q V s ∧ s.ok ∧ (j = 0 ∨ s.f 3 = stM b j T) ∧ s.err ≤ 1000 + 2 * j ∧ s.cnt ≤ 1000 + j ∧ (j = nF b → okb = true ∧ RdB wr o' 1 x b)
theorem nF_le2 (m : List UInt8) (h : m.length ≤ 600) : 1 ≤ nF m ∧ nF m ≤ 100 := by
  unfold nF
  split <;> omega
set_option maxHeartbeats 8000000 in
set_option maxRecDepth 100000 in
theorem lost_law (va : Value) (a : List UInt8) (vb : Value) (b : List UInt8) (gone : Int) (late : Bool) (w : World) (ha : RdB w (fun _ => 0) 0 va a) (hb : RdB w (fun _ => 0) 0 vb b) (hg : (Lit.int .i64 gone).wf = true) :
    Calls Try.prog 4 #[va, vb, .int .i64 gone, .bool late] w (Post [] w (fun _ => 0) fun r _ _ => r = .bool true) := by
  obtain ⟨Aa, ca, rfl, hac, _⟩ := ha.shape
  obtain ⟨Ab, cb, rfl, hbc, _⟩ := hb.shape
  replace ha := Lib.hid ha
  replace hb := Lib.hid hb
  replace hg := Lib.hid hg
  by_cases h1 : a.length < 9
  · have g1 : decide ((a.length : Int) < 9) = true := decide_eq_true (by omega)
    go_enter Try.func4, Try.ntmps4
    go_wp2
    go_ret
    exact Post.mk (Stp.refl _ _ _) rfl
  have g1 : decide ((a.length : Int) < 9) = false := decide_eq_false (by omega)
  by_cases h2 : 600 < a.length
  · have g2 : decide ((600 : Int) < (a.length : Int)) = true := decide_eq_true (by omega)
    go_enter Try.func4, Try.ntmps4
    go_wp2
    go_ret
    exact Post.mk (Stp.refl _ _ _) rfl
  have g2 : decide ((600 : Int) < (a.length : Int)) = false := decide_eq_false (by omega)
  by_cases h3 : b.length < 1
  · have g3 : decide ((b.length : Int) < 1) = true := decide_eq_true (by omega)
    go_enter Try.func4, Try.ntmps4
    go_wp2
    go_ret
    exact Post.mk (Stp.refl _ _ _) rfl
  have g3 : decide ((b.length : Int) < 1) = false := decide_eq_false (by omega)
  by_cases h4 : 200 < b.length
  · have g4 : decide ((200 : Int) < (b.length : Int)) = true := decide_eq_true (by omega)
    go_enter Try.func4, Try.ntmps4
    go_wp2
    go_ret
    exact Post.mk (Stp.refl _ _ _) rfl
  have g4 : decide ((200 : Int) < (b.length : Int)) = false := decide_eq_false (by omega)
  have hEa : splitE 3 a = 0 := by rw [splitE, if_neg (by omega), if_neg h2]
  have hLa : splitL 3 a = splitF a := by rw [splitL, if_pos hEa]
  have hEb : splitE 3 b = 0 := by rw [splitE, if_neg (by omega), if_neg (by omega)]
  have hLb : splitL 3 b = splitF b := by rw [splitL, if_pos hEb]
  have hla := nF_len a
  have hlb := nF_len b
  obtain ⟨na1, na2⟩ := nF_le2 a (by omega)
  obtain ⟨nb1, nb2⟩ := nF_le2 b (by omega)
  have na3 : 2 ≤ nF a := by unfold nF; rw [if_neg (by omega)]; omega
  have hstT : ∀ (s : JS) (k i : Nat) (q : List UInt8), i < nF a → k < nF a → s.f 3 = lostS a true k i → (splitF a)[i]? = some q → _ := fun s k i q hi hk hf hq => lost_true s a k i (by omega) (by omega) hi hk hf q hq
  have hstF : ∀ (s : JS) (k i : Nat) (q : List UInt8), i < nF a → k < nF a → s.f 3 = lostS a false k i → i ≠ k → (splitF a)[i]? = some q → _ := fun s k i q hi hk hf hn hq => lost_false s a k i (by omega) (by omega) hi hk hf hn q hq
  have hstB : ∀ (s : JS) (j : Nat) (T : Int) (q : List UInt8), j < nF b → (j = 0 ∨ s.f 3 = stM b j T) → (splitF b)[j]? = some q → _ := fun s j T q hj hf hq => whole_step s b j T (by omega) (by omega) hj hf q hq
  obtain ⟨NX, hNX⟩ : ∃ NX, nF a = NX := ⟨_, rfl⟩
  obtain ⟨NY, hNY⟩ : ∃ NY, nF b = NY := ⟨_, rfl⟩
  have hsle : ∀ (m q : List UInt8), q ∈ splitF m → q.length ≤ 8 := splitF_le
  rw [hNX] at hla na1 na2 na3 hstT hstF
  rw [hNY] at hlb nb1 nb2 hstB
  obtain ⟨k, hk, hpl⟩ := place16 gone NX (by omega)
  have hskip : lostS a false k (k + 1) = lostS a false k k := lost_skip a k (by omega)
  replace hskip := Lib.hid hskip
  replace hsle := Lib.hid hsle
  replace hla := Lib.hid hla
  replace hlb := Lib.hid hlb
  replace hstT := Lib.hid hstT
  replace hstF := Lib.hid hstF
  replace hstB := Lib.hid hstB
  replace hLa := Lib.hid hLa
  replace hLb := Lib.hid hLb
  replace hNX := Lib.hid hNX
  replace hNY := Lib.hid hNY
  have e1 : decide ((NX : Int) < 2) = false := decide_eq_false (by omega)
  have e2 : ((NY : Int) == 0) = false := by simp; omega
  have e3 : ((NX : Int) == 0) = false := by simp; omega
  have hkI : (0 : Int) ≤ (k : Int) ∧ (k : Int) < 100 := by omega
  have hlateI : ∀ i, (0 : Int) ≤ lostT late k i ∧ lostT late k i ≤ 11 := fun i => by unfold lostT; split <;> omega
  replace hlateI := Lib.hid hlateI
  go_enter Try.func4, Try.ntmps4
  go_wp2_with fail
  refine (split_calls 0 0 3 _ a _ _ ha.out).mono ?_
  rintro e w1 ⟨r, o1, rfl, s1, vx, rfl, fx⟩
  rw [hEa]
  rw [hLa.out] at fx
  have hb1 := hb.out.stp s1 (by simp)
  replace hb1 := Lib.hid hb1
  replace fx := Lib.hid fx
  replace s1 := Lib.hid s1
  go_wp2_with fail
  refine (split_calls 0 0 3 _ b _ _ hb1.out).mono ?_
  rintro e w2 ⟨r, o2, rfl, s2, vy, rfl, fy⟩
  rw [hEb]
  rw [hLb.out] at fy
  replace fx := Lib.hid (fx.out.stp s2 (by simp))
  replace fy := Lib.hid fy
  replace s2 := Lib.hid (s1.out.trans s2)
  go_wp2_with fail
  refine (newJ_calls 1 w2 o2).mono ?_
  rintro e w3 ⟨r, o3, rfl, s3, pj, mb, rfl, j3⟩
  have fx3 := fx.out.stp s3 (by simp)
  have fy3 := fy.out.stp s3 (by simp)
  obtain ⟨Ax, cx, hvx, hcx, _, hfx⟩ := fx3
  obtain ⟨Ay, cy, hvy, hcy, _, hfy⟩ := fy3
  rw [List.length_map, hla.out] at hvx hcx
  rw [List.length_map, hlb.out] at hvy hcy
  subst hvx
  subst hvy
  replace hfx := Lib.hid hfx
  replace hfy := Lib.hid hfy
  replace s3 := Lib.hid (s2.out.trans s3)
  replace j3 := Lib.hid j3
  replace hEa := Lib.hid hEa
  replace hEb := Lib.hid hEb
  have hu := Lib.hid Try.underlying37
  clear fx fy s1 s2 hb1
  go_wp2_with fail
  go_loopw [15, 16] (LsR w3 o3 pj mb a late k) (fun _ y _ => NX - (intOf y).toNat)
  case atStart =>
    refine ⟨0, o3, _, _, noJ, ?_, rfl, Nat.zero_le _, Stp.refl _ _ _, j3.out, noJ_ok, ?_, Nat.le_refl _, Nat.le_refl _⟩
    · unfold lostT; rw [if_neg (by omega)]
    · unfold lostS stM; rw [if_pos (.inl (Nat.zero_le _)), if_pos (.inl rfl)]; rfl
  case round =>
    obtain ⟨i, o4, Q, V, s, rfl, rfl, hi, hs, hj, hok, hf3, her, hct⟩ := hrel
    rw [hNX.out] at hi
    have st := Lib.hid (s3.out.none.trans hs)
    have bnd : s.err ≤ 900000 ∧ s.cnt ≤ 900000 := by omega
    have hi2 : (0 : Int) ≤ (i : Int) ∧ (i : Int) ≤ 100 := by omega
    by_cases hlt : i < NX
    · have d1 : decide ((i : Int) < (NX : Int)) = true := decide_eq_true (by omega)
      replace hs := Lib.hid hs
      replace hj := Lib.hid hj
      replace hok := Lib.hid hok
      replace bnd := Lib.hid bnd
      have hqd : (splitF a)[i]? = some ((splitF a)[i]'(by rw [hla.out]; omega)) := by simp
      obtain ⟨qd, hqe⟩ : ∃ qd, (splitF a)[i]'(by rw [hla.out]; omega) = qd := ⟨_, rfl⟩
      rw [hqe] at hqd
      clear hqe
      have hq8 := hsle.out a qd (List.mem_of_getElem? hqd)
      obtain ⟨ax, vd, rfl, hax, c1, c2, hrd⟩ := hfx.out i (3, qd) (by rw [List.getElem?_map, hqd]; rfl)
      have k1 := Lib.hid (hs.out.cell c1 (by rw [add_block, hax]; simp))
      have k2 := Lib.hid (hs.out.cell c2 (by rw [add_block, hax]; simp))
      have k3 := Lib.hid (hrd.stp hs.out (by simp))
      clear c1 c2 hrd
      cases late
      · have T0 : ∀ n, lostT false k n = 0 := fun n => lostT_false k n
        rw [T0]
        by_cases hik : i = k
        · have z1 : ((i : Int) == (k : Int)) = true := by simp [hik]
          have hf4 : s.f 3 = lostS a false k (i + 1) := by rw [hik, hskip.out, hf3, hik]
          replace hik := Lib.hid hik
          replace hf4 := Lib.hid hf4
          replace hqd := Lib.hid hqd
          replace T0 := Lib.hid T0
          go_wp2
          go_roundw
          case rel => exact ⟨i + 1, o4, Q, V, s, by rw [T0.out], by go_num, by rw [hNX.out]; omega, hs.out, hj.out, hok.out, hf4.out, by omega, by omega⟩
          case measure => simp [intOf]; omega
        · have z1 : ((i : Int) == (k : Int)) = false := by simp; omega
          obtain ⟨t1, t4⟩ := hstF.out s k i qd hlt hk hf3 hik hqd
          have ok6 := takeJ_ok hok.out 3 qd (0) (by omega) (by omega)
          have er6 := (takeJ_err s 3 qd (0)).1
          have ct6 := (takeJ_err s 3 qd (0)).2
          obtain ⟨s6, hs6⟩ : ∃ s6, (takeJ s 3 qd (0)).1 = s6 := ⟨_, rfl⟩
          rw [hs6] at t1 ok6 er6 ct6
          replace er6 : s6.err ≤ 2 * (i + 1) := by omega
          replace ct6 : s6.cnt ≤ i + 1 := by omega
          replace t1 := Lib.hid t1
          replace er6 := Lib.hid er6
          replace ct6 := Lib.hid ct6
          replace ok6 := Lib.hid ok6
          replace hs6 := Lib.hid hs6
          replace hqd := Lib.hid hqd
          replace her := Lib.hid her
          replace hct := Lib.hid hct
          replace hf3 := Lib.hid hf3
          replace hik := Lib.hid hik
          replace T0 := Lib.hid T0
          go_wp2_with (refine holdAt 107 ?_)
          apply Hold.mk
          refine load_cells rfl _ _ rfl (ax.add (i * 2)) rfl [.int .i64 3, vd] _ (fun j u hj => ?_) hu.out rfl (by kernel_rfl) ?_
          · match j, hj with
            | 0, hj => injection hj with hj; subst hj; exact k1.out
            | 1, hj => injection hj with hj; subst hj; rw [add_add]; exact k2.out
          go_wp2_with fail
          refine (take_calls 1 0 pj mb Q V s 3 vd qd (0) _ _ hj.out hok.out (by decide) bnd.out.1 bnd.out.2 (by omega) (by omega) k3.out (by decide) (by omega)).mono ?_
          rw [t4]
          rintro e w6 ⟨r, o6, rfl, s7, v6, rfl, r6, Q6, V6, j6⟩
          rw [hs6.out] at j6
          obtain ⟨A6, c6, rfl, _, _⟩ := r6.shape
          have st6 := hs.out.trans s7
          replace st6 := Lib.hid st6
          replace r6 := Lib.hid r6
          replace j6 := Lib.hid j6
          clear s7
          go_wp2
          go_roundw
          case rel => exact ⟨i + 1, o6, Q6, V6, s6, by rw [T0.out], by go_num, by rw [hNX.out]; omega, st6.out, j6.out, ok6.out, t1.out, er6.out, ct6.out⟩
          case measure => simp [intOf]; omega
      · by_cases hk0 : k = 0
        · have T0 : ∀ n, lostT true k n = 0 := fun n => by rw [lostT_true, if_neg (by omega)]
          rw [T0]
          have z2 : decide ((0 : Int) < (k : Int)) = false := decide_eq_false (by omega)
          have z2n : ¬ 0 < k := by omega
          have z1 : (((i : Int) == (k : Int)) = true ∧ ¬ 0 < i) ∨ ((i : Int) == (k : Int)) = false := by
            by_cases hik : i = k
            · exact .inl ⟨by simp [hik], by omega⟩
            · exact .inr (by simp; omega)
          have hst := hstT.out s k i qd hlt hk hf3 hqd
          rw [T0] at hst
          obtain ⟨t1, _⟩ := hst
          have ok6 := takeJ_ok hok.out 3 qd (0) (by omega) (by omega)
          have er6 := (takeJ_err s 3 qd (0)).1
          have ct6 := (takeJ_err s 3 qd (0)).2
          obtain ⟨s6, hs6⟩ : ∃ s6, (takeJ s 3 qd (0)).1 = s6 := ⟨_, rfl⟩
          rw [hs6] at t1 ok6 er6 ct6
          replace er6 : s6.err ≤ 2 * (i + 1) := by omega
          replace ct6 : s6.cnt ≤ i + 1 := by omega
          replace t1 := Lib.hid t1
          replace er6 := Lib.hid er6
          replace ct6 := Lib.hid ct6
          replace ok6 := Lib.hid ok6
          replace hs6 := Lib.hid hs6
          replace hqd := Lib.hid hqd
          replace her := Lib.hid her
          replace hct := Lib.hid hct
          replace hf3 := Lib.hid hf3
          replace T0 := Lib.hid T0
          replace hk0 := Lib.hid hk0
          rcases z1 with ⟨z1, z3⟩ | z1
          all_goals
            cases t4 : (takeJ s 3 qd 0).2 with
            | none =>
              go_wp2_with (refine holdAt 107 ?_)
              apply Hold.mk
              refine load_cells rfl _ _ rfl (ax.add (i * 2)) rfl [.int .i64 3, vd] _ (fun j u hj => ?_) hu.out rfl (by kernel_rfl) ?_
              · match j, hj with
                | 0, hj => injection hj with hj; subst hj; exact k1.out
                | 1, hj => injection hj with hj; subst hj; rw [add_add]; exact k2.out
              go_wp2_with fail
              refine (take_calls 1 0 pj mb Q V s 3 vd qd (0) _ _ hj.out hok.out (by decide) bnd.out.1 bnd.out.2 (by omega) (by omega) k3.out (by decide) (by omega)).mono ?_
              rw [t4]
              rintro e w6 ⟨r, o6, rfl, s7, v6, rfl, r6, Q6, V6, j6⟩
              rw [hs6.out] at j6
              obtain ⟨A6, c6, rfl, _, _⟩ := r6.shape
              have st6 := hs.out.trans s7
              replace st6 := Lib.hid st6
              replace r6 := Lib.hid r6
              replace j6 := Lib.hid j6
              clear s7
              go_wp2
              go_roundw
              case rel => exact ⟨i + 1, o6, Q6, V6, s6, by rw [T0.out], by go_num, by rw [hNX.out]; omega, st6.out, j6.out, ok6.out, t1.out, er6.out, ct6.out⟩
              case measure => simp [intOf]; omega
            | some m9 =>
              go_wp2_with (refine holdAt 107 ?_)
              apply Hold.mk
              refine load_cells rfl _ _ rfl (ax.add (i * 2)) rfl [.int .i64 3, vd] _ (fun j u hj => ?_) hu.out rfl (by kernel_rfl) ?_
              · match j, hj with
                | 0, hj => injection hj with hj; subst hj; exact k1.out
                | 1, hj => injection hj with hj; subst hj; rw [add_add]; exact k2.out
              go_wp2_with fail
              refine (take_calls 1 0 pj mb Q V s 3 vd qd (0) _ _ hj.out hok.out (by decide) bnd.out.1 bnd.out.2 (by omega) (by omega) k3.out (by decide) (by omega)).mono ?_
              rw [t4]
              rintro e w6 ⟨r, o6, rfl, s7, v6, rfl, r6, Q6, V6, j6⟩
              rw [hs6.out] at j6
              obtain ⟨A6, c6, rfl, _, _⟩ := r6.shape
              have st6 := hs.out.trans s7
              replace st6 := Lib.hid st6
              replace r6 := Lib.hid r6
              replace j6 := Lib.hid j6
              clear s7
              go_wp2
              go_roundw
              case rel => exact ⟨i + 1, o6, Q6, V6, s6, by rw [T0.out], by go_num, by rw [hNX.out]; omega, st6.out, j6.out, ok6.out, t1.out, er6.out, ct6.out⟩
              case measure => simp [intOf]; omega
        · have z2 : decide ((0 : Int) < (k : Int)) = true := decide_eq_true (by omega)
          by_cases hik : i = k
          · have z1 : ((i : Int) == (k : Int)) = true := by simp [hik]
            have z3 : decide ((0 : Int) < (i : Int)) = true := decide_eq_true (by omega)
            have z3n : 0 < i := by omega
            have z2n : 0 < k := by omega
            have T0 : lostT true k i = 0 := by rw [lostT_true, if_neg (by omega)]
            have T1 : lostT true k (i + 1) = 11 := by rw [lostT_true, if_pos (by omega)]
            rw [T0]
            have hst := hstT.out s k i qd hlt hk hf3 hqd
            rw [T1] at hst
            obtain ⟨t1, t4⟩ := hst
            replace t4 := t4.resolve_right hk0
            have ok6 := takeJ_ok hok.out 3 qd (11) (by omega) (by omega)
            have er6 := (takeJ_err s 3 qd (11)).1
            have ct6 := (takeJ_err s 3 qd (11)).2
            obtain ⟨s6, hs6⟩ : ∃ s6, (takeJ s 3 qd (11)).1 = s6 := ⟨_, rfl⟩
            rw [hs6] at t1 ok6 er6 ct6
            replace er6 : s6.err ≤ 2 * (i + 1) := by omega
            replace ct6 : s6.cnt ≤ i + 1 := by omega
            replace t1 := Lib.hid t1
            replace er6 := Lib.hid er6
            replace ct6 := Lib.hid ct6
            replace ok6 := Lib.hid ok6
            replace hs6 := Lib.hid hs6
            replace hqd := Lib.hid hqd
            replace her := Lib.hid her
            replace hct := Lib.hid hct
            replace hf3 := Lib.hid hf3
            replace hk0 := Lib.hid hk0
            replace hik := Lib.hid hik
            replace T0 := Lib.hid T0
            replace T1 := Lib.hid T1
            go_wp2_with (refine holdAt 107 ?_)
            apply Hold.mk
            refine load_cells rfl _ _ rfl (ax.add (i * 2)) rfl [.int .i64 3, vd] _ (fun j u hj => ?_) hu.out rfl (by kernel_rfl) ?_
            · match j, hj with
              | 0, hj => injection hj with hj; subst hj; exact k1.out
              | 1, hj => injection hj with hj; subst hj; rw [add_add]; exact k2.out
            go_wp2_with fail
            refine (take_calls 1 0 pj mb Q V s 3 vd qd (11) _ _ hj.out hok.out (by decide) bnd.out.1 bnd.out.2 (by omega) (by omega) k3.out (by decide) (by omega)).mono ?_
            rw [t4]
            rintro e w6 ⟨r, o6, rfl, s7, v6, rfl, r6, Q6, V6, j6⟩
            rw [hs6.out] at j6
            obtain ⟨A6, c6, rfl, _, _⟩ := r6.shape
            have st6 := hs.out.trans s7
            replace st6 := Lib.hid st6
            replace r6 := Lib.hid r6
            replace j6 := Lib.hid j6
            clear s7
            go_wp2
            go_roundw
            case rel => exact ⟨i + 1, o6, Q6, V6, s6, by rw [T1.out], by go_num, by rw [hNX.out]; omega, st6.out, j6.out, ok6.out, t1.out, er6.out, ct6.out⟩
            case measure => simp [intOf]; omega
          · have z1 : ((i : Int) == (k : Int)) = false := by simp; omega
            have T1 : lostT true k (i + 1) = lostT true k i := by
              rw [lostT_true, lostT_true]
              by_cases hx : k < i
              · rw [if_pos (by omega), if_pos (by omega)]
              · rw [if_neg (by omega), if_neg (by omega)]
            have hst := hstT.out s k i qd hlt hk hf3 hqd
            rw [T1] at hst
            obtain ⟨hT1, hT2⟩ := hlateI.out i
            obtain ⟨T, hT⟩ : ∃ T, lostT true k i = T := ⟨_, rfl⟩
            rw [hT] at hst hT1 hT2 T1 ⊢
            obtain ⟨t1, t4⟩ := hst
            replace t4 := t4.resolve_right hk0
            have ok6 := takeJ_ok hok.out 3 qd (T) (by omega) (by omega)
            have er6 := (takeJ_err s 3 qd (T)).1
            have ct6 := (takeJ_err s 3 qd (T)).2
            obtain ⟨s6, hs6⟩ : ∃ s6, (takeJ s 3 qd (T)).1 = s6 := ⟨_, rfl⟩
            rw [hs6] at t1 ok6 er6 ct6
            replace er6 : s6.err ≤ 2 * (i + 1) := by omega
            replace ct6 : s6.cnt ≤ i + 1 := by omega
            replace t1 := Lib.hid t1
            replace er6 := Lib.hid er6
            replace ct6 := Lib.hid ct6
            replace ok6 := Lib.hid ok6
            replace hs6 := Lib.hid hs6
            replace hqd := Lib.hid hqd
            replace her := Lib.hid her
            replace hct := Lib.hid hct
            replace hf3 := Lib.hid hf3
            replace hk0 := Lib.hid hk0
            replace hik := Lib.hid hik
            replace hT := Lib.hid hT
            replace T1 := Lib.hid T1
            go_wp2_with (refine holdAt 107 ?_)
            apply Hold.mk
            refine load_cells rfl _ _ rfl (ax.add (i * 2)) rfl [.int .i64 3, vd] _ (fun j u hj => ?_) hu.out rfl (by kernel_rfl) ?_
            · match j, hj with
              | 0, hj => injection hj with hj; subst hj; exact k1.out
              | 1, hj => injection hj with hj; subst hj; rw [add_add]; exact k2.out
            go_wp2_with fail
            refine (take_calls 1 0 pj mb Q V s 3 vd qd (T) _ _ hj.out hok.out (by decide) bnd.out.1 bnd.out.2 (by omega) (by omega) k3.out (by decide) (by omega)).mono ?_
            rw [t4]
            rintro e w6 ⟨r, o6, rfl, s7, v6, rfl, r6, Q6, V6, j6⟩
            rw [hs6.out] at j6
            obtain ⟨A6, c6, rfl, _, _⟩ := r6.shape
            have st6 := hs.out.trans s7
            replace st6 := Lib.hid st6
            replace r6 := Lib.hid r6
            replace j6 := Lib.hid j6
            clear s7
            go_wp2
            go_roundw
            case rel => exact ⟨i + 1, o6, Q6, V6, s6, by rw [T1.out], by go_num, by rw [hNX.out]; omega, st6.out, j6.out, ok6.out, t1.out, er6.out, ct6.out⟩
            case measure => simp [intOf]; omega
    · have d1 : decide ((i : Int) < (NX : Int)) = false := decide_eq_false (by omega)
      obtain ⟨hT1, hT2⟩ := hlateI.out i
      obtain ⟨T, hT⟩ : ∃ T, lostT late k i = T := ⟨_, rfl⟩
      rw [hT] at hT1 hT2 ⊢
      have her2 : s.err ≤ 1000 := by omega
      have hct2 : s.cnt ≤ 1000 := by omega
      replace hs := Lib.hid hs
      replace hj := Lib.hid hj
      replace hok := Lib.hid hok
      replace hf3 := Lib.hid hf3
      replace hT := Lib.hid hT
      replace hpl := Lib.hid hpl
      clear her hct bnd
      go_wp2_with fail
      go_loopw [19, 20, 21] (LtR wr o4 pj mb b T) (fun _ _ z _ => NY - (intOf z).toNat)
      case atStart => exact ⟨0, o4, Q, V, s, false, rfl, rfl, Nat.zero_le _, Stp.refl _ _ _, hj.out, hok.out, .inl rfl, by omega, by omega, fun h => by rw [hNY.out] at h; omega⟩
      case round =>
        obtain ⟨j, o5, Q5, V5, s5, okb, rfl, rfl, hj5, hs5, hjf, hok5, hf5, her5, hct5, hfin⟩ := hrel
        rw [hNY.out] at hj5 hfin
        have st5 := Lib.hid (st.out.trans hs5)
        have bnd : s5.err ≤ 900000 ∧ s5.cnt ≤ 900000 := by omega
        have hj2 : (0 : Int) ≤ (j : Int) ∧ (j : Int) ≤ 100 := by omega
        by_cases hlt2 : j < NY
        · have d2 : decide ((j : Int) < (NY : Int)) = true := decide_eq_true (by omega)
          replace hs5 := Lib.hid hs5
          replace hjf := Lib.hid hjf
          replace hok5 := Lib.hid hok5
          replace bnd := Lib.hid bnd
          have hqd : (splitF b)[j]? = some ((splitF b)[j]'(by rw [hlb.out]; omega)) := by simp
          obtain ⟨qd, hqe⟩ : ∃ qd, (splitF b)[j]'(by rw [hlb.out]; omega) = qd := ⟨_, rfl⟩
          rw [hqe] at hqd
          clear hqe
          have hq8 := hsle.out b qd (List.mem_of_getElem? hqd)
          obtain ⟨ay, vd, rfl, hax, c1, c2, hrd⟩ := hfy.out j (3, qd) (by rw [List.getElem?_map, hqd]; rfl)
          have hss := Lib.hid (hs.out.trans hs5.out)
          have k1 := Lib.hid (hss.out.cell c1 (by rw [add_block, hax]; simp))
          have k2 := Lib.hid (hss.out.cell c2 (by rw [add_block, hax]; simp))
          have k3 := Lib.hid (hrd.stp hss.out (by simp))
          clear c1 c2 hrd
          obtain ⟨t1, t4⟩ := hstB.out s5 j T qd hlt2 hf5 hqd
          have ok6 := takeJ_ok hok5.out 3 qd T (by omega) (by omega)
          have er6 := (takeJ_err s5 3 qd T).1
          have ct6 := (takeJ_err s5 3 qd T).2
          obtain ⟨s6, hs6⟩ : ∃ s6, (takeJ s5 3 qd T).1 = s6 := ⟨_, rfl⟩
          rw [hs6] at t1 ok6 er6 ct6
          replace er6 : s6.err ≤ 1000 + 2 * (j + 1) := by omega
          replace ct6 : s6.cnt ≤ 1000 + (j + 1) := by omega
          replace t1 := Lib.hid t1
          replace t4 := Lib.hid t4
          replace er6 := Lib.hid er6
          replace ct6 := Lib.hid ct6
          replace ok6 := Lib.hid ok6
          replace hs6 := Lib.hid hs6
          replace hqd := Lib.hid hqd
          replace her5 := Lib.hid her5
          replace hct5 := Lib.hid hct5
          replace hf5 := Lib.hid hf5
          replace hfin := Lib.hid hfin
          go_wp2_with (refine holdAt 139 ?_)
          apply Hold.mk
          refine load_cells rfl _ _ rfl (ay.add (j * 2)) rfl [.int .i64 3, vd] _ (fun j u hj => ?_) hu.out rfl (by kernel_rfl) ?_
          · match j, hj with
            | 0, hj => injection hj with hj; subst hj; exact k1.out
            | 1, hj => injection hj with hj; subst hj; rw [add_add]; exact k2.out
          go_wp2_with fail
          refine (take_calls 1 0 pj mb Q5 V5 s5 3 vd qd T _ _ hjf.out hok5.out (by decide) bnd.out.1 bnd.out.2 (by omega) (by omega) k3.out (by decide) (by omega)).mono ?_
          rw [t4.out]
          by_cases hend : j + 1 = NY
          · rw [if_pos hend]
            rintro e w6 ⟨r, o6, rfl, s7, v6, rfl, r6, Q6, V6, j6⟩
            rw [Option.getD_some] at r6
            rw [hs6.out] at j6
            obtain ⟨A6, c6, rfl, _, _⟩ := r6.shape
            have st6 := hs5.out.trans s7
            replace hend := Lib.hid hend
            replace st6 := Lib.hid st6
            replace r6 := Lib.hid r6
            replace j6 := Lib.hid j6
            clear s7
            go_wp2
            go_roundw
            case rel => exact ⟨j + 1, o6, Q6, V6, s6, true, rfl, by go_num, by rw [hNY.out]; omega, st6.out, j6.out, ok6.out, .inr t1.out, er6.out, ct6.out, fun _ => ⟨rfl, r6.out⟩⟩
            case measure => simp [intOf]; omega
          · rw [if_neg hend]
            rintro e w6 ⟨r, o6, rfl, s7, v6, rfl, r6, Q6, V6, j6⟩
            rw [hs6.out] at j6
            obtain ⟨A6, c6, rfl, _, _⟩ := r6.shape
            have st6 := hs5.out.trans s7
            replace hend := Lib.hid hend
            replace st6 := Lib.hid st6
            replace r6 := Lib.hid r6
            replace j6 := Lib.hid j6
            clear s7
            go_wp2
            go_roundw
            case rel => exact ⟨j + 1, o6, Q6, V6, s6, false, rfl, by go_num, by rw [hNY.out]; omega, st6.out, j6.out, ok6.out, .inr t1.out, er6.out, ct6.out, fun h => by rw [hNY.out] at h; exact absurd h hend.out⟩
            case measure => simp [intOf]; omega
        · have d2 : decide ((j : Int) < (NY : Int)) = false := decide_eq_false (by omega)
          obtain ⟨rfl, r6⟩ := hfin (by omega)
          obtain ⟨A6, c6, rfl, _, _⟩ := r6.shape
          have cv1 := convBS r6 rfl
          have cv2 := convBS (hb.out.stp st5.out (by simp)) rfl
          replace hs5 := Lib.hid hs5
          replace hjf := Lib.hid hjf
          replace r6 := Lib.hid r6
          replace hf5 := Lib.hid hf5
          clear hfin
          go_wp2_with fail
          refine (known15_calls _ o5).mono ?_
          rintro e w9 ⟨r, o9, rfl, s9, rfl⟩
          replace st5 := Lib.hid (st5.out.trans s9.none)
          clear s9
          go_wp2
          go_ret
          exact Post.mk (st5.out.law (by simp)) rfl

end Go.Proofs.Ytcbecidcfbhkfaa
