/- SHA-256: a block taken in (the program's): the walk. -/
import Derived.Test.YtpjnmijfmfgdpaaShaA
import Derived.Deep.MidRow
import Derived.StillTailTactics
namespace Go.Proofs.Ytpjnmijfmfgdpaa
set_option linter.unusedVariables false
set_option linter.unusedSimpArgs false
open Go.RowKit

/-- What the first loop keeps. -/
def Ld (w0 : World) (o0 : Col) (d q : Nat) (b : List UInt8) (x : Value) (wr : World) : Prop :=
  ∃ (k : Nat) (o' : Col), x = .int .i64 k ∧ k ≤ 16 ∧ Stp [d] w0 o0 wr o' ∧ Wd wr o' d q 112 (loadI b k)

theorem byI_get {b : List UInt8} {j : Nat} (h : j < b.length) : byI b j = ((b[j].toNat : Nat) : Int) := by
  rw [byI, List.getD_eq_getElem?_getD, List.getElem?_eq_getElem h, Option.getD_some]
/-- What the second loop keeps. -/
def Mr (w0 : World) (o0 : Col) (d q : Nat) (L : List Int) (x : Value) (wr : World) : Prop :=
  ∃ (i n : Nat) (o' : Col), x = .int .i64 i ∧ i = n + 16 ∧ n ≤ 48 ∧ Stp [d] w0 o0 wr o' ∧ Wd wr o' d q 112 (moreI L n)

/-- What the third loop keeps. -/
def Rn (w0 : World) (o0 : Col) (e V : Nat) (K L : List Int) (v0 : S8) (x : Value) (wr : World) : Prop :=
  ∃ (n : Nat) (o' : Col), x = .int .i64 n ∧ n ≤ 64 ∧ Stp [e] w0 o0 wr o' ∧ Wd wr o' e V 123 (roundsI K L v0 n).l
/-- What the fourth loop keeps. -/
def Ad (w0 : World) (o0 : Col) (c p : Nat) (s v : List Int) (x : Value) (wr : World) : Prop :=
  ∃ (n : Nat) (o' : Col), x = .int .i64 n ∧ n ≤ 8 ∧ Stp [c] w0 o0 wr o' ∧ Wd wr o' c p 123 (addI s v n)
/-- Eight words are laid anew. -/
theorem Wd.all8 {w : World} {o : Col} {c p t : Nat} {l : List Int} (h : Wd w o c p t l) (hl : l.length = 8) (v : S8) (hv : v.ok) :
    Wd ((((((((w.setCell ⟨p, 0, none⟩ (.int .u32 v.a)).setCell ⟨p, 1, none⟩ (.int .u32 v.b)).setCell ⟨p, 2, none⟩ (.int .u32 v.c)).setCell ⟨p, 3, none⟩ (.int .u32 v.d)).setCell ⟨p, 4, none⟩ (.int .u32 v.e)).setCell ⟨p, 5, none⟩ (.int .u32 v.f)).setCell ⟨p, 6, none⟩ (.int .u32 v.g)).setCell ⟨p, 7, none⟩ (.int .u32 v.h)) o c p t v.l ∧
      Stp [c] w o ((((((((w.setCell ⟨p, 0, none⟩ (.int .u32 v.a)).setCell ⟨p, 1, none⟩ (.int .u32 v.b)).setCell ⟨p, 2, none⟩ (.int .u32 v.c)).setCell ⟨p, 3, none⟩ (.int .u32 v.d)).setCell ⟨p, 4, none⟩ (.int .u32 v.e)).setCell ⟨p, 5, none⟩ (.int .u32 v.f)).setCell ⟨p, 6, none⟩ (.int .u32 v.g)).setCell ⟨p, 7, none⟩ (.int .u32 v.h)) o := by
  obtain ⟨h1, h2, h3, h4, h5, h6, h7, h8⟩ := hv
  obtain ⟨k1, s1⟩ := h.set 0 h1
  obtain ⟨k2, s2⟩ := k1.set 1 h2
  obtain ⟨k3, s3⟩ := k2.set 2 h3
  obtain ⟨k4, s4⟩ := k3.set 3 h4
  obtain ⟨k5, s5⟩ := k4.set 4 h5
  obtain ⟨k6, s6⟩ := k5.set 5 h6
  obtain ⟨k7, s7⟩ := k6.set 6 h7
  obtain ⟨k8, s8⟩ := k7.set 7 h8
  refine ⟨?_, ((((((s1.trans s2).trans s3).trans s4).trans s5).trans s6).trans s7).trans s8⟩
  match l, hl with
  | [a, b, c, d, e, f, g, i], _ => exact k8

set_option maxHeartbeats 4000000 in
set_option maxRecDepth 100000 in
theorem shaTake_calls (c c2 c3 p q : Nat) (s K : List Int) (v : Value) (b : List UInt8) (w : World) (o : Col) (hs : Wd w o c p 123 s) (hs8 : s.length = 8) (hK : Wd w o c3 q 112 K) (hK64 : K.length = 64) (hb : RdB w o c2 v b) (hb64 : 64 ≤ b.length) (h2 : c2 ≠ c) (h3 : c3 ≠ c) :
    Calls Try.prog 78 #[.pointer (some ⟨p, 0, none⟩), v, .pointer (some ⟨q, 0, none⟩)] w (Post [c] w o fun r w' o' => r = .tuple #[] ∧ Wd w' o' c p 123 (blockI K s b)) := by
  obtain ⟨A, cap, rfl, hlc, hA⟩ := hb.shape
  obtain ⟨d, hd1, _, hd⟩ := fresh o w.heap.size [c, c2, c3]
  simp only [List.mem_cons, List.not_mem_nil, or_false, not_or] at hd1
  obtain ⟨hdc, hdc2, hdc3⟩ := hd1
  obtain ⟨e, he1, _, he⟩ := fresh o w.heap.size [c, c2, c3, d]
  simp only [List.mem_cons, List.not_mem_nil, or_false, not_or] at he1
  obtain ⟨hec, hec2, hec3, hed⟩ := he1
  have sa : Stp [d] w o (w.alloc (.cells (us (loadI b 0)).toArray 112)) (paint o w.heap.size d) := (Stp.refl [d] w o).alloc _ d
  have W0 := Wd.new w o d 112 (loadI b 0) (loadI_U b 0)
  have hlen := hb.is
  replace W0 := Lib.hid W0
  replace hlen := Lib.hid hlen
  have hb0 := Lib.hid (hb.stp sa (by simpa using fun e : c2 = d => hdc2 e.symm))
  have hs0 := Lib.hid (hs.stp sa (by simpa using fun e : c = d => hdc e.symm))
  have hK0 := Lib.hid (hK.stp sa (by simpa using fun e : c3 = d => hdc3 e.symm))
  replace sa := Lib.hid sa
  replace hs := Lib.hid hs
  replace hK := Lib.hid hK
  replace hb := Lib.hid hb
  go_enter Try.func78, Try.ntmps78
  go_wp2_with fail
  go_loopw [14] (Ld (w.alloc (.cells (us (loadI b 0)).toArray 112)) (paint o w.heap.size d) d w.heap.size b) (fun x _ => 16 - (intOf x).toNat)
  case atStart => exact ⟨0, _, rfl, by omega, Stp.refl _ _ _, W0.out⟩
  case round =>
    obtain ⟨k, o1, rfl, hk, st, hW⟩ := hrel
    by_cases hlt : k < 16
    · have g1 : decide ((k : Int) < 16) = true := decide_eq_true (by omega)
      have hr := hb0.out.stp st (by simpa using fun e : c2 = d => hdc2 e.symm)
      obtain ⟨a, rfl, e0⟩ := hr.at_ (j := 4 * k) (by omega)
      obtain ⟨a', ee, e1⟩ := hr.at_ (j := 4 * k + 1) (by omega)
      injection ee with ee; subst ee
      obtain ⟨a', ee, e2⟩ := hr.at_ (j := 4 * k + 2) (by omega)
      injection ee with ee; subst ee
      obtain ⟨a', ee, e3⟩ := hr.at_ (j := 4 * k + 3) (by omega)
      injection ee with ee; subst ee
      have hc := hW.cell (i := k) (by rw [loadI_len]; omega)
      have hf := hW.free k
      obtain ⟨m, hm⟩ : ∃ m, 4 * k = m := ⟨_, rfl⟩
      have z0 : IntKind.i64.wrap (4 * (k : Int)) = (m : Int) := by rw [IntKind.wrap_i64]; omega
      obtain ⟨m1, hm1⟩ : ∃ m1, m + 1 = m1 := ⟨_, rfl⟩
      obtain ⟨m2, hm2⟩ : ∃ m2, m + 2 = m2 := ⟨_, rfl⟩
      obtain ⟨m3, hm3⟩ : ∃ m3, m + 3 = m3 := ⟨_, rfl⟩
      have z1 : IntKind.i64.wrap ((m : Int) + 1) = (m1 : Int) := by rw [IntKind.wrap_i64]; omega
      have z2 : IntKind.i64.wrap ((m : Int) + 2) = (m2 : Int) := by rw [IntKind.wrap_i64]; omega
      have z3 : IntKind.i64.wrap ((m : Int) + 3) = (m3 : Int) := by rw [IntKind.wrap_i64]; omega
      obtain ⟨x0, hx0⟩ : ∃ x0, ((b[4 * k].toNat : Nat) : Int) = x0 := ⟨_, rfl⟩
      obtain ⟨x1, hx1⟩ : ∃ x1, ((b[4 * k + 1].toNat : Nat) : Int) = x1 := ⟨_, rfl⟩
      obtain ⟨x2, hx2⟩ : ∃ x2, ((b[4 * k + 2].toNat : Nat) : Int) = x2 := ⟨_, rfl⟩
      obtain ⟨x3, hx3⟩ : ∃ x3, ((b[4 * k + 3].toNat : Nat) : Int) = x3 := ⟨_, rfl⟩
      have y0 : 0 ≤ x0 ∧ x0 < 256 := by have := b[4 * k].toNat_lt; omega
      have y1 : 0 ≤ x1 ∧ x1 < 256 := by have := b[4 * k + 1].toNat_lt; omega
      have y2 : 0 ≤ x2 ∧ x2 < 256 := by have := b[4 * k + 2].toNat_lt; omega
      have y3 : 0 ≤ x3 ∧ x3 < 256 := by have := b[4 * k + 3].toNat_lt; omega
      rw [hx0] at e0
      rw [hx1] at e1
      rw [hx2] at e2
      rw [hx3] at e3
      rw [hm] at e0 e1 e2 e3
      have i0 : (0 : Int) ≤ (m : Int) ∧ (m : Int) < (b.length : Int) := by omega
      have i1 : (0 : Int) ≤ (m1 : Int) ∧ (m1 : Int) < (b.length : Int) := by omega
      have i2 : (0 : Int) ≤ (m2 : Int) ∧ (m2 : Int) < (b.length : Int) := by omega
      have i3 : (0 : Int) ≤ (m3 : Int) ∧ (m3 : Int) < (b.length : Int) := by omega
      rw [hm1] at e1
      rw [hm2] at e2
      rw [hm3] at e3
      have g64 : (0 : Int) ≤ (k : Int) ∧ (k : Int) < 64 := by omega
      have v0 : IntKind.u32.wrap x0 = x0 := by rw [IntKind.wrap_u32]; omega
      have v1 : IntKind.u32.wrap x1 = x1 := by rw [IntKind.wrap_u32]; omega
      have v2 : IntKind.u32.wrap x2 = x2 := by rw [IntKind.wrap_u32]; omega
      have v3 : IntKind.u32.wrap x3 = x3 := by rw [IntKind.wrap_u32]; omega
      have r0 : IntKind.u32.wrap (x0 * 16777216) = x0 * 16777216 := by rw [IntKind.wrap_u32]; omega
      have r1 : IntKind.u32.wrap (x1 * 65536) = x1 * 65536 := by rw [IntKind.wrap_u32]; omega
      have r2 : IntKind.u32.wrap (x2 * 256) = x2 * 256 := by rw [IntKind.wrap_u32]; omega
      replace hm1 := Lib.hid hm1
      replace hm2 := Lib.hid hm2
      replace hm3 := Lib.hid hm3
      replace hm := Lib.hid hm
      replace hx0 := Lib.hid hx0
      replace hx1 := Lib.hid hx1
      replace hx2 := Lib.hid hx2
      replace hx3 := Lib.hid hx3
      replace hr := Lib.hid hr
      replace hW := Lib.hid hW
      replace st := Lib.hid st
      go_wp2_with fail
      refine wp_region_still_tail 35 (by kernel_rfl) (by kernel_rfl) ?_
      simp only [List.take_succ_cons, List.take_zero, List.drop_succ_cons, List.drop_zero]
      repeat still_step
      refine wpStill_nil ?_
      have sd := Lib.hid st.out.drew
      have Wq := Lib.hid (hW.out.stp (Stp.refl [] wr o1).drew (by simp))
      change wpList _ _ _ _ _ wr.drew
      replace hc : wr.drew.cell? ⟨w.heap.size, k, none⟩ = _ := hc
      replace hf : wr.drew.frozen? ⟨w.heap.size, k, none⟩ = _ := hf
      generalize wr.drew = w2 at *
      go_wp2
      go_roundw
      case rel =>
        obtain ⟨W3, s3⟩ := Wq.out.set k (U.bits .or (bits .or .u32 (bits .or .u32 (x0 * 16777216) (x1 * 65536)) (x2 * 256)) x3)
        refine ⟨k + 1, o1, by go_num, by omega, sd.out.trans s3, ?_⟩
        rw [loadI, byI_get (show 4 * k < b.length by omega), byI_get (show 4 * k + 1 < b.length by omega), byI_get (show 4 * k + 2 < b.length by omega), byI_get (show 4 * k + 3 < b.length by omega), hx0.out, hx1.out, hx2.out, hx3.out]
        exact W3
      case measure => simp [intOf]; omega
    · have hk16 : k = 16 := by omega
      have g1 : decide ((k : Int) < 16) = false := decide_eq_false (by omega)
      rw [hk16] at hW
      replace hk16 := Lib.hid hk16
      replace st := Lib.hid st
      replace hW := Lib.hid hW
      go_wp2_with fail
      go_loopw [8] (Mr (w.alloc (.cells (us (loadI b 0)).toArray 112)) (paint o w.heap.size d) d w.heap.size (loadI b 16)) (fun x _ => 64 - (intOf x).toNat)
      case atStart => exact ⟨16, 0, _, rfl, by omega, by omega, st.out, hW.out⟩
      case round =>
        obtain ⟨i, n, o2, rfl, hi, hn, st2, hW2⟩ := hrel
        have hl2 : (moreI (loadI b 16) n).length = 64 := by rw [moreI_len, loadI_len]
        by_cases hlt : i < 64
        · have g1 : decide ((i : Int) < 64) = true := decide_eq_true (by omega)
          obtain ⟨n1, hn1⟩ : ∃ n1, n + 1 = n1 := ⟨_, rfl⟩
          obtain ⟨n9, hn9⟩ : ∃ n9, n + 9 = n9 := ⟨_, rfl⟩
          obtain ⟨n14, hn14⟩ : ∃ n14, n + 14 = n14 := ⟨_, rfl⟩
          have z0 : IntKind.i64.wrap ((i : Int) - 16) = (n : Int) := by rw [IntKind.wrap_i64]; omega
          have z1 : IntKind.i64.wrap ((i : Int) - 15) = (n1 : Int) := by rw [IntKind.wrap_i64]; omega
          have z2 : IntKind.i64.wrap ((i : Int) - 7) = (n9 : Int) := by rw [IntKind.wrap_i64]; omega
          have z3 : IntKind.i64.wrap ((i : Int) - 2) = (n14 : Int) := by rw [IntKind.wrap_i64]; omega
          have i0 : (0 : Int) ≤ (n : Int) ∧ (n : Int) < 64 := by omega
          have i1 : (0 : Int) ≤ (n1 : Int) ∧ (n1 : Int) < 64 := by omega
          have i2 : (0 : Int) ≤ (n9 : Int) ∧ (n9 : Int) < 64 := by omega
          have i3 : (0 : Int) ≤ (n14 : Int) ∧ (n14 : Int) < 64 := by omega
          have i4 : (0 : Int) ≤ (i : Int) ∧ (i : Int) < 64 := by omega
          have e0 := hW2.cell (i := n) (by omega)
          have e1 := hW2.cell (i := n1) (by omega)
          have e9 := hW2.cell (i := n9) (by omega)
          have e14 := hW2.cell (i := n14) (by omega)
          have ei := hW2.cell (i := i) (by omega)
          have ef := hW2.free i
          have r1 := getD_U hW2.rng n1
          have r14 := getD_U hW2.rng n14
          obtain ⟨a0, ha0⟩ : ∃ a0, (moreI (loadI b 16) n).getD n 0 = a0 := ⟨_, rfl⟩
          obtain ⟨a1, ha1⟩ : ∃ a1, (moreI (loadI b 16) n).getD n1 0 = a1 := ⟨_, rfl⟩
          obtain ⟨a9, ha9⟩ : ∃ a9, (moreI (loadI b 16) n).getD n9 0 = a9 := ⟨_, rfl⟩
          obtain ⟨a14, ha14⟩ : ∃ a14, (moreI (loadI b 16) n).getD n14 0 = a14 := ⟨_, rfl⟩
          obtain ⟨ai, hai⟩ : ∃ ai, (moreI (loadI b 16) n).getD i 0 = ai := ⟨_, rfl⟩
          rw [ha0] at e0
          rw [ha1] at e1 r1
          rw [ha9] at e9
          rw [ha14] at e14 r14
          rw [hai] at ei
          obtain ⟨q1, hq1⟩ : ∃ q1, (a0 + s0I a1) % 4294967296 = q1 := ⟨_, rfl⟩
          obtain ⟨q2, hq2⟩ : ∃ q2, (q1 + a9) % 4294967296 = q2 := ⟨_, rfl⟩
          obtain ⟨q3, hq3⟩ : ∃ q3, (q2 + s1I a14) % 4294967296 = q3 := ⟨_, rfl⟩
          have w1 : IntKind.u32.wrap (a0 + s0I a1) = q1 := by rw [IntKind.wrap_u32, hq1]
          have w2 : IntKind.u32.wrap (q1 + a9) = q2 := by rw [IntKind.wrap_u32, hq2]
          have w3 : IntKind.u32.wrap (q2 + s1I a14) = q3 := by rw [IntKind.wrap_u32, hq3]
          have hset : moreI (loadI b 16) (n + 1) = (moreI (loadI b 16) n).set i q3 := by rw [moreI, hn1, hn9, hn14, ha0, ha1, ha9, ha14, hq1, hq2, hq3, show n + 16 = i by omega]
          have hqU : U q3 := by rw [← hq3]; exact U.mod _
          have hin : i + 1 = n + 1 + 16 ∧ n + 1 ≤ 48 := by omega
          replace hin := Lib.hid hin
          replace hi := Lib.hid hi
          replace hset := Lib.hid hset
          replace hqU := Lib.hid hqU
          replace ha0 := Lib.hid ha0
          replace ha1 := Lib.hid ha1
          replace ha9 := Lib.hid ha9
          replace ha14 := Lib.hid ha14
          replace hai := Lib.hid hai
          replace hq1 := Lib.hid hq1
          replace hq2 := Lib.hid hq2
          replace hq3 := Lib.hid hq3
          replace hn1 := Lib.hid hn1
          replace hn9 := Lib.hid hn9
          replace hn14 := Lib.hid hn14
          replace hW2 := Lib.hid hW2
          replace st2 := Lib.hid st2
          go_wp2_with fail
          refine wp_region_still_tail 23 (by kernel_rfl) (by kernel_rfl) ?_
          simp only [List.take_succ_cons, List.take_zero, List.drop_succ_cons, List.drop_zero]
          repeat still_step
          still_call ((s0_calls a1 r1.1 r1.2 _).mono (fun _ _ h => ⟨h.1, h.2.symm⟩))
          repeat still_step
          still_call ((s1_calls a14 r14.1 r14.2 _).mono (fun _ _ h => ⟨h.1, h.2.symm⟩))
          repeat still_step
          refine wpStill_nil ?_
          have sd := Lib.hid st2.out.drew
          have Wq := Lib.hid (hW2.out.stp (Stp.refl [] wr o2).drew (by simp))
          change wpList _ _ _ _ _ wr.drew
          replace ei : wr.drew.cell? ⟨w.heap.size, i, none⟩ = _ := ei
          replace ef : wr.drew.frozen? ⟨w.heap.size, i, none⟩ = _ := ef
          clear e0 e1 e9 e14
          generalize wr.drew = wd at *
          go_wp2
          go_roundw
          case rel =>
            obtain ⟨W3, s3⟩ := Wq.out.set i hqU.out
            exact ⟨i + 1, n + 1, o2, by go_num, hin.out.1, hin.out.2, sd.out.trans s3, by rw [hset.out]; exact W3⟩
          case measure => simp [intOf]; omega
        · have hi64 : i = 64 := by omega
          have hn48 : n = 48 := by omega
          have g1 : decide ((i : Int) < 64) = false := decide_eq_false (by omega)
          subst hn48
          replace hi := Lib.hid hi
          replace hi64 := Lib.hid hi64
          obtain ⟨L, hL⟩ : ∃ L, moreI (loadI b 16) 48 = L := ⟨_, rfl⟩
          rw [hL] at hW2
          have hL64 : L.length = 64 := by rw [← hL, moreI_len, loadI_len]
          have hs2 := (hs0.out).stp st2 (by simpa using fun e : c = d => hdc e.symm)
          have hK2 := (hK0.out).stp st2 (by simpa using fun e : c3 = d => hdc3 e.symm)
          have hok := S8.of_ok hs2.rng
          obtain ⟨s0, s1, s2, s3, s4, s5, s6, s7, rfl⟩ : ∃ s0 s1 s2 s3 s4 s5 s6 s7, s = [s0, s1, s2, s3, s4, s5, s6, s7] := by
            match s, hs8 with
            | [s0, s1, s2, s3, s4, s5, s6, s7], _ => exact ⟨_, _, _, _, _, _, _, _, rfl⟩
          have c0 := hs2.cell (i := 0) (by simp)
          have c1 := hs2.cell (i := 1) (by simp)
          have c2' := hs2.cell (i := 2) (by simp)
          have c3' := hs2.cell (i := 3) (by simp)
          have c4 := hs2.cell (i := 4) (by simp)
          have c5 := hs2.cell (i := 5) (by simp)
          have c6 := hs2.cell (i := 6) (by simp)
          have c7 := hs2.cell (i := 7) (by simp)
          simp only [List.getD_cons_zero, List.getD_cons_succ] at c0 c1 c2' c3' c4 c5 c6 c7
          replace hW2 := Lib.hid hW2
          replace st2 := Lib.hid st2
          replace hs2 := Lib.hid hs2
          replace hK2 := Lib.hid hK2
          replace hL := Lib.hid hL
          replace hok := Lib.hid hok
          replace hs8 := Lib.hid hs8
          have sB : Stp [] wr o2 (wr.alloc (.cells #[.int .u32 s0, .int .u32 s1, .int .u32 s2, .int .u32 s3, .int .u32 s4, .int .u32 s5, .int .u32 s6, .int .u32 s7] 123)) (paint o2 wr.heap.size e) := (Stp.refl [] wr o2).alloc _ e
          have V0 := Wd.new wr o2 e 123 [s0, s1, s2, s3, s4, s5, s6, s7] hs2.out.rng
          have hW3 := hW2.out.stp sB (by simp)
          have hs3 := hs2.out.stp sB (by simp)
          have hK3 := hK2.out.stp sB (by simp)
          replace V0 := Lib.hid V0
          replace hW3 := Lib.hid hW3
          replace hs3 := Lib.hid hs3
          replace hK3 := Lib.hid hK3
          have sB' := Lib.hid (st2.out.trans sB.none)
          clear sB
          go_wp2_with fail
          clear c0 c1 c2' c3' c4 c5 c6 c7
          obtain ⟨wB, hwB⟩ : ∃ wB, wr.alloc (.cells #[.int .u32 s0, .int .u32 s1, .int .u32 s2, .int .u32 s3, .int .u32 s4, .int .u32 s5, .int .u32 s6, .int .u32 s7] 123) = wB := ⟨_, rfl⟩
          have V0' : Wd (wr.alloc (.cells #[.int .u32 s0, .int .u32 s1, .int .u32 s2, .int .u32 s3, .int .u32 s4, .int .u32 s5, .int .u32 s6, .int .u32 s7] 123)) (paint o2 wr.heap.size e) e wr.heap.size 123 [s0, s1, s2, s3, s4, s5, s6, s7] := V0.out
          rw [hwB] at hW3 hs3 hK3 sB' V0' ⊢
          obtain ⟨oB, hoB⟩ : ∃ oB, paint o2 wr.heap.size e = oB := ⟨_, rfl⟩
          rw [hoB] at hW3 hs3 hK3 sB' V0'
          obtain ⟨V, hV⟩ : ∃ V, wr.heap.size = V := ⟨_, rfl⟩
          rw [hV] at V0' ⊢
          replace V0' := Lib.hid V0'
          clear V0 hwB hoB hV
          obtain ⟨X, hX⟩ : ∃ X, w.heap.size = X := ⟨_, rfl⟩
          rw [hX] at hW3 ⊢
          go_loopw [83] (Rn wB oB e V K L (S8.of [s0, s1, s2, s3, s4, s5, s6, s7])) (fun x _ => 64 - (intOf x).toNat)
          case atStart => exact ⟨0, _, rfl, by omega, Stp.refl _ _ _, V0'.out⟩
          case round =>
            obtain ⟨n, o3, rfl, hn, st3, hV3⟩ := hrel
            have okn := roundsI_ok K L hok.out n
            have hrs : roundsI K L (S8.of [s0, s1, s2, s3, s4, s5, s6, s7]) (n + 1) = roundI (K.getD n 0) (L.getD n 0) (roundsI K L (S8.of [s0, s1, s2, s3, s4, s5, s6, s7]) n) := rfl
            obtain ⟨vv, hvv⟩ : ∃ vv, roundsI K L (S8.of [s0, s1, s2, s3, s4, s5, s6, s7]) n = vv := ⟨_, rfl⟩
            rw [hvv] at hV3 hrs okn
            by_cases hlt3 : n < 64
            · have g1 : decide ((n : Int) < 64) = true := decide_eq_true (by omega)
              have i1 : (0 : Int) ≤ (n : Int) ∧ (n : Int) < 64 := by omega
              have ek := (hK3.out.stp st3 (by simpa using fun x : c3 = e => hec3 x.symm)).cell (i := n) (by omega)
              have ew := (hW3.out.stp st3 (by simpa using fun x : d = e => hed x.symm)).cell (i := n) (by omega)
              obtain ⟨kx, hkx⟩ : ∃ kx, K.getD n 0 = kx := ⟨_, rfl⟩
              obtain ⟨wx, hwx⟩ : ∃ wx, L.getD n 0 = wx := ⟨_, rfl⟩
              rw [hkx] at ek hrs
              rw [hwx] at ew hrs
              have k0 := hV3.cell (i := 0) (by simp [S8.l])
              have k1 := hV3.cell (i := 1) (by simp [S8.l])
              have k2 := hV3.cell (i := 2) (by simp [S8.l])
              have k3 := hV3.cell (i := 3) (by simp [S8.l])
              have k4 := hV3.cell (i := 4) (by simp [S8.l])
              have k5 := hV3.cell (i := 5) (by simp [S8.l])
              have k6 := hV3.cell (i := 6) (by simp [S8.l])
              have k7 := hV3.cell (i := 7) (by simp [S8.l])
              have f0 := hV3.free 0
              have f1 := hV3.free 1
              have f2 := hV3.free 2
              have f3 := hV3.free 3
              have f4 := hV3.free 4
              have f5 := hV3.free 5
              have f6 := hV3.free 6
              have f7 := hV3.free 7
              simp only [S8.l, List.getD_cons_zero, List.getD_cons_succ] at k0 k1 k2 k3 k4 k5 k6 k7
              obtain ⟨va, vb, vc, vd, ve, vf, vg, vh⟩ := vv
              obtain ⟨n0, n1, n2, n3, n4, n5, n6, n7⟩ := okn
              dsimp only at k0 k1 k2 k3 k4 k5 k6 k7 n0 n1 n2 n3 n4 n5 n6 n7
              obtain ⟨q1, hq1⟩ : ∃ q1, (vh + b1I ve) % 4294967296 = q1 := ⟨_, rfl⟩
              obtain ⟨q2, hq2⟩ : ∃ q2, (q1 + chI ve vf vg) % 4294967296 = q2 := ⟨_, rfl⟩
              obtain ⟨q3, hq3⟩ : ∃ q3, (q2 + kx) % 4294967296 = q3 := ⟨_, rfl⟩
              obtain ⟨t1, ht1⟩ : ∃ t1, (q3 + wx) % 4294967296 = t1 := ⟨_, rfl⟩
              obtain ⟨t2, ht2⟩ : ∃ t2, (b0I va + mjI va vb vc) % 4294967296 = t2 := ⟨_, rfl⟩
              obtain ⟨x1, hx1⟩ : ∃ x1, (t1 + t2) % 4294967296 = x1 := ⟨_, rfl⟩
              obtain ⟨x5, hx5⟩ : ∃ x5, (vd + t1) % 4294967296 = x5 := ⟨_, rfl⟩
              have w1 : IntKind.u32.wrap (vh + b1I ve) = q1 := by rw [IntKind.wrap_u32, hq1]
              have w2 : IntKind.u32.wrap (q1 + chI ve vf vg) = q2 := by rw [IntKind.wrap_u32, hq2]
              have w3 : IntKind.u32.wrap (q2 + kx) = q3 := by rw [IntKind.wrap_u32, hq3]
              have w4 : IntKind.u32.wrap (q3 + wx) = t1 := by rw [IntKind.wrap_u32, ht1]
              have w5 : IntKind.u32.wrap (b0I va + mjI va vb vc) = t2 := by rw [IntKind.wrap_u32, ht2]
              have w6 : IntKind.u32.wrap (t1 + t2) = x1 := by rw [IntKind.wrap_u32, hx1]
              have w7 : IntKind.u32.wrap (vd + t1) = x5 := by rw [IntKind.wrap_u32, hx5]
              have hrd : roundI kx wx ⟨va, vb, vc, vd, ve, vf, vg, vh⟩ = ⟨x1, va, vb, vc, x5, ve, vf, vg⟩ := by
                have e1 : t1I kx wx ⟨va, vb, vc, vd, ve, vf, vg, vh⟩ = t1 := by rw [← ht1, ← hq3, ← hq2, ← hq1]; rfl
                have e2 : t2I ⟨va, vb, vc, vd, ve, vf, vg, vh⟩ = t2 := by rw [← ht2]; rfl
                rw [roundI, e1, e2, hx1, hx5]
              rw [hrd] at hrs
              have ok9 : S8.ok ⟨x1, va, vb, vc, x5, ve, vf, vg⟩ := ⟨by rw [← hx1]; exact U.mod _, n0, n1, n2, by rw [← hx5]; exact U.mod _, n4, n5, n6⟩
              replace hrs := Lib.hid hrs
              replace hrd := Lib.hid hrd
              replace ok9 := Lib.hid ok9
              replace hvv := Lib.hid hvv
              replace hkx := Lib.hid hkx
              replace hwx := Lib.hid hwx
              replace hq1 := Lib.hid hq1
              replace hq2 := Lib.hid hq2
              replace hq3 := Lib.hid hq3
              replace ht1 := Lib.hid ht1
              replace ht2 := Lib.hid ht2
              have Hx1 := Lib.hid hx1
              have Hx5 := Lib.hid hx5
              replace hV3 := Lib.hid hV3
              replace st3 := Lib.hid st3
              go_wp2_with fail
              go_quiet (first
                | (go_at_call 98
                   exact Calls.quiet_of_same ((b1_calls ve n4.1 n4.2 _).mono (fun _ _ h => ⟨h.1, h.2.symm⟩)))
                | (go_at_call 99
                   exact Calls.quiet_of_same ((choose_calls ve vf vg n4 n5 n6 _).mono (fun _ _ h => ⟨h.1, h.2.symm⟩))))
              go_wp2_with fail
              have sdn := Lib.hid (st3.out.drewN nq)
              have Vdn := Lib.hid (hV3.out.stp ((Stp.refl [] wr o3).drewN nq) (by simp))
              replace k0 : (wr.drewN nq).cell? ⟨V, 0, none⟩ = _ := k0
              replace f0 : (wr.drewN nq).frozen? ⟨V, 0, none⟩ = _ := f0
              replace k1 : (wr.drewN nq).cell? ⟨V, 1, none⟩ = _ := k1
              replace f1 : (wr.drewN nq).frozen? ⟨V, 1, none⟩ = _ := f1
              replace k2 : (wr.drewN nq).cell? ⟨V, 2, none⟩ = _ := k2
              replace f2 : (wr.drewN nq).frozen? ⟨V, 2, none⟩ = _ := f2
              replace k3 : (wr.drewN nq).cell? ⟨V, 3, none⟩ = _ := k3
              replace f3 : (wr.drewN nq).frozen? ⟨V, 3, none⟩ = _ := f3
              replace k4 : (wr.drewN nq).cell? ⟨V, 4, none⟩ = _ := k4
              replace f4 : (wr.drewN nq).frozen? ⟨V, 4, none⟩ = _ := f4
              replace k5 : (wr.drewN nq).cell? ⟨V, 5, none⟩ = _ := k5
              replace f5 : (wr.drewN nq).frozen? ⟨V, 5, none⟩ = _ := f5
              replace k6 : (wr.drewN nq).cell? ⟨V, 6, none⟩ = _ := k6
              replace f6 : (wr.drewN nq).frozen? ⟨V, 6, none⟩ = _ := f6
              replace k7 : (wr.drewN nq).cell? ⟨V, 7, none⟩ = _ := k7
              replace f7 : (wr.drewN nq).frozen? ⟨V, 7, none⟩ = _ := f7
              clear ek ew
              generalize wr.drewN nq = wn at *
              go_quiet (first
                | (go_at_call 100
                   exact Calls.quiet_of_same ((b0_calls va n0.1 n0.2 _).mono (fun _ _ h => ⟨h.1, h.2.symm⟩)))
                | (go_at_call 101
                   exact Calls.quiet_of_same ((most_calls va vb vc n0 n1 n2 _).mono (fun _ _ h => ⟨h.1, h.2.symm⟩))))
              go_wp2
              go_roundw
              case rel =>
                have Vdm := Vdn.out.stp ((Stp.refl [] wn o3).drewN nq) (by simp)
                obtain ⟨V9, s9⟩ := Vdm.all8 rfl _ ok9.out
                exact ⟨n + 1, o3, by go_num, by omega, (sdn.out.drewN nq).trans s9, by rw [hrs.out]; exact V9⟩
              case measure => simp [intOf]; omega
            · have hn64 : n = 64 := by omega
              have g1 : decide ((n : Int) < 64) = false := decide_eq_false (by omega)
              rw [← hvv, hn64] at hV3
              replace hn64 := Lib.hid hn64
              obtain ⟨vl, hvl⟩ : ∃ vl, (roundsI K L (S8.of [s0, s1, s2, s3, s4, s5, s6, s7]) 64).l = vl := ⟨_, rfl⟩
              have hvl8 : vl.length = 8 := by rw [← hvl]; rfl
              rw [hvl] at hV3
              have hs4 := hs3.out.stp st3 (by simpa using fun x : c = e => hec x.symm)
              have hbl : blockI K [s0, s1, s2, s3, s4, s5, s6, s7] b = addI [s0, s1, s2, s3, s4, s5, s6, s7] vl 8 := by rw [blockI, hL.out, hvl]
              have sall : Stp [d, e, c] w o wr o3 := ((sa.out.trans sB'.out).mono (by simp) : Stp [d, e, c] _ _ _ _).trans (st3.mono (by simp))
              obtain ⟨w3, hw3⟩ : ∃ w3, wr = w3 := ⟨_, rfl⟩
              subst hw3
              replace hbl := Lib.hid hbl
              replace hvl := Lib.hid hvl
              replace hvv := Lib.hid hvv
              replace hrs := Lib.hid hrs
              replace hV3 := Lib.hid hV3
              replace hs4 := Lib.hid hs4
              replace st3 := Lib.hid st3
              replace sall := Lib.hid sall
              go_wp2_with fail
              go_loopw [142] (Ad wr o3 c p [s0, s1, s2, s3, s4, s5, s6, s7] vl) (fun x _ => 8 - (intOf x).toNat)
              case atStart => exact ⟨0, o3, rfl, by omega, Stp.refl _ _ _, hs4.out⟩
              case round =>
                obtain ⟨m, o4, rfl, hm, st4, hs5⟩ := hrel
                have hl8 : (addI [s0, s1, s2, s3, s4, s5, s6, s7] vl m).length = 8 := by rw [addI_len]; rfl
                by_cases hlt4 : m < 8
                · have g4 : decide ((m : Int) < 8) = true := decide_eq_true (by omega)
                  have i1 : (0 : Int) ≤ (m : Int) ∧ (m : Int) < 8 := by omega
                  have e1 := hs5.cell (i := m) (by omega)
                  have e2 := (hV3.out.stp st4 (by simpa using hec)).cell (i := m) (by omega)
                  have ef := hs5.free m
                  have hadd : addI [s0, s1, s2, s3, s4, s5, s6, s7] vl (m + 1) = (addI [s0, s1, s2, s3, s4, s5, s6, s7] vl m).set m (((addI [s0, s1, s2, s3, s4, s5, s6, s7] vl m).getD m 0 + vl.getD m 0) % 4294967296) := rfl
                  obtain ⟨a1, ha1⟩ : ∃ a1, (addI [s0, s1, s2, s3, s4, s5, s6, s7] vl m).getD m 0 = a1 := ⟨_, rfl⟩
                  obtain ⟨a2, ha2⟩ : ∃ a2, vl.getD m 0 = a2 := ⟨_, rfl⟩
                  rw [ha1] at e1 hadd
                  rw [ha2] at e2 hadd
                  obtain ⟨a3, ha3⟩ : ∃ a3, (a1 + a2) % 4294967296 = a3 := ⟨_, rfl⟩
                  have ww : IntKind.u32.wrap (a1 + a2) = a3 := by rw [IntKind.wrap_u32, ha3]
                  have hU : U a3 := by rw [← ha3]; exact U.mod _
                  rw [ha3] at hadd
                  replace hadd := Lib.hid hadd
                  replace ha1 := Lib.hid ha1
                  replace ha2 := Lib.hid ha2
                  replace ha3 := Lib.hid ha3
                  replace hU := Lib.hid hU
                  replace hs5 := Lib.hid hs5
                  replace st4 := Lib.hid st4
                  go_wp2_with fail
                  refine wp_region_still_tail 11 (by kernel_rfl) (by kernel_rfl) ?_
                  simp only [List.take_succ_cons, List.take_zero, List.drop_succ_cons, List.drop_zero]
                  repeat still_step
                  refine wpStill_nil ?_
                  have sd := Lib.hid st4.out.drew
                  have Wq := Lib.hid (hs5.out.stp (Stp.refl [] wr o4).drew (by simp))
                  change wpList _ _ _ _ _ wr.drew
                  replace e1 : wr.drew.cell? ⟨p, m, none⟩ = _ := e1
                  replace ef : wr.drew.frozen? ⟨p, m, none⟩ = _ := ef
                  clear e2
                  generalize wr.drew = wd at *
                  go_wp2
                  go_roundw
                  case rel =>
                    obtain ⟨W3, s3⟩ := Wq.out.set m hU.out
                    exact ⟨m + 1, o4, by go_num, by omega, sd.out.trans s3, by rw [hadd.out]; exact W3⟩
                  case measure => simp [intOf]; omega
                · have hm8 : m = 8 := by omega
                  have g4 : decide ((m : Int) < 8) = false := decide_eq_false (by omega)
                  rw [hm8] at hs5
                  replace hm8 := Lib.hid hm8
                  replace hs5 := Lib.hid hs5
                  have sfin := Lib.hid ((((sall.out.trans (st4.mono (by simp))).drop hd).drop he))
                  replace st4 := Lib.hid st4
                  go_wp2
                  refine bodyPost_ret (results_none rfl _ _ _) rfl ?_
                  exact Post.mk sfin.out ⟨rfl, by rw [hbl.out]; exact hs5.out⟩
end Go.Proofs.Ytpjnmijfmfgdpaa
