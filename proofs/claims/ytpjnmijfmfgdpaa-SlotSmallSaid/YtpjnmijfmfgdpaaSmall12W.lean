/- SlotSmall: the walk. -/
import Derived.Test.YtpjnmijfmfgdpaaKnown12
namespace Go.Proofs.Ytpjnmijfmfgdpaa
set_option linter.unusedVariables false
set_option linter.unusedSimpArgs false
open Go.RowKit

theorem loaded_congr {s t : FS} (h : s.pg = t.pg) : loadedS s = loadedS t := by
  show loadGo s 2 = loadGo t 2
  have e0 : wholeS s 0 = wholeS t 0 := wholeS_congr 0 (fun i _ _ => by rw [h]) (by rw [h])
  have e1 : wholeS s 1 = wholeS t 1 := wholeS_congr 1 (fun i _ _ => by rw [h]) (by rw [h])
  rw [loadGo_two, loadGo_two, e0, e1]
/-- A save at whose first act the power goes off, with nothing done. -/
theorem save_off {s : FS} {b : List UInt8} {n : Nat} {t : Int} (h : Tells s b n t) {b' : List UInt8} (hb : b'.length ≤ 2500) (hn : n < 1073741824) :
    ∃ s', saveS (fuseS s 0 0) b' = (s', 11) ∧ s'.dead = true ∧ s'.pg = s.pg := by
  obtain ⟨s2, hs2⟩ : ∃ s2, fuseS s 0 0 = s2 := ⟨_, rfl⟩
  have hpg : s2.pg = s.pg := by rw [← hs2]; rfl
  have hfu : s2.fuse = 0 := by rw [← hs2]; rfl
  have hte : s2.tear = 0 := by rw [← hs2]; rfl
  have hde : s2.dead = false := by rw [← hs2]; exact h.calm.2
  rw [hs2]
  have hld : loadedS s2 = (b, n, t) := by rw [loaded_congr hpg, h.told]
  have hroom := h.room
  have hslot : slotAt t ≤ 40 := by unfold slotAt; split <;> omega
  obtain ⟨PK, hPK⟩ : ∃ PK, packS ((n : Int) + 1) b' = PK := ⟨_, rfl⟩
  have hpl := packS_len ((n : Int) + 1) b'
  rw [hPK] at hpl
  have hm : mayE s2 ((slotAt t : Nat) : Int) 0 = 0 := by rw [mayE, if_neg (by rw [hde]; simp), if_neg (by simp [hasB, hpg]; omega)]
  have hset : s.pg.set (slotAt t) (List.take (0 : Int).toNat blankPage ++ List.drop (0 : Int).toNat (s.pg.getD (slotAt t) [])) = s.pg := by
    rw [Int.toNat_zero, List.take_zero, List.drop_zero, List.nil_append, List.getD_eq_getElem?_getD, List.getElem?_eq_getElem (by omega), Option.getD_some, List.set_getElem_self]
  have hbec : bec s2 (slotAt t) blankPage = { s2 with pg := s.pg, dead := true } := by rw [bec, if_pos hfu, hte, hpg, hset]
  have he : erasesS s2 (slotAt t) 1 = ({ s2 with pg := s.pg, dead := true }, 11) := by
    rw [erasesS, erasesS, if_pos rfl, Nat.add_zero, eraseS, eraseE, if_pos hm, if_pos hm, Int.toNat_natCast, hbec, becE, if_pos hfu]
  have hst := erasesS_stuck s2 (slotAt t) (i := 1) (by rw [he]; simp) (manyN PK) (by unfold manyN; omega)
  refine ⟨{ s2 with pg := s.pg, dead := true }, ?_, rfl, rfl⟩
  rw [saveS, if_neg (by rw [hpg]; omega), if_neg (by rw [hde]; simp), if_neg (by omega), hld]
  dsimp only
  rw [if_neg (by omega), hPK, layS, hst, he]
  rfl
theorem save_dead {s : FS} (h80 : 80 ≤ s.pg.length) (hd : s.dead = true) (b : List UInt8) : saveS s b = (s, 11) := by rw [saveS, if_neg (by omega), if_pos hd]
theorem save_small {s : FS} (h80 : s.pg.length < 80) (b : List UInt8) : saveS s b = (s, 1) ∧ loadS s = ([], 0, 1) := ⟨by rw [saveS, if_pos h80], by rw [loadS, if_pos h80]⟩

/-! ### A nil flash -/
theorem nil_len (w : World) : Calls Try.prog 69 #[.pointer none] w fun e w' => e = .returned (.int .i64 0) ∧ w = w' := by
  go_enter Try.func69, Try.ntmps69
  go_wp2
  go_ret
  exact ⟨rfl, rfl⟩
theorem nil_isFlash (w : World) : Calls Try.prog 47 #[.pointer none] w fun e w' => e = .returned (.bool false) ∧ w = w' := by
  go_enter Try.func47, Try.ntmps47
  go_wp2_with fail
  refine (nil_len _).mono ?_
  rintro e w' ⟨rfl, rfl⟩
  go_wp2
  go_ret
  exact ⟨rfl, rfl⟩
theorem nil_load (w : World) : Calls Try.prog 17 #[.pointer none] w fun e w' => e = .returned (.tuple #[.slice none 0 0, .int .i64 0, .int .i64 1]) ∧ w = w' := by
  go_enter Try.func17, Try.ntmps17
  go_wp2_with fail
  refine (nil_isFlash _).mono ?_
  rintro e w' ⟨rfl, rfl⟩
  go_wp2
  exact bodyPost_ret (results_tmp3 rfl _ _ _) rfl ⟨rfl, rfl⟩
theorem nil_save (A : Option Addr) (n cap : Nat) (w : World) : Calls Try.prog 16 #[.pointer none, .slice A n cap] w fun e w' => e = .returned (.int .i64 1) ∧ w = w' := by
  go_enter Try.func16, Try.ntmps16
  go_wp2_with fail
  refine (nil_isFlash _).mono ?_
  rintro e w' ⟨rfl, rfl⟩
  go_wp2
  go_ret
  exact ⟨rfl, rfl⟩

set_option maxHeartbeats 8000000 in
set_option maxRecDepth 100000 in
theorem small12_law (n : Int) (v : Value) (b : List UInt8) (w : World) (_hw : (Lit.int .i64 n).wf = true) (hb : RdB w (fun _ => 0) 0 v b) : Calls Try.prog 6 #[.int .i64 n, v] w (Post [] w (fun _ => 0) fun r _ _ => r = .bool true) := by
  obtain ⟨A, capA, rfl, hlc, hA⟩ := hb.shape
  replace hb := Lib.hid hb
  by_cases h1 : n < 1
  · have g1 : decide (n < 1) = true := decide_eq_true h1
    go_enter Try.func6, Try.ntmps6
    go_wp2
    go_ret
    exact Post.mk (Stp.refl _ _ _) rfl
  have g1 : decide (n < 1) = false := decide_eq_false h1
  by_cases h2 : 90 < n
  · have g2 : decide (90 < n) = true := decide_eq_true h2
    go_enter Try.func6, Try.ntmps6
    go_wp2
    go_ret
    exact Post.mk (Stp.refl _ _ _) rfl
  have g2 : decide (90 < n) = false := decide_eq_false h2
  by_cases h3 : 200 < b.length
  · have g3 : decide ((200 : Int) < (b.length : Int)) = true := decide_eq_true (by omega)
    go_enter Try.func6, Try.ntmps6
    go_wp2
    go_ret
    exact Post.mk (Stp.refl _ _ _) rfl
  have g3 : decide ((200 : Int) < (b.length : Int)) = false := decide_eq_false (by omega)
  obtain ⟨N, hN⟩ : ∃ N : Nat, (N : Int) = n := ⟨n.toNat, by omega⟩
  have hnew := new_calls 1 n w (fun _ => 0) N (by omega)
  obtain ⟨S0, hS0⟩ : ∃ S0, newS N = S0 := ⟨_, rfl⟩
  have hlen0 : S0.pg.length = N := by rw [← hS0]; simp [newS]
  rw [show (⟨List.replicate N blankPage, -1, 0, false⟩ : FS) = S0 from hS0] at hnew
  by_cases h80 : n < 80
  · have g4 : decide (n < 80) = true := decide_eq_true h80
    obtain ⟨e1, e2⟩ := save_small (s := S0) (by omega) b
    replace hS0 := Lib.hid hS0
    replace hN := Lib.hid hN
    replace hlen0 := Lib.hid hlen0
    replace e1 := Lib.hid e1
    replace e2 := Lib.hid e2
    go_enter Try.func6, Try.ntmps6
    go_wp2_with fail
    refine hnew.mono ?_
    clear hnew
    rintro e w1 ⟨r, o1, rfl, s1, p, g, cap, rfl, f1⟩
    have hld := load_calls 1 3 p g cap S0 w1 o1 f1
    rw [e2.out] at hld
    replace f1 := Lib.hid f1
    replace s1 := Lib.hid s1
    go_wp2_with fail
    refine hld.mono ?_
    clear hld
    rintro e w2 ⟨r, o2, rfl, s2, v2, rfl, hv2⟩
    have f2 := f1.out.stp s2 (by simp)
    have st2 := s1.out.trans s2
    have hsv := save_calls 1 0 p g cap S0 _ b w2 o2 f2 (hb.out.stp st2 (by simp)) (by omega) (by omega)
    rw [e1.out] at hsv
    dsimp only at hsv
    replace f2 := Lib.hid f2
    replace st2 := Lib.hid st2
    replace s2 := Lib.hid s2
    replace hv2 := Lib.hid hv2
    go_wp2_with fail
    refine hsv.mono ?_
    clear hsv
    rintro e w3 ⟨r, o3, rfl, s3, rfl, f3⟩
    have st3 := Lib.hid (st2.out.none.trans s3 : Stp [1] w (fun _ => 0) w3 o3)
    replace f3 := Lib.hid f3
    replace s3 := Lib.hid s3
    go_wp2_with fail
    refine (known12_calls _ o3).mono ?_
    rintro e w9 ⟨rr, o9, rfl, s9, rfl⟩
    have st9 := Lib.hid (st3.out.trans s9.none)
    clear s9
    go_wp2
    go_ret
    exact Post.mk (st9.out.law (by simp)) rfl
  · have g4 : decide (n < 80) = false := decide_eq_false h80
    have t0 := Tells.new (n := N) (by omega)
    have e0 : loadS (newS N) = ([], 0, 9) := by rw [loadS, if_neg (by simp [newS]; omega), newS_loaded (by omega)]; rfl
    rw [hS0] at t0 e0
    obtain ⟨S1, e1, t1, l1⟩ := t0.save (b' := b) (by omega) (by omega)
    rw [if_neg (by omega)] at t1
    obtain ⟨S2, e2, d2, p2⟩ := save_off t1 (b' := [122]) (by simp) (by omega)
    have hroom := t1.room
    have e3 := save_dead (s := S2) (by rw [p2]; exact hroom) d2 [122]
    have e4 : loadS S2 = (b, 1, 0) := load_of (by rw [p2]; exact hroom) (by rw [loaded_congr p2, t1.told]) (by omega)
    replace hS0 := Lib.hid hS0
    replace hN := Lib.hid hN
    replace hlen0 := Lib.hid hlen0
    replace t0 := Lib.hid t0
    replace t1 := Lib.hid t1
    replace l1 := Lib.hid l1
    replace d2 := Lib.hid d2
    replace p2 := Lib.hid p2
    replace e0 := Lib.hid e0
    replace e1 := Lib.hid e1
    replace e2 := Lib.hid e2
    replace e3 := Lib.hid e3
    replace e4 := Lib.hid e4
    clear hroom
    go_enter Try.func6, Try.ntmps6
    go_wp2_with fail
    refine hnew.mono ?_
    clear hnew
    rintro e w1 ⟨r, o1, rfl, s1, p, g, cap, rfl, f1⟩
    have hld := load_calls 1 3 p g cap S0 w1 o1 f1
    rw [e0.out] at hld
    replace f1 := Lib.hid f1
    replace s1 := Lib.hid s1
    go_wp2_with fail
    refine hld.mono ?_
    clear hld
    rintro e w2 ⟨r, o2, rfl, s2, v2, rfl, hv2⟩
    have f2 := f1.out.stp s2 (by simp)
    have st2 := s1.out.trans s2
    have hsv := save_calls 1 0 p g cap S0 _ b w2 o2 f2 (hb.out.stp st2 (by simp)) (by omega) (by omega)
    rw [e1.out] at hsv
    dsimp only at hsv
    replace f2 := Lib.hid f2
    replace st2 := Lib.hid st2
    replace s2 := Lib.hid s2
    replace hv2 := Lib.hid hv2
    go_wp2_with fail
    refine hsv.mono ?_
    clear hsv
    rintro e w3 ⟨r, o3, rfl, s3, rfl, f3⟩
    have st3 := Lib.hid (st2.out.none.trans s3 : Stp [1] w (fun _ => 0) w3 o3)
    have hfz := fuse_calls 1 p g cap S1 0 0 w3 o3 f3 (by omega)
    replace f3 := Lib.hid f3
    replace s3 := Lib.hid s3
    go_wp2_with fail
    refine hfz.mono ?_
    clear hfz
    rintro e w4 ⟨r, o4, rfl, s4, rfl, f4⟩
    have k1 := constB w4 #[.int .u8 122] 1 1
    have a1 := (Stp.refl [] w4 o4).alloc (.cells #[.int .u8 122] 5 (1, 2)) 4
    have r1 := Lib.hid (RdB.newz w4 o4 4 #[.int .u8 122] [122] rfl 1 rfl (by omega) 5 (1, 2) _ rfl)
    have f4' := Lib.hid (f4.stp a1 (by simp))
    have st4 := Lib.hid ((st3.out.trans s4).trans a1.none)
    replace f4 := Lib.hid f4
    replace s4 := Lib.hid s4
    clear a1
    go_wp2_with fail
    refine (save_calls 1 4 p g cap _ _ [122] _ _ f4'.out r1.out (by omega) (by simp)).mono ?_
    rw [e2.out]
    rintro e w5 ⟨r, o5, rfl, s5, rfl, f5⟩
    dsimp only at f5
    clear k1
    have k2 := constB w5 #[.int .u8 122] 1 1
    have a2 := (Stp.refl [] w5 o5).alloc (.cells #[.int .u8 122] 5 (1, 2)) 4
    have r2 := Lib.hid (RdB.newz w5 o5 4 #[.int .u8 122] [122] rfl 1 rfl (by omega) 5 (1, 2) _ rfl)
    have f5' := Lib.hid (f5.stp a2 (by simp))
    have st5 := Lib.hid ((st4.out.trans s5).trans a2.none)
    replace f5 := Lib.hid f5
    replace s5 := Lib.hid s5
    clear a2
    go_wp2_with fail
    refine (save_calls 1 4 p g cap S2 _ [122] _ _ f5'.out r2.out (by omega) (by simp)).mono ?_
    rw [e3.out]
    rintro e w6 ⟨r, o6, rfl, s6, rfl, f6⟩
    dsimp only at f6
    clear k2
    have hld := load_calls 1 3 p g cap S2 w6 o6 f6
    rw [e4.out] at hld
    have st6 := Lib.hid (st5.out.trans s6)
    replace f6 := Lib.hid f6
    replace s6 := Lib.hid s6
    go_wp2_with fail
    refine hld.mono ?_
    clear hld
    rintro e w7 ⟨r, o7, rfl, s7, v7, rfl, h7⟩
    obtain ⟨A7, cap7, rfl⟩ := Own.shape h7
    have h7' : OwnB w7 o7 3 (.slice A7 b.length cap7) b := h7
    have st7 := st6.out.trans s7.none
    have cv1 := convBS (OwnB.rd h7') rfl
    have cv2 := convBS (hb.out.stp st7 (by simp)) rfl
    replace h7 := Lib.hid h7
    replace h7' := Lib.hid h7'
    replace st7 := Lib.hid st7
    replace s7 := Lib.hid s7
    go_wp2_with fail
    refine (nil_load _).mono ?_
    rintro e w8 ⟨rfl, rfl⟩
    go_wp2_with fail
    refine (nil_save _ _ _ _).mono ?_
    rintro e w8 ⟨rfl, rfl⟩
    go_wp2_with fail
    refine (known12_calls _ o7).mono ?_
    rintro e w9 ⟨rr, o9, rfl, s9, rfl⟩
    have st9 := Lib.hid (st7.out.trans s9.none)
    clear s9 cv1 cv2
    go_wp2
    go_ret
    exact Post.mk (st9.out.law (by simp)) rfl
end Go.Proofs.Ytpjnmijfmfgdpaa
