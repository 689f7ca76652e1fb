/- octet.Join and bytes.Join. -/
import Derived.Test.YtollifmdoldacaaOctet
namespace Go.Proofs.Ytollifmdoldacaa
set_option linter.unusedVariables false
set_option linter.unusedSimpArgs false
open Go.RowKit

theorem slR : SlT Try.prog 38 23 1 24 (.slice none 0 0) := ⟨Try.underlying38, info_parts (by kernel_rfl), by kernel_rfl, by omega⟩
def lens (ls : List (List UInt8)) : Nat := (ls.map List.length).sum
theorem lens_flat (ls : List (List UInt8)) : ls.flatten.length = lens ls := by simp [lens, List.length_flatten]
theorem lens_snoc (ls : List (List UInt8)) (l : List UInt8) : lens (ls ++ [l]) = lens ls + l.length := by simp [lens]
theorem lens_take (ls : List (List UInt8)) (k : Nat) : lens (ls.take k) ≤ lens ls := by
  have e : lens ls = lens (ls.take k) + lens (ls.drop k) := by
    conv => lhs; rw [← List.take_append_drop k ls]
    unfold lens
    rw [List.map_append, List.sum_append]
  omega
theorem RdRows.drop1 {w : World} {o : Col} {c d n cap : Nat} {A A' : Option Addr} {ls : List (List UInt8)} (h : RdRows w o c d (.slice A n cap) ls) (h1 : 1 ≤ ls.length)
    (hr : ∀ vs : List Value, Rd w o c 1 (.slice A n cap) ls.length vs → Rd w o c 1 (.slice A' (ls.length - 1) (cap - 1)) (ls.length - 1) (vs.drop 1)) : RdRows w o c d (.slice A' (ls.length - 1) (cap - 1)) (ls.drop 1) := by
  obtain ⟨vs, hl, hv, hrow⟩ := h
  refine ⟨vs.drop 1, by simp [hl], by rw [List.length_drop]; exact hr vs hv, fun j hj u hu => ?_⟩
  rw [List.length_drop] at hj
  rw [List.getElem?_drop] at hu
  have := hrow (1 + j) (by omega) u hu
  simpa [Nat.add_comm] using this

def J1 (ls : List (List UInt8)) (x y : Value) : Prop := ∃ k : Nat, x = .int .i64 (lens (ls.take k) : Int) ∧ y = .int .i64 k ∧ k ≤ ls.length
def J2 (w0 : World) (o0 : Col) (d g z : Nat) (ls : List (List UInt8)) (x y : Value) (wr : World) : Prop := ∃ (k : Nat) (o' : Col) (cur : List Value), x = .int .i64 (lens (ls.take (k + 1)) : Int) ∧ y = .int .i64 k ∧ k + 1 ≤ ls.length ∧
  wr.heap[g]? = some (.cells (vbs (ls.take (k + 1)).flatten ++ cur).toArray 5 (0, 0)) ∧ lens (ls.take (k + 1)) + cur.length = z ∧ Stp [d] w0 o0 wr o' ∧ o' g = d

set_option maxHeartbeats 2000000 in
set_option maxRecDepth 100000 in
theorem bjoin_calls (c dr e0 : Nat) (v : Value) (ls : List (List UInt8)) (w : World) (o : Col) (hr : RdRows w o c dr v ls) (hb : lens ls ≤ 140737488355328) (hbn : ls.length ≤ 140737488355328) :
    Calls Try.prog 42 #[v, .slice none 0 0] w (Post [] w o fun r w' o' => OwnB w' o' e0 r ls.flatten) := by
  obtain ⟨d, hdc, _, hd⟩ := fresh o w.heap.size [c, dr]
  simp only [List.mem_cons, List.not_mem_nil, or_false, not_or] at hdc
  obtain ⟨A, cap, rfl, hnc, hA⟩ := hr.shape
  by_cases h0 : ls.length = 0
  · have hl : ls = [] := List.eq_nil_of_length_eq_zero h0
    subst hl
    go_enter Try.func42, Try.ntmps42
    go_wp2
    go_ret
    have s1 := (Stp.refl [] w o).alloc (.cells #[] 5) e0
    exact Post.mk s1 (OwnB.new w o e0 #[] [] rfl 0 rfl (by omega) _ rfl)
  by_cases h1 : ls.length = 1
  · obtain ⟨l, hl⟩ : ∃ l, ls = [l] := by
      cases ls with
      | nil => simp at h0
      | cons l r => cases r with
        | nil => exact ⟨l, rfl⟩
        | cons _ _ => simp at h1
    subst hl
    obtain ⟨a, u, r, rfl, hcell, hu, Hr⟩ := hr.get (show 0 < [l].length by simp)
    have hrl : r = l := Hr.out.symm
    subst hrl
    rw [show a.add 0 = a from rfl] at hcell
    obtain ⟨B, cap2, rfl, hlc, hB⟩ := hu.shape
    have hb1 : r.length ≤ 140737488355328 := by simpa [lens] using hb
    clear hb
    go_enter Try.func42, Try.ntmps42
    go_wp2_with (refine holdAt 22 ?_)
    apply Hold.mk
    refine appB _ _ rfl rfl (OwnB.nil w o d) hu rfl rfl (by simpa using hb1) fun A' cap' w' o' h2 h3 _ _ => ?_
    simp only [List.nil_append, List.length_nil, Nat.zero_add] at h3
    go_wp2
    go_ret
    have h4 := Own.fresh h3 h2 hd e0
    exact Post.mk ((h2.drop hd).repaint e0) h4
  have f0 : ((ls.length : Int) == 0) = false := beq_eq_false_iff_ne.2 (by omega)
  have f1 : ((ls.length : Int) == 1) = false := beq_eq_false_iff_ne.2 (by omega)
  have h2 : 2 ≤ ls.length := by omega
  go_enter Try.func42, Try.ntmps42
  go_wp2_with fail
  go_loop [5, 44] (J1 ls) (fun _ y => ls.length - (intOf y).toNat)
  case atStart => exact ⟨0, rfl, rfl, Nat.zero_le _⟩
  case round =>
    obtain ⟨k, rfl, rfl, hk⟩ := hrel
    by_cases hlt : k < ls.length
    · obtain ⟨a, uv, r, rfl, hcell, hrd, Hr⟩ := hr.get hlt
      obtain ⟨B, cap2, rfl, hrc, hB⟩ := hrd.shape
      have e1 : lens (ls.take (k + 1)) = lens (ls.take k) + r.length := by rw [List.take_succ_eq_append_getElem hlt, Hr.out, lens_snoc]
      have e2 := lens_take ls (k + 1)
      generalize hacc : lens (ls.take k) = acc at *
      have hbb : acc + r.length ≤ 140737488355328 := by omega
      have E1 := Lib.hid e1
      clear e1 e2 hacc hb
      have hover : ¬ (9223372036854775807 - (acc : Int) < (r.length : Int)) := by omega
      go_wp2
      go_round
      case rel => exact ⟨k + 1, by rw [E1.out]; go_num, by go_num, hlt⟩
      case measure => simp [intOf]; omega
    · have hk' : k = ls.length := by omega
      subst hk'
      rw [List.take_length]
      have hTT : lens ls = ls.flatten.length := (lens_flat ls).symm
      obtain ⟨T, hT⟩ : ∃ T, lens ls = T := ⟨_, rfl⟩
      rw [hT] at hb ⊢
      obtain ⟨cs, hrunM, hle, hmx⟩ := Lib.run_makeNoZero (P := Try.prog) w #[3] 23 5 Try.underlying23 T (by omega)
      have hcall : (callFunc 43 #[.int .i64 (T : Int)]).run Try.prog w = .ok (.value (.slice (some ⟨w.heap.size, 0, none⟩) T cs.size)) (w.drew.drew.alloc (.cells cs 5)) := by
        rw [run_callFunc_extern Try.func43 (by kernel_rfl) (by kernel_rfl) (by kernel_rfl) (e := Extern.BytealgMakeNoZero.makeNoZero #[3] #[23]) (by kernel_rfl), hrunM]
        rfl
      have Hmx := Lib.hid (hmx (by simp only [maxLen]; omega))
      clear hrunM hmx
      have i1 : (T : Int) ≤ (cs.size : Int) := by omega
      have HT := Lib.hid hT
      have Hb := Lib.hid hb
      clear hT hTT hb
      obtain ⟨a, u0, r0, rfl, hcell0, hu0, Hr0⟩ := hr.get (show 0 < ls.length by omega)
      rw [show a.add 0 = a from rfl] at hcell0
      obtain ⟨B0, cap0, rfl, hlc0, hB0⟩ := hu0.shape
      have hz0 : (0 : Int) < (ls.length : Int) := by omega
      have hcell1 := ((Stp.refl [] w o).alloc (.cells cs 5) d).cell hcell0 (by simp)
      go_wp2_with (refine holdAt 68 ?_)
      apply Hold.mk
      obtain ⟨o1, s1, hcol⟩ : ∃ o1, Stp [d] w o (w.drew.drew.alloc (.cells cs 5)) o1 ∧ o1 w.heap.size = d := ⟨_, (((Stp.refl [d] w o).drew).drew).alloc (.cells cs 5) d, paint_at _ _ _⟩
      have E0 : ls.take 1 = [r0] := by rw [List.take_succ_eq_append_getElem (by omega), Hr0.out]; simp
      have hl0 : r0.length ≤ T := by
        have := lens_take ls 1
        rw [E0, HT.out] at this
        simpa [lens] using this
      have HE0 := Lib.hid E0
      clear E0
      have hg0 : ((w.alloc (.cells cs 5)).drew.drew).heap[w.heap.size]? = some (.cells cs.toList.toArray 5 (0, 0)) := by
        rw [Array.toArray_toList]
        exact heap_alloc_new w _
      refine copyB (c := d) (g := w.heap.size) (off := 0) (cur := cs.toList) _ _ rfl rfl rfl rfl (hu0.stp s1 (by simp; exact fun e => hdc.2 e.symm)) hg0 hcol hl0 (fun _ => rfl) (by simp; omega) fun w1 h3 h4 => ?_
      have s2 := s1.trans h3
      simp only [List.take_zero, List.nil_append, Nat.zero_add] at h4
      have hcs : (vbs r0).length + (cs.toList.drop r0.length).length = cs.size := by rw [vbs_length, List.length_drop]; simp; omega
      generalize cs.toList.drop r0.length = cur0 at h4 hcs
      rw [vbs_length] at hcs
      generalize cs.size = z at *
      have Hcs := Lib.hid hcs
      clear hcs s1 hg0 h3 hcall
      have hrw := hr.stp s2 (by simp; exact fun e => hdc.1 e.symm) (by simp; exact fun e => hdc.2 e.symm)
      obtain ⟨vs0, hvl, hvs, hvr⟩ := hrw
      have hc1 : ¬ cap = 1 := by omega
      go_wp2_with (refine holdAt 70 ?_)
      apply Hold.mk
      refine slcL slR _ _ rfl rfl hvs 1 rfl rfl (by omega) fun A' r1 => ?_
      rw [Nat.one_mul] at r1
      have hrows : RdRows w1 o1 c dr (.slice A' (ls.length - 1) (cap - 1)) (ls.drop 1) := by
        refine ⟨vs0.drop 1, by simp [hvl], by rw [List.length_drop]; exact r1, fun j hj u hu => ?_⟩
        rw [List.length_drop] at hj
        rw [List.getElem?_drop] at hu
        have := hvr (1 + j) (by omega) u hu
        simpa [Nat.add_comm] using this
      clear r1 hvr hvs hvl hc1
      obtain ⟨g, hgz⟩ : ∃ g, w.heap.size = g := ⟨_, rfl⟩
      rw [hgz] at h4 hcol ⊢
      have E2 := Lib.hid (show lens (ls.take (0 + 1)) = r0.length ∧ (ls.take (0 + 1)).flatten = r0 by rw [HE0.out]; simp [lens])
      clear hgz
      go_wp2_with fail
      go_loopw [9, 72] (J2 w1 o1 d g z ls) (fun _ y _ => ls.length - (intOf y).toNat)
      case atStart => exact ⟨0, _, cur0, by rw [E2.out.1], rfl, by omega, by rw [E2.out.2]; exact h4, by rw [E2.out.1]; exact Hcs.out, Stp.refl _ _ _, hcol⟩
      case round =>
        clear h4
        obtain ⟨k2, o2, cur, rfl, rfl, hk2, hblk, hlen, s3, hcg⟩ := hrel
        by_cases hlt2 : k2 < ls.length - 1
        · have hrw := hrows.stp s3 (by simp; exact fun e => hdc.1 e.symm) (by simp; exact fun e => hdc.2 e.symm)
          have hlt3 : k2 < (ls.drop 1).length := by rw [List.length_drop]; omega
          obtain ⟨a9, uv, r, hA9, hcell, hrd, Hr⟩ := hrw.get hlt3
          subst hA9
          obtain ⟨B, cap2, rfl, hrc, hB⟩ := hrd.shape
          have e3 : ls.take (k2 + 1 + 1) = ls.take (k2 + 1) ++ [r] := by
            have h1 := Hr.out
            rw [List.getElem_drop] at h1
            rw [List.take_succ_eq_append_getElem (by omega)]
            congr 2
            rw [← h1]
            congr 1
            omega
          have e4 : lens (ls.take (k2 + 1 + 1)) = lens (ls.take (k2 + 1)) + r.length := by rw [e3, lens_snoc]
          have e5 := lens_take ls (k2 + 1 + 1)
          rw [e4, HT.out] at e5
          have E3 := Lib.hid (show vbs (ls.take (k2 + 1 + 1)).flatten = vbs (ls.take (k2 + 1)).flatten ++ vbs r by rw [e3, List.flatten_append, vbs_append]; simp)
          have E4 := Lib.hid e4
          have hfl := lens_flat (ls.take (k2 + 1))
          generalize (ls.take (k2 + 1)).flatten = acc at hblk hfl E3
          generalize lens (ls.take (k2 + 1)) = bp at *
          have Hfl := Lib.hid hfl
          have Hlen := Lib.hid hlen
          have hbT : bp ≤ T := by omega
          have hbig : T ≤ 140737488355328 := Hb.out
          clear e3 e4 hfl hlen
          go_wp2_with (refine holdAt 79 ?_)
          apply Hold.mk
          refine slcRaw _ _ (by rfl) rfl bp rfl rfl hbT fun A1 hA1 => ?_
          go_wp2_with (refine holdAt 81 ?_)
          apply Hold.mk
          refine copyB (c := d) (g := g) (off := bp) (cur := vbs acc ++ cur) (l := []) _ _ rfl rfl rfl rfl (RdB.nil wr o2 c) hblk hcg (by simp) (fun h => by rw [hA1 (by omega)]; simp [Addr.add_lit]) (by simp [vbs_length]; have := Hfl.out; have := Hlen.out; omega) fun w3 h5 h6 => ?_
          simp only [vbs, List.map_nil, List.nil_append, List.length_nil, Nat.add_zero, List.take_append_drop] at h6
          change w3.heap[g]? = some (.cells (vbs acc ++ cur).toArray 5 (0, 0)) at h6
          have hcell3 := h5
          go_wp2_with (refine holdAt 86 ?_)
          apply Hold.mk
          refine slcRaw _ _ (by rfl) rfl bp rfl rfl hbT fun A2 hA2 => ?_
          go_wp2_with (refine holdAt 88 ?_)
          apply Hold.mk
          refine copyB (c := d) (g := g) (off := bp) (cur := vbs acc ++ cur) (l := r) _ _ rfl rfl rfl rfl (hrd.stp h5 (by simp; exact fun e => hdc.2 e.symm)) h6 hcg (by have := Hlen.out; omega) (fun h => by rw [hA2 (by omega)]; simp [Addr.add_lit]) (by simp [vbs_length]; have := Hfl.out; have := Hlen.out; omega) fun w4 h7 h8 => ?_
          have hav : (vbs acc).length = bp := by rw [vbs_length]; exact Hfl.out
          have hcr : r.length ≤ cur.length := by have := Hlen.out; omega
          rw [List.take_append_of_le_length (by omega), List.take_of_length_le (by omega), List.drop_append, List.drop_of_length_le (by omega), List.nil_append, ← List.append_assoc, ← E3.out, hav, show bp + r.length - bp = r.length by omega] at h8
          have hl9 : bp + r.length + (cur.drop r.length).length = z := by rw [List.length_drop]; have := Hlen.out; omega
          have Hl9 := Lib.hid hl9
          clear hav hl9 hA1 hA2
          go_wp2
          go_roundw
          case rel => exact ⟨k2 + 1, o2, cur.drop r.length, by rw [E4.out]; go_num, by go_num, by omega, h8, by rw [E4.out]; exact Hl9.out, s3.trans (h5.trans h7), hcg⟩
          case measure => simp [intOf]; omega
        · have hk3 : k2 + 1 = ls.length := by omega
          have e5 : ls.take (k2 + 1) = ls := by rw [hk3, List.take_length]
          rw [e5] at hblk hlen
          rw [HT.out] at hlen
          clear e5 hk3
          go_wp2
          go_ret
          have hTf : ls.flatten.length = T := by rw [lens_flat]; exact HT.out
          have hfin : Own wr o2 d 5 1 (.slice (some ⟨g, 0, none⟩) T T) ls.flatten.length (vbs ls.flatten) := by
            refine ⟨⟨by rw [vbs_length]; omega, .inr ⟨g, T, _, by rw [hTf], Nat.zero_le _, hblk, by omega, by have := Hb.out; simp only [maxLen]; omega, ?_, ?_⟩⟩, vbs_one _, fun k hk => by injection hk with hk; subst hk; exact hcg⟩
            · rw [List.size_toArray, List.length_append, vbs_length, hTf]; omega
            · rw [Nat.mul_one, List.take_append_of_le_length (by rw [vbs_length]; exact Nat.le_refl _), List.take_of_length_le (by rw [vbs_length]; exact Nat.le_refl _)]
          have s9 := s2.trans s3
          exact Post.mk ((s9.drop hd).repaint e0) (Own.fresh hfin s9 hd e0)

set_option maxHeartbeats 400000 in
theorem join_calls (c dr e0 : Nat) (v : Value) (ls : List (List UInt8)) (w : World) (o : Col) (hr : RdRows w o c dr v ls) (hb : lens ls ≤ 140737488355328) (hbn : ls.length ≤ 140737488355328) :
    Calls Try.prog 22 #[v] w (Post [] w o fun r w' o' => OwnB w' o' e0 r ls.flatten) := by
  obtain ⟨A, cap, rfl, hnc, hA⟩ := hr.shape
  go_enter Try.func22, Try.ntmps22
  go_wp2_with fail
  refine (bjoin_calls c dr e0 _ ls w o hr hb hbn).mono ?_
  rintro e w1 ⟨r, o1, rfl, s1, h1⟩
  go_wp2
  go_ret
  exact Post.mk s1 h1
end Go.Proofs.Ytollifmdoldacaa
