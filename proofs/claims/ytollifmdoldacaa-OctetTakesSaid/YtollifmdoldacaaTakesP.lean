/- OctetTakes: a row of the document's Reader, three numbers at once, a step of the script. -/
import Derived.Test.YtollifmdoldacaaRef1r
import Derived.Test.YtollifmdoldacaaRowsW
namespace Go.Proofs.Ytollifmdoldacaa
set_option linter.unusedVariables false
set_option linter.unusedSimpArgs false
open Go.RowKit

theorem nNum_bad {l : List UInt8} {bad : Bool} (h : bad = true → l = []) : (nNum l bad).2.2 = true → (nNum l bad).2.1 = [] := by
  unfold nNum
  split
  · rename_i u r he
    intro hb
    have := h hb
    subst this
    simp [rnum, rnumGo] at he
  · intro _
    rfl
theorem nRaw_bad {n : Int} {l : List UInt8} {bad : Bool} (h : bad = true → l = []) : (nRaw n l bad).2.2 = true → (nRaw n l bad).2.1 = [] := by
  unfold nRaw
  split
  · intro _
    rfl
  · intro hb
    have := h hb
    subst this
    simp
theorem nRaw_nil (n : Int) : nRaw n [] true = ([], [], true) := by
  unfold nRaw
  split
  · rfl
  · simp
theorem nBytes_bad {l : List UInt8} {bad : Bool} (h : bad = true → l = []) : (nBytes l bad).2.2 = true → (nBytes l bad).2.1 = [] := nRaw_bad (nNum_bad h)

set_option maxHeartbeats 1000000 in
theorem xbytes_calls (c d e0 p : Nat) (v : Value) (l : List UInt8) (bad : Bool) (w : World) (o : Col) (h : Xr w o c d p v l bad) (hbl : bad = true → l = []) (hb : l.length ≤ 140737488355328) :
    Calls Try.prog 36 #[.pointer (some ⟨p, 0, none⟩)] w (Post [c] w o fun r w' o' => OwnB w' o' e0 r (nBytes l bad).1 ∧ ∃ v', Xr w' o' c d p v' (nBytes l bad).2.1 (nBytes l bad).2.2) := by
  have hle := (nNum_le l bad).1
  have hbd := nNum_bad hbl
  have hnum := xnum_calls c d p v l bad w o h hbl hb
  unfold nBytes
  obtain ⟨n, hn⟩ : ∃ n, (nNum l bad).1 = n := ⟨_, rfl⟩
  obtain ⟨l1, hl1⟩ : ∃ l1, (nNum l bad).2.1 = l1 := ⟨_, rfl⟩
  obtain ⟨b1, hb1⟩ : ∃ b1, (nNum l bad).2.2 = b1 := ⟨_, rfl⟩
  simp only [hn, hl1, hb1] at hnum hbd hle ⊢
  clear hn hl1 hb1 h hbl
  cases b1 with
  | true =>
    have := hbd rfl
    subst this
    rw [nRaw_nil]
    go_enter Try.func36, Try.ntmps36
    go_wp2_with fail
    refine hnum.mono ?_
    rintro e w1 ⟨r, o1, rfl, s1, rfl, v1, h1⟩
    have hc1 := h1.c1
    go_wp2
    go_ret
    exact Post.mk s1 ⟨OwnB.nil _ _ _, v1, h1⟩
  | false =>
    go_enter Try.func36, Try.ntmps36
    go_wp2_with fail
    refine hnum.mono ?_
    rintro e w1 ⟨r, o1, rfl, s1, rfl, v1, h1⟩
    have hc1 := h1.c1
    go_wp2_with fail
    refine (xraw_calls c d e0 p v1 _ _ _ w1 o1 h1 (by simp) (by omega)).mono ?_
    rintro e w2 ⟨r, o2, rfl, s2, h2, v2, h3⟩
    clear hc1
    go_wp2
    go_ret
    exact Post.mk (s1.trans s2) ⟨h2, v2, h3⟩

/-- The state behind k numbers. -/
def numsL (l : List UInt8) (bad : Bool) : Nat → List UInt8 × Bool
  | 0 => (l, bad)
  | k + 1 => ((nNum (numsL l bad k).1 (numsL l bad k).2).2.1, (nNum (numsL l bad k).1 (numsL l bad k).2).2.2)
/-- The k-th number. -/
def numsN (l : List UInt8) (bad : Bool) (k : Nat) : Nat := (nNum (numsL l bad k).1 (numsL l bad k).2).1
theorem numsL_le (l : List UInt8) (bad : Bool) : ∀ k, (numsL l bad k).1.length ≤ l.length
  | 0 => Nat.le_refl _
  | k + 1 => Nat.le_trans (nNum_le _ _).1 (numsL_le l bad k)
theorem numsL_bad {l : List UInt8} {bad : Bool} (h : bad = true → l = []) : ∀ k, (numsL l bad k).2 = true → (numsL l bad k).1 = []
  | 0 => h
  | k + 1 => nNum_bad (numsL_bad h k)

def RnsIn (w0 : World) (o0 : Col) (c d e p a b : Nat) (l : List UInt8) (bad : Bool) (x : Value) (wr : World) : Prop := ∃ (k : Nat) (o' : Col) (v' : Value), x = .int .i64 k ∧ k ≤ 3 ∧ Stp [c, e] w0 o0 wr o' ∧ Rr wr o' c d p v' (numsL l bad k).1 (numsL l bad k).2 ∧
  (∃ z, wr.heap[a]? = some (.cells #[z] 3 (0, 0)) ∧ (0 < k → z = .int .i64 (numsN l bad 0 : Int))) ∧ (∃ z, wr.heap[b]? = some (.cells #[z] 3 (0, 0)) ∧ (2 < k → z = .int .i64 (numsN l bad 2 : Int)))

set_option maxHeartbeats 2000000 in
set_option maxRecDepth 100000 in
theorem rnums_calls (c d e p a b g t : Nat) (v : Value) (l : List UInt8) (bad : Bool) (za zb : Value) (fz : Nat × Nat) (w : World) (o : Col) (h : Rr w o c d p v l bad) (hb : l.length ≤ 140737488355328)
    (ha : w.heap[a]? = some (.cells #[za] 3 (0, 0))) (hbb : w.heap[b]? = some (.cells #[zb] 3 (0, 0))) (hab : a ≠ b) (hoa : o a = e) (hob : o b = e) (hce : c ≠ e) (hde : d ≠ e)
    (hg : w.heap[g]? = some (.cells #[.pointer (some ⟨a, 0, none⟩), .pointer none, .pointer (some ⟨b, 0, none⟩)] t fz)) (hgc : o g ≠ c) (hge : o g ≠ e) :
    Calls Try.prog 34 #[.pointer (some ⟨p, 0, none⟩), .slice (some ⟨g, 0, none⟩) 3 3] w (Post [c, e] w o fun r w' o' => r = .tuple #[] ∧ ∃ v', Rr w' o' c d p v' (numsL l bad 3).1 (numsL l bad 3).2 ∧
      w'.cell? ⟨a, 0, none⟩ = some (.int .i64 (numsN l bad 0 : Int)) ∧ w'.cell? ⟨b, 0, none⟩ = some (.int .i64 (numsN l bad 2 : Int))) := by
  go_enter Try.func34, Try.ntmps34
  go_wp2_with fail
  go_loopw [9] (RnsIn w o c d e p a b l bad) (fun x _ => 3 - (intOf x).toNat)
  case atStart => exact ⟨0, o, v, rfl, by omega, Stp.refl _ _ _, h, ⟨za, ha, by omega⟩, ⟨zb, hbb, by omega⟩⟩
  case round =>
    obtain ⟨k, o1, v1, rfl, hk, hs, hr, ⟨za1, ha1, hza⟩, ⟨zb1, hb1, hzb⟩⟩ := hrel
    have hg1 := hs.blk hg (by simp; exact ⟨hgc, hge⟩)
    have hl1 := numsL_le l bad k
    have oa1 : o1 a = e := (hs.colb ha).trans hoa
    have ob1 : o1 b = e := (hs.colb hbb).trans hob
    have hnum := rnum_calls c d p v1 _ _ wr o1 hr (by omega : (numsL l bad k).1.length ≤ _)
    rcases (show k = 0 ∨ k = 1 ∨ k = 2 ∨ k = 3 by omega) with rfl | rfl | rfl | rfl
    · have hc : wr.cell? ⟨g, 0, none⟩ = some (.pointer (some ⟨a, 0, none⟩)) := blk_cell hg1 0
      replace hr := Lib.hid hr
      replace hs := Lib.hid hs
      replace ha1 := Lib.hid ha1
      replace hb1 := Lib.hid hb1
      clear h ha hbb hg hg1
      go_wp2_with fail
      refine hnum.mono ?_
      rintro e1 w1 ⟨r1, o2, rfl, s1, rfl, v2, h1⟩
      have ha2 := s1.blk ha1.out (by simp; rw [oa1]; exact fun e => hce e.symm)
      have hb2 := s1.blk hb1.out (by simp; rw [ob1]; exact fun e => hce e.symm)
      have oa2 : o2 a = e := (s1.colb ha1.out).trans oa1
      have ob2 : o2 b = e := (s1.colb hb1.out).trans ob1
      have s2 : Stp [c, e] w o w1 o2 := hs.out.trans (s1.mono (by simp))
      have hf := blk_free ha2 0
      have hcx := blk_cell ha2 0
      have s3 : ∀ z, Stp [e] w1 o2 (w1.setCell ⟨a, 0, none⟩ z) o2 := fun z => (Stp.refl [e] w1 o2).setCell (fun _ => by simp [oa2]) _
      have h3 := fun z => h1.stp (s3 z) (by simpa using hce) (by simpa using hde)
      have hx3 : ∀ z, (w1.setCell ⟨a, 0, none⟩ z).heap[a]? = some (.cells #[z] 3 (0, 0)) := fun z => by
        have := blk_set (j := 0) ha2 z
        simpa using this
      have hy3 : ∀ z, (w1.setCell ⟨a, 0, none⟩ z).heap[b]? = w1.heap[b]? := fun z => Below.heap_setCell _ _ _ _ (by simpa using fun e => hab e.symm)
      have s4 := fun z => s2.trans ((s3 z).mono (D := [c, e]) (by simp))
      replace h1 := Lib.hid h1
      replace s1 := Lib.hid s1
      replace s2 := Lib.hid s2
      replace s3 := Lib.hid s3
      replace s4 := Lib.hid s4
      replace h3 := Lib.hid h3
      replace hx3 := Lib.hid hx3
      replace hy3 := Lib.hid hy3
      replace ha2 := Lib.hid ha2
      replace hb2 := Lib.hid hb2
      clear hnum hc
      go_wp2
      go_roundw
      case rel => exact ⟨1, o2, v2, by go_num, by omega, s4.out _, h3.out _, ⟨_, hx3.out _, fun _ => rfl⟩, ⟨zb1, (hy3.out _).trans hb2.out, by omega⟩⟩
      case measure => simp [intOf]
    · have hc : wr.cell? ⟨g, 1, none⟩ = some (.pointer none) := blk_cell hg1 1
      replace hr := Lib.hid hr
      replace hs := Lib.hid hs
      replace ha1 := Lib.hid ha1
      replace hb1 := Lib.hid hb1
      clear h ha hbb hg hg1
      go_wp2_with fail
      refine hnum.mono ?_
      rintro e1 w1 ⟨r1, o2, rfl, s1, rfl, v2, h1⟩
      have ha2 := s1.blk ha1.out (by simp; rw [oa1]; exact fun e => hce e.symm)
      have hb2 := s1.blk hb1.out (by simp; rw [ob1]; exact fun e => hce e.symm)
      have oa2 : o2 a = e := (s1.colb ha1.out).trans oa1
      have ob2 : o2 b = e := (s1.colb hb1.out).trans ob1
      have s2 : Stp [c, e] w o w1 o2 := hs.out.trans (s1.mono (by simp))
      replace h1 := Lib.hid h1
      replace s1 := Lib.hid s1
      replace s2 := Lib.hid s2
      replace ha2 := Lib.hid ha2
      replace hb2 := Lib.hid hb2
      clear hnum hc
      go_wp2
      go_roundw
      case rel => exact ⟨2, o2, v2, by go_num, by omega, s2.out, h1.out, ⟨za1, ha2.out, fun _ => hza (by omega)⟩, ⟨zb1, hb2.out, by omega⟩⟩
      case measure => simp [intOf]
    · have hc : wr.cell? ⟨g, 2, none⟩ = some (.pointer (some ⟨b, 0, none⟩)) := blk_cell hg1 2
      replace hr := Lib.hid hr
      replace hs := Lib.hid hs
      replace ha1 := Lib.hid ha1
      replace hb1 := Lib.hid hb1
      clear h ha hbb hg hg1
      go_wp2_with fail
      refine hnum.mono ?_
      rintro e1 w1 ⟨r1, o2, rfl, s1, rfl, v2, h1⟩
      have ha2 := s1.blk ha1.out (by simp; rw [oa1]; exact fun e => hce e.symm)
      have hb2 := s1.blk hb1.out (by simp; rw [ob1]; exact fun e => hce e.symm)
      have oa2 : o2 a = e := (s1.colb ha1.out).trans oa1
      have ob2 : o2 b = e := (s1.colb hb1.out).trans ob1
      have s2 : Stp [c, e] w o w1 o2 := hs.out.trans (s1.mono (by simp))
      have hf := blk_free hb2 0
      have hcx := blk_cell hb2 0
      have s3 : ∀ z, Stp [e] w1 o2 (w1.setCell ⟨b, 0, none⟩ z) o2 := fun z => (Stp.refl [e] w1 o2).setCell (fun _ => by simp [ob2]) _
      have h3 := fun z => h1.stp (s3 z) (by simpa using hce) (by simpa using hde)
      have hx3 : ∀ z, (w1.setCell ⟨b, 0, none⟩ z).heap[b]? = some (.cells #[z] 3 (0, 0)) := fun z => by
        have := blk_set (j := 0) hb2 z
        simpa using this
      have hy3 : ∀ z, (w1.setCell ⟨b, 0, none⟩ z).heap[a]? = w1.heap[a]? := fun z => Below.heap_setCell _ _ _ _ (by simpa using hab)
      have s4 := fun z => s2.trans ((s3 z).mono (D := [c, e]) (by simp))
      replace h1 := Lib.hid h1
      replace s1 := Lib.hid s1
      replace s2 := Lib.hid s2
      replace s3 := Lib.hid s3
      replace s4 := Lib.hid s4
      replace h3 := Lib.hid h3
      replace hx3 := Lib.hid hx3
      replace hy3 := Lib.hid hy3
      replace ha2 := Lib.hid ha2
      replace hb2 := Lib.hid hb2
      clear hnum hc
      go_wp2
      go_roundw
      case rel => exact ⟨3, o2, v2, by go_num, by omega, s4.out _, h3.out _, ⟨za1, (hy3.out _).trans ha2.out, fun _ => hza (by omega)⟩, ⟨_, hx3.out _, fun _ => rfl⟩⟩
      case measure => simp [intOf]
    · have hc3 := blk_cell ha1 0
      have hc4 := blk_cell hb1 0
      rw [hza (by omega)] at hc3
      rw [hzb (by omega)] at hc4
      replace hr := Lib.hid hr
      replace hs := Lib.hid hs
      replace ha1 := Lib.hid ha1
      replace hb1 := Lib.hid hb1
      clear h ha hbb hg hg1 hnum
      replace hc3 := Lib.hid hc3
      replace hc4 := Lib.hid hc4
      go_wp2
      go_end0
      exact Post.mk hs.out ⟨rfl, v1, hr.out, hc3.out, hc4.out⟩
end Go.Proofs.Ytollifmdoldacaa
