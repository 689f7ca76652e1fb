/- Pages: a copy. -/
import Derived.Test.YtbhmfiibaeladaaPageS
namespace Go.Proofs.Ytbhmfiibaeladaa
set_option linter.unusedVariables false
set_option linter.unusedSimpArgs false
open Go.RowKit

theorem flat_len : ∀ (pg : List (List UInt8)), (∀ q ∈ pg, q.length = 64) → (pg.flatMap vbs).length = pg.length * 64
  | [], _ => rfl
  | q :: pg, h => by
    rw [List.flatMap_cons, List.length_append, vbs_length, h q (by simp), flat_len pg (fun q hq => h q (by simp [hq])), List.length_cons]
    omega
theorem flat_get : ∀ (pg : List (List UInt8)), (∀ q ∈ pg, q.length = 64) → ∀ (i : Nat) (q : List UInt8), pg[i]? = some q → ∀ (j : Nat) (v : Value), (vbs q)[j]? = some v → (pg.flatMap vbs)[i * 64 + j]? = some v
  | [], _, i, q, hq, j, v, hv => by simp at hq
  | q0 :: pg, h, 0, q, hq, j, v, hv => by
    simp at hq
    subst hq
    rw [List.flatMap_cons, List.getElem?_append_left (by have := (List.getElem?_eq_some_iff.1 hv).1; omega)]
    simpa using hv
  | q0 :: pg, h, i + 1, q, hq, j, v, hv => by
    rw [List.flatMap_cons, List.getElem?_append_right (by rw [vbs_length, h q0 (by simp)]; omega), vbs_length, h q0 (by simp), show (i + 1) * 64 + j - 64 = i * 64 + j from by omega]
    exact flat_get pg (fun q hq => h q (by simp [hq])) i q (by simpa using hq) j v hv
theorem flat_inv : ∀ (pg : List (List UInt8)), (∀ q ∈ pg, q.length = 64) → ∀ (j : Nat) (v : Value), (pg.flatMap vbs)[j]? = some v → ∃ q, pg[j / 64]? = some q ∧ (vbs q)[j % 64]? = some v
  | [], _, j, v, hv => by simp at hv
  | q0 :: pg, h, j, v, hv => by
    rw [List.flatMap_cons] at hv
    by_cases hj : j < 64
    · rw [List.getElem?_append_left (by rw [vbs_length, h q0 (by simp)]; exact hj)] at hv
      exact ⟨q0, by rw [Nat.div_eq_of_lt hj]; rfl, by rw [Nat.mod_eq_of_lt hj]; exact hv⟩
    · rw [List.getElem?_append_right (by rw [vbs_length, h q0 (by simp)]; omega), vbs_length, h q0 (by simp)] at hv
      obtain ⟨q, h1, h2⟩ := flat_inv pg (fun q hq => h q (by simp [hq])) (j - 64) v hv
      refine ⟨q, ?_, ?_⟩
      · rw [show j / 64 = (j - 64) / 64 + 1 from by omega, List.getElem?_cons_succ]
        exact h1
      · rw [show j % 64 = (j - 64) % 64 from by omega]
        exact h2
theorem Fl.rd {w : World} {o : Col} {c p g cap : Nat} {s : FS} (h : Fl w o c p g cap s) : Rd w o c 64 (.slice (some ⟨g, 0, none⟩) s.pg.length cap) s.pg.length (s.pg.flatMap vbs) := by
  obtain ⟨cur, hb, hs⟩ := h.pgs.blk
  refine ⟨flat_len _ h.ok.1, by have := h.ok.2.1; omega, ?_, some ⟨g, 0, none⟩, cap, rfl, h.cap, by simp, fun _ => ⟨_, rfl, h.pgs.col, (Array.getElem?_eq_some_iff.1 hb).1, fun j u hu => ?_⟩⟩
  · intro u hu
    obtain ⟨q, _, hq⟩ := List.mem_flatMap.1 hu
    exact vbs_one q u hq
  · obtain ⟨q, h1, h2⟩ := flat_inv _ h.ok.1 j u hu
    rw [Addr.add_mid, Nat.zero_add]
    have := (h.pgs.at_ _ _ h1).2 _ _ h2
    rwa [show j / 64 * 64 + j % 64 = j from by omega] at this
theorem Own.pgs {w : World} {o : Col} {c n cap g : Nat} {pg : List (List UInt8)} (h : Own w o c 53 64 (.slice (some ⟨g, 0, none⟩) n cap) n (pg.flatMap vbs)) (hpg : ∀ q ∈ pg, q.length = 64) (hn : n = pg.length) : Pgs w o c g pg ∧ n ≤ cap := by
  rcases h.own.2 with ⟨hv, _⟩ | ⟨g', cap', cur, hv, _, hg, hnc, _, hcs, _⟩
  · cases hv
  · injection hv with e1 _ e3
    injection e1 with e1
    injection e1 with e1
    subst e1
    subst e3
    refine ⟨⟨⟨cur, hg, by rw [← hn]; exact Nat.le_trans (Nat.mul_le_mul_right _ hnc) hcs⟩, h.col _ rfl, fun i q hq => ⟨hpg q (List.mem_of_getElem? hq), fun j v hv => ?_⟩⟩, hnc⟩
    have := h.own.cells (g := g) rfl _ _ (flat_get pg hpg i q hq j v hv)
    rwa [Addr.add_mid, Nat.zero_add] at this

theorem slP : SlT Try.prog 50 53 64 64 (.agg (vbs zeroPage).toArray) := ⟨Try.underlying50, info_parts (by kernel_rfl), by kernel_rfl, by omega⟩
set_option maxHeartbeats 1000000 in
set_option maxRecDepth 100000 in
theorem pclone_calls (c c' p g cap : Nat) (s : FS) (w : World) (o : Col) (h : Fl w o c p g cap s) :
    Calls Try.prog 34 #[.slice (some ⟨g, 0, none⟩) s.pg.length cap] w (Post [] w o fun r w' o' => ∃ g' cap', r = .slice (some ⟨g', 0, none⟩) s.pg.length cap' ∧ s.pg.length ≤ cap' ∧ Pgs w' o' c' g' s.pg) := by
  have hnil := @Lib.run_eql_slice_nil Try.prog
  obtain ⟨d, _, _, hd⟩ := fresh o w.heap.size []
  have hrd := h.rd
  have hk := h.ok.2.1
  obtain ⟨n, hn⟩ : ∃ n, s.pg.length = n := ⟨_, rfl⟩
  rw [hn] at hrd hk ⊢
  go_enter Try.func34, Try.ntmps34
  go_wp2_with (refine holdAt 7 ?_)
  apply Hold.mk
  have s1 : Stp [d] w o _ _ := (Stp.refl [d] w o).alloc (.cells #[] 53) d
  refine app slP _ _ rfl rfl (Own.newE w o d 53 64 _ rfl) (hrd.stp (s1.drop hd) (by simp)) rfl rfl (by omega) (by simp only [maxLen]; omega) fun A' cap' w' o' h1 h2 h3 _ _ => ?_
  have s2 := s1.trans h1
  simp only [List.nil_append, Nat.zero_add] at h2 h3
  go_wp2
  go_ret
  have h4 := Own.fresh h2 s2 hd c'
  rcases h4.own.2 with ⟨hv, _⟩ | ⟨g', cap2, cur, hv, _, hg, _, _, _, _⟩
  · have := (h3.1 hv).1
    cases this
  · injection hv with e1 _ e3
    subst e1
    subst e3
    obtain ⟨h5, h6⟩ := Own.pgs h4 h.ok.1 hn.symm
    exact Post.mk ((s2.drop hd).repaint c') ⟨g', _, rfl, h6, h5⟩

set_option maxHeartbeats 1000000 in
set_option maxRecDepth 100000 in
theorem copy_calls (c c' p g cap : Nat) (s : FS) (w : World) (o : Col) (h : Fl w o c p g cap s) :
    Calls Try.prog 22 #[.pointer (some ⟨p, 0, none⟩)] w (Post [] w o fun r w' o' => ∃ p' g' cap', r = .pointer (some ⟨p', 0, none⟩) ∧ Fl w' o' c' p' g' cap' s) := by
  obtain ⟨d, hdc, _, hd⟩ := fresh o w.heap.size [c]
  have hb := h.blk
  have hsz : (Try.prog.info? 52).map (·.size) = some 4 := by kernel_rfl
  have hlt : p < w.heap.size := (Array.getElem?_eq_some_iff.1 hb).1
  go_enter Try.func22, Try.ntmps22
  go_wp2_with (refine holdAt 8 ?_)
  apply Hold.mk
  refine wpList_load_row rfl _ _ rfl p rfl _ _ _ _ hb Try.underlying52 rfl hsz ?_
  go_wp2_with (refine holdSt 52 ?_)
  apply Hold.mk
  refine wpList_store_row rfl _ _ _ rfl w.heap.size _ rfl rfl _ _ (heap_alloc_new w _) hsz rfl (by simp [Value.oneCell']) ?_
  obtain ⟨w1, hw1⟩ : ∃ w1, (w.alloc (.cells #[.slice none 0 0, .int .i64 0, .int .i64 0, .bool false] 52)).setRow w.heap.size #[.slice (some ⟨g, 0, none⟩) s.pg.length cap, .int .i64 s.fuse, .int .i64 s.tear, .bool s.dead] = w1 := ⟨_, rfl⟩
  have s1 : Stp [d] w o w1 (paint o w.heap.size d) := by rw [← hw1]; exact ((Stp.refl [d] w o).alloc _ d).trans (setRow_stp (by rw [paint_at]; simp) _)
  have hB : w1.heap[w.heap.size]? = some (.cells #[.slice (some ⟨g, 0, none⟩) s.pg.length cap, .int .i64 s.fuse, .int .i64 s.tear, .bool s.dead] 52 (0, 0)) := by rw [← hw1]; exact setRow_heap _ _ _ _ _ _ (heap_alloc_new w _)
  have h1 := h.stp (s1.drop hd) (by simp)
  have h10 := h1.c0
  have s1 := Lib.hid s1
  rw [hw1]
  have hB := Lib.hid hB
  clear hw1 hb
  go_wp2_with fail
  refine (pclone_calls c d p g cap s w1 _ h1).mono ?_
  rintro e w2 ⟨r, o2, rfl, s2, g', cap', rfl, hcap, hp⟩
  have hB2 := s2.blk hB.out (by simp)
  have k0 := blk_cell hB2 0
  have k1 := blk_free hB2 0
  have kc := s2.colb hB.out
  rw [paint_at] at kc
  have hne : w.heap.size ≠ g' := by
    rintro rfl
    obtain ⟨cur, h1, _⟩ := hp.blk
    have := hB2.symm.trans h1
    injection this with this
    injection this with _ h2 _
    exact absurd h2 (by decide)
  have fin : Fl (w2.setCell ⟨w.heap.size, 0, none⟩ (.slice (some ⟨g', 0, none⟩) s.pg.length cap')) o2 d w.heap.size g' cap' s := ⟨by rw [blk_set hB2]; rfl, kc, hp.set hne _, hcap, h.ok⟩
  have st := (s1.out.trans s2.none).setCell (p := ⟨w.heap.size, 0, none⟩) (fun _ => by rw [kc]; simp) (.slice (some ⟨g', 0, none⟩) s.pg.length cap')
  have fin := Lib.hid fin
  have st := Lib.hid st
  clear s2 hB2 hp h10 kc
  go_wp2
  go_ret
  exact Post.mk ((st.out.drop hd).repaint c') ⟨_, g', cap', rfl, fin.out.fresh st.out hd c'⟩

end Go.Proofs.Ytbhmfiibaeladaa
