/- Messages that are open (chapter 15): plain laws of what takes a frame. -/
import Derived.Test.YtcbecidcfbhkfaaSegK
namespace Go.Proofs.Ytcbecidcfbhkfaa
set_option linter.unusedVariables false
set_option linter.unusedSimpArgs false
open Go.RowKit Go.ChangeMaps

theorem bad_ok {s : JS} (h : s.ok) : s.bad.ok := h
theorem del_ok {s : JS} (h : s.ok) (id : Int) : (s.del id).ok := by
  intro i e hi
  by_cases hne : i = id
  · subst hne
    simp [JS.del, upd_same] at hi
  · exact h i e (by rw [← hi]; exact (upd_other _ _ hne).symm)
theorem set_ok {s : JS} (h : s.ok) (id : Int) {e : OE} (he : e.ok) : (s.set id e).ok := by
  intro i e' hi
  by_cases hne : i = id
  · subst hne
    simp only [JS.set, upd_same, Option.some.injEq] at hi
    subst hi
    exact he
  · exact h i e' (by rw [← hi]; exact (upd_other _ _ hne).symm)
theorem put_ok {s : JS} (h : s.ok) (id : Int) {e : OE} (he : e.ok) : (s.put id e).ok := set_ok h id he
theorem singleJ_ok {s : JS} (h : s.ok) (id : Int) (d : List UInt8) : (singleJ s id d).1.ok := by
  unfold singleJ
  split
  · exact bad_ok h
  · exact dropJ_ok h id
theorem beginJ_ok {s : JS} (h : s.ok) (id : Int) (d : List UInt8) (now : Int) (h1 : -1000000000 ≤ now) (h2 : now ≤ 1000000000) : (beginJ s id d now).ok := by
  unfold beginJ
  split
  · exact bad_ok h
  · rename_i hn
    refine put_ok (dropJ_ok h id) id ⟨?_, ?_, ?_, ?_, ?_, h1, h2⟩
    · show 6 ≤ (d.drop 2).length
      rw [List.length_drop]; omega
    · show (d.drop 2).length < begN d
      rw [List.length_drop]; omega
    · show begN d ≤ 600
      omega
    · show 1 ≤ 1
      omega
    · show 1 ≤ (d.drop 2).length
      rw [List.length_drop]; omega
theorem goesJ_ok {s : JS} (h : s.ok) (id : Int) (d : List UInt8) (now : Int) (h1 : -1000000000 ≤ now) (h2 : now ≤ 1000000000) : (goesJ s id d now).1.ok := by
  unfold goesJ
  cases hf : s.f id with
  | none => exact bad_ok h
  | some e =>
    obtain ⟨k1, k2, k3, k4, k5, k6, k7⟩ := h id e hf
    dsimp only
    split
    · exact dropJ_ok h id
    · rename_i hn
      have hl : d.tail.length = d.length - 1 := by simp
      have hml : (e.m ++ d.tail).length = e.m.length + (d.length - 1) := by rw [List.length_append, hl]
      split
      · rename_i hlt
        refine set_ok h id ⟨?_, ?_, k3, ?_, ?_, h1, h2⟩
        · show 6 ≤ (e.m ++ d.tail).length
          rw [hml]; omega
        · show (e.m ++ d.tail).length < e.all
          rw [hml]; omega
        · show 1 ≤ e.n + 1
          omega
        · show e.n + 1 ≤ (e.m ++ d.tail).length
          rw [hml]; omega
      · intro i e' hi
        by_cases hne : i = id
        · subst hne
          simp [JS.del, upd_same] at hi
        · have h3 : s.f i = some e' := by
            have : ((s.set id (grownE e d now)).del id).f i = s.f i := by
              show upd (upd s.f id _) id none i = _
              rw [upd_other _ _ hne, upd_other _ _ hne]
            rw [← this]; exact hi
          exact h i e' h3
theorem takeJ_ok {s : JS} (h : s.ok) (id : Int) (d : List UInt8) (now : Int) (h1 : -1000000000 ≤ now) (h2 : now ≤ 1000000000) : (takeJ s id d now).1.ok := by
  have hl := lateJ_ok h id now
  unfold takeJ
  split
  · exact bad_ok hl
  · split
    · exact singleJ_ok hl id d
    · split
      · exact beginJ_ok hl id d now h1 h2
      · split
        · exact goesJ_ok hl id d now h1 h2
        · exact bad_ok hl
theorem takeJ_err (s : JS) (id : Int) (d : List UInt8) (now : Int) : (takeJ s id d now).1.err ≤ s.err + 2 ∧ (takeJ s id d now).1.cnt ≤ s.cnt + 1 := by
  have hl := lateJ_err s id now
  obtain ⟨t, ht⟩ : ∃ t, lateJ s id now = t := ⟨_, rfl⟩
  have hd1 := dropJ_err t id
  have hd2 := dropJ_cnt t id
  unfold takeJ
  rw [ht] at hl ⊢
  split
  · exact ⟨by show t.err + 1 ≤ _; omega, by show t.cnt ≤ _; omega⟩
  · split
    · unfold singleJ
      split
      · exact ⟨by show t.err + 1 ≤ _; omega, by show t.cnt ≤ _; omega⟩
      · exact ⟨by show (dropJ t id).err ≤ _; omega, by show (dropJ t id).cnt ≤ _; omega⟩
    · split
      · unfold beginJ
        dsimp only
        split
        · exact ⟨by show t.err + 1 ≤ _; omega, by show t.cnt ≤ _; omega⟩
        · exact ⟨by show (dropJ t id).err ≤ _; omega, by show (dropJ t id).cnt + 1 ≤ _; omega⟩
      · split
        · unfold goesJ
          split
          · exact ⟨by show t.err + 1 ≤ _; omega, by show t.cnt ≤ _; omega⟩
          · split
            · exact ⟨by show (dropJ t id).err ≤ _; omega, by show (dropJ t id).cnt ≤ _; omega⟩
            · split
              · exact ⟨by show t.err ≤ _; omega, by show t.cnt ≤ _; omega⟩
              · exact ⟨by show t.err ≤ _; omega, by show t.cnt - 1 ≤ _; omega⟩
        · exact ⟨by show t.err + 1 ≤ _; omega, by show t.cnt ≤ _; omega⟩

end Go.Proofs.Ytcbecidcfbhkfaa
