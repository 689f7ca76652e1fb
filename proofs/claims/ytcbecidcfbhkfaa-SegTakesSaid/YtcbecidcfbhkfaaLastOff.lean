/- A drawn region whose last operation waits for all the others: it may be set apart; the others go under a condition that the last one may break. -/
import Derived.Test.YtcbecidcfbhkfaaBase
import Derived.Deep.RegionHeld3
namespace Go.Proofs.Ytcbecidcfbhkfaa
set_option linter.unusedVariables false
set_option linter.unusedSimpArgs false
open Go.RowKit

section
variable {P : Program} {ops : Array Oper} {Q : Exit → Act → World → Prop} {md : Region.Mode} {S : World → Prop}
/-- Behind all the others the last operation comes up. -/
def LastQ (P : Program) (ops : Array Oper) (last : Oper) (Q : Exit → Act → World → Prop) : Exit → Act → World → Prop := fun e a w => match e with
  | .normal => wpList P ops Q [last] a w
  | e => Q e a w
def lastOk (md : Region.Mode) (ops : Array Oper) (n : Nat) : Bool :=
  (List.range ops.size).all fun j => match ops[j]? with
    | none => true
    | some o => (o.after.all fun e => !Region.binds md e || decide (e.on < j)) && (j == n || (List.range ops.size).any fun k => match ops[k]? with | none => false | some o' => decide (j < k) && o'.after.any fun e => Region.binds md e && e.on == j)
theorem wpOp_ofLast {last : Oper} {i : Nat} {K : Act → World → Prop} {a : Act} {w : World} (h : wpOp P ops (LastQ P ops last Q) i K a w) : wpOp P ops Q i K a w := by
  unfold wpOp at *
  split
  · simpa [*] using h
  · rename_i o ho
    simp only [ho] at h
    split
    · rename_i hw
      simp only [hw, if_true] at h
      rcases h with h | h
      · refine .inl ?_
        unfold Oper.wp at *
        generalize (execOp a.eval o).run P w = r at *
        cases r with
        | ok n w' =>
          cases n <;> simp only [Oper.upon] at h ⊢ <;>
            first
              | exact h
              | exact Calls.mono h (fun e w'' he => by cases e <;> exact he)
        | halt x w' => cases x <;> simp only [Oper.upon] at h ⊢ <;> exact h
      · exact .inr h
    · rename_i hw
      simp only [hw] at h
      exact h
theorem lastOff {last : Oper} {n : Nat} (hn : ops.size = n + 1) (hl : ops[n]? = some last) (hok : lastOk md ops n = true) :
    ∀ (fuel : Nat) (listed : Array Bool) (a : Act) (w : World), listed.size = n + 1 → listed.getD n true = false → (∀ (k : Nat) (o : Oper), listed.getD k false = true → ops[k]? = some o → ∀ e ∈ o.after, Region.binds md e = true → listed.getD e.on false = true) →
      wpAny P md ops (LastQ P ops last Q) fuel (listed.setIfInBounds n true) a w → wpAny P md ops Q (fuel + 1) listed a w := by
  have hac : ∀ (j : Nat) (o : Oper), ops[j]? = some o → (∀ e ∈ o.after, Region.binds md e = true → e.on < j) ∧ (j ≠ n → ∃ (k : Nat) (o' : Oper), j < k ∧ ops[k]? = some o' ∧ ∃ e ∈ o'.after, Region.binds md e = true ∧ e.on = j) := by
    intro j o ho
    have hj := (Array.getElem?_eq_some_iff.1 ho).1
    unfold lastOk at hok
    rw [List.all_eq_true] at hok
    have h1 := hok j (List.mem_range.2 hj)
    simp only [ho, Bool.and_eq_true, Bool.or_eq_true] at h1
    obtain ⟨h1, h2⟩ := h1
    refine ⟨fun e he hb => ?_, fun hne => ?_⟩
    · rw [Array.all_eq_true'] at h1
      have := h1 e he
      simpa [hb] using this
    · rcases h2 with h2 | h2
      · exact absurd (by simpa using h2) hne
      · rw [List.any_eq_true] at h2
        obtain ⟨k, hk, h2⟩ := h2
        cases hok2 : ops[k]? with
        | none => simp [hok2] at h2
        | some o' =>
          simp only [hok2, Bool.and_eq_true, decide_eq_true_eq] at h2
          obtain ⟨h4, h2⟩ := h2
          rw [Array.any_eq_true'] at h2
          obtain ⟨e, he, h3⟩ := h2
          simp only [Bool.and_eq_true, beq_iff_eq] at h3
          exact ⟨k, o', h4, hok2, e, he, h3.1, h3.2⟩
  -- where the last one may come up, all has come up
  have hdown : ∀ listed : Array Bool, listed.size = n + 1 → (∀ (k : Nat) (o : Oper), listed.getD k false = true → ops[k]? = some o → ∀ e ∈ o.after, Region.binds md e = true → listed.getD e.on false = true) → n ∈ Region.ready md ops listed → ∀ d j, j + d = n → j ≠ n → listed.getD j false = true := by
    intro listed hs hcl hr d
    induction d using Nat.strongRecOn with
    | _ d ih =>
      intro j hjd hjn
      obtain ⟨o, ho⟩ : ∃ o, ops[j]? = some o := ⟨ops[j]'(by omega), by simp [show j < ops.size by omega]⟩
      obtain ⟨k, o', hjk, ho', e, he, hb, hon⟩ := (hac j o ho).2 hjn
      have hk := (Array.getElem?_eq_some_iff.1 ho').1
      rw [← hon]
      by_cases hkn : k = n
      · subst hkn
        rw [mem_ready] at hr
        obtain ⟨_, o2, ho2, h2⟩ := hr
        rw [ho'] at ho2
        injection ho2 with ho2
        subst ho2
        exact h2 e he hb
      · exact hcl k o' (ih (n - k) (by omega) k (by omega) hkn) ho' e he hb
  -- where nothing may come up, all has come up
  have hall : ∀ listed : Array Bool, listed.size = n + 1 → Region.ready md ops (listed.setIfInBounds n true) = [] → ∀ j, j < n → listed.getD j true = true ∧ listed.getD j false = true := by
    intro listed hs hr j
    induction j using Nat.strongRecOn with
    | _ j ih =>
      intro hj
      have hjs : j < listed.size := by omega
      have heq : listed.getD j true = listed.getD j false := by simp [hjs]
      have key : listed.getD j true = true := by
        cases hq : listed.getD j true with
        | true => rfl
        | false =>
          obtain ⟨o, ho⟩ : ∃ o, ops[j]? = some o := ⟨ops[j]'(by omega), by simp [show j < ops.size by omega]⟩
          have : j ∈ Region.ready md ops (listed.setIfInBounds n true) := by
            rw [mem_ready]
            refine ⟨by rw [getD_set_ne true (by omega)]; exact hq, o, ho, fun e he hb => ?_⟩
            have h1 := (hac j o ho).1 e he hb
            rw [getD_set_ne false (by omega)]
            exact (ih e.on h1 (by omega)).2
          rw [hr] at this
          cases this
      exact ⟨key, heq ▸ key⟩
  have hend : ∀ (fuel : Nat) (listed : Array Bool) (a : Act) (w : World), listed.size = n + 1 → listed.getD n true = false → Region.ready md ops (listed.setIfInBounds n true) = [] → wpList P ops Q [last] a w → wpAny P md ops Q (fuel + 1) listed a w := by
    intro fuel listed a w hs hn0 hr hq
    have ha := hall listed hs hr
    have hmem : n ∈ Region.ready md ops listed := by
      rw [mem_ready]
      refine ⟨hn0, last, hl, fun e he hb => ?_⟩
      exact (ha e.on ((hac n last hl).1 e he hb)).2
    refine ⟨fun h0 => absurd (h0 ▸ hmem) List.not_mem_nil, fun i hi => ?_⟩
    have hin : i = n := by
      rw [mem_ready] at hi
      obtain ⟨h1, o, ho, _⟩ := hi
      have hio := (Array.getElem?_eq_some_iff.1 ho).1
      rcases Nat.lt_or_ge i n with hlt | hge
      · rw [(ha i hlt).1] at h1; cases h1
      · omega
    subst hin
    exact wpOp_mono (K := fun a w => Q .normal a w) (fun a w h => wpAny_done hr h fuel) (by unfold wpOp; simp only [hl]; exact hq)
  intro fuel
  induction fuel with
  | zero => intro listed a w hs hn0 _ h; exact hend 0 listed a w hs hn0 h.1 h.2
  | succ fuel ih =>
    intro listed a w hs hn0 hcl h
    by_cases hr : Region.ready md ops (listed.setIfInBounds n true) = []
    · exact hend _ listed a w hs hn0 hr (h.1 hr)
    · have back : ∀ i, i ∈ Region.ready md ops (listed.setIfInBounds n true) → i ≠ n ∧ i ∈ Region.ready md ops listed := by
        intro i hi
        rw [mem_ready] at hi
        obtain ⟨h1, o, ho, h2⟩ := hi
        have hio := (Array.getElem?_eq_some_iff.1 ho).1
        have hne : i ≠ n := by
          rintro rfl
          simp [show i < listed.size by omega] at h1
        refine ⟨hne, ?_⟩
        rw [mem_ready]
        refine ⟨by rw [getD_set_ne true (Ne.symm hne)] at h1; exact h1, o, ho, fun e he hb => ?_⟩
        have h3 := (hac i o ho).1 e he hb
        have h4 := h2 e he hb
        rwa [getD_set_ne false (by omega)] at h4
      obtain ⟨i0, hi0⟩ := List.exists_mem_of_ne_nil _ hr
      refine ⟨fun h0 => ?_, fun i hi => ?_⟩
      · have := (back i0 hi0).2
        rw [h0] at this
        cases this
      · have hne : i ≠ n := by
          rintro rfl
          obtain ⟨hne0, hr0⟩ := back i0 hi0
          rw [mem_ready] at hr0
          obtain ⟨u1, o0, ho0, _⟩ := hr0
          have hi0s := (Array.getElem?_eq_some_iff.1 ho0).1
          have := hdown listed hs hcl hi (i - i0) i0 (by omega) hne0
          simp [show i0 < listed.size by omega] at this u1
          rw [this] at u1
          cases u1
        have hi2 := ready_mono hi hne
        have h3 := wpOp_ofLast (h.2 i hi2)
        refine wpOp_mono (fun a' w' h4 => ih _ a' w' (by simpa using hs) (by rw [getD_set_ne true hne]; exact hn0) (fun k o hk ho e he hb => ?_) ?_) h3
        · by_cases hki : k = i
          · subst hki
            rw [mem_ready] at hi
            obtain ⟨_, o2, ho2, h2⟩ := hi
            rw [ho] at ho2
            injection ho2 with ho2
            subst ho2
            exact getD_set_true (h2 e he hb)
          · rw [getD_set_ne false (Ne.symm hki)] at hk
            exact getD_set_true (hcl k o hk ho e he hb)
        rw [Array.setIfInBounds_comm _ _ hne]
        exact h4
/-- The beginning: the last operation is set apart. -/
theorem wp_region_last (S : World → Prop) {id n : Nat} {last : Oper} {a : Act} {w : World} (hm : P.follows .mixedOrders = true) (hn : ops.size = n + 1) (hl : ops[n]? = some last) (hok : lastOk .any ops n = true)
    (h : wpAnyH P .any ops (LastQ P ops last Q) S n ((Array.replicate ops.size false).setIfInBounds n true) a w.drew) : (Code.region id ops true).wp P Q a w := by
  refine wp_region_any hm ?_
  have h1 := wpAny_of_held _ _ _ _ h
  have h2 := lastOff hn hl hok n (Array.replicate ops.size false) a w.drew (by simp [hn]) (by simp [hn]) (fun k o hk => by simp [Array.getElem?_replicate] at hk; split at hk <;> simp at hk) h1
  rw [hn]
  rw [hn] at h2
  exact h2
end
end Go.Proofs.Ytcbecidcfbhkfaa
