/- How much may be spent: what a greater or a lesser limit turns; plain. -/
import Derived.Test.YtmjdjpelhhibgaaGreatDoorVSpec
namespace Go.Proofs.YtmjdjpelhhibgaaGreatDoor.Val
open Go Go.Proofs.YtmjdjpelhhibgaaGreatDoor.Rf Go.Proofs.YtmjdjpelhhibgaaGreatDoor.Spec
set_option linter.unusedVariables false
set_option linter.unusedSimpArgs false
theorem openC_le {E : List Ent} {op : List ByteArray} {sp : Int} {nm : ByteArray} {m M : Int} (hm : m ≤ M) (hM : openC E op sp nm M ≠ 3) : openC E op sp nm m = openC E op sp nm M ∨ openC E op sp nm m = 3 := by
  unfold openC at *
  split
  · exact .inl rfl
  · rename_i h1
    rw [if_neg h1] at hM
    split
    · exact .inl rfl
    · rename_i h2
      rw [if_neg h2] at hM
      split
      · exact .inl rfl
      · rename_i h3
        rw [if_neg h3] at hM
        split
        · split
          · exact .inl rfl
          · rename_i h4 h5
            exfalso
            unfold spendOk at h4 h5
            simp only [Bool.and_eq_true, decide_eq_true_eq] at h4 h5
            omega
        · exact .inr rfl
theorem openC_three {E : List Ent} {op : List ByteArray} {sp : Int} {nm : ByteArray} {m M : Int} (hm : m ≤ M) (hM : openC E op sp nm M = 3) : openC E op sp nm m = 3 := by
  unfold openC at *
  split
  · rename_i h1; rw [if_pos h1] at hM; cases hM
  · rename_i h1
    rw [if_neg h1] at hM
    split
    · rename_i h2; rw [if_pos h2] at hM; exact hM
    · rename_i h2
      rw [if_neg h2] at hM
      split
      · rename_i h3; rw [if_pos h3] at hM; cases hM
      · rename_i h3
        rw [if_neg h3] at hM
        split
        · rename_i h4
          split at hM
          · cases hM
          · rename_i h5
            exfalso
            unfold spendOk at h4 h5
            simp only [Bool.and_eq_true, decide_eq_true_eq] at h4 h5
            omega
        · rfl
/-- Under a lesser limit the same comes out, or the limit is told. -/
def Or3 (a b : Option (Int × St)) : Prop := b = a ∨ ∃ s, b = some (3, s)
theorem entOf_le {E : List Ent} {m M : Int} (hm : m ≤ M) {run run' : Bool → List UInt8 → St → Option (Int × St)} (hr : ∀ b l st R, run b l st = some R → Or3 (some R) (run' b l st)) {nm : ByteArray} {st : St} {R : Int × St} (h : entOf run E M nm st = some R) : Or3 (some R) (entOf run' E m nm st) := by
  unfold entOf at h ⊢
  split at h
  · rename_i h1; rw [if_pos h1]; exact .inl h
  · rename_i h1
    rw [if_neg h1]
    split at h
    · rename_i h2; rw [if_pos h2]; exact .inl h
    · rename_i h2
      rw [if_neg h2]
      by_cases h3 : openC E st.op st.sp nm M = 0
      · rw [if_pos h3] at h
        rcases openC_le (E := E) (op := st.op) (sp := st.sp) (nm := nm) hm (by rw [h3]; decide) with h4 | h4
        · rw [h3] at h4
          rw [if_pos h4]
          cases hz : run true (entR E nm).2.1.data.toList ⟨st.out, st.op ++ [nm], st.sp + (entR E nm).2.1.size⟩ with
          | none => rw [hz] at h; cases h
          | some q =>
            rw [hz] at h
            rcases hr _ _ _ _ hz with h5 | ⟨s, h5⟩
            · rw [h5]; exact .inl h
            · rw [h5]
              exact .inr ⟨s, by simp⟩
        · rw [h4, if_neg (by decide), if_pos rfl]
          exact .inr ⟨_, rfl⟩
      · rw [if_neg h3] at h
        by_cases h3b : openC E st.op st.sp nm M = 3
        · rw [openC_three hm h3b, if_neg (by decide), if_pos rfl]
          exact .inr ⟨_, rfl⟩
        · rcases openC_le (E := E) (op := st.op) (sp := st.sp) (nm := nm) hm h3b with h4 | h4
          · rw [h4, if_neg h3]
            exact .inl h
          · rw [h4, if_neg (by decide), if_pos rfl]
            exact .inr ⟨_, rfl⟩
theorem runT_le (E : List Ent) (m M : Int) (hm : m ≤ M) : ∀ (n : Nat) (b : Bool) (l : List UInt8) (st : St) (R : Int × St), runT E M n b l st = some R → Or3 (some R) (runT E m n b l st) := by
  intro n
  induction n with
  | zero => intro b l st R h; cases h
  | succ n ih =>
    intro b l st R h
    cases l with
    | nil => exact .inl h
    | cons c t =>
      rw [runT] at h ⊢
      split at h
      · rename_i h1; rw [if_pos h1]; exact ih _ _ _ _ h
      · rename_i h1
        rw [if_neg h1]
        split at h
        · rename_i h2; rw [if_pos h2]; exact .inl h
        · rename_i h2
          rw [if_neg h2]
          split at h
          · rename_i h3
            rw [if_pos h3]
            split at h
            · rename_i h4; rw [if_pos h4]; exact .inl h
            · rename_i h4
              rw [if_neg h4]
              split at h
              · rename_i h5; rw [if_pos h5]; exact ih _ _ _ _ h
              · rename_i h5
                rw [if_neg h5]
                cases hz : entOf (runT E M n) E M (refNm (c :: t)) st with
                | none => rw [hz] at h; cases h
                | some q =>
                  rw [hz] at h
                  rcases entOf_le hm (fun b l st R hh => ih b l st R hh) hz with h6 | ⟨s, h6⟩
                  · rw [h6]
                    obtain ⟨k, s1⟩ := q
                    simp only at h ⊢
                    split at h
                    · rename_i h7; rw [if_pos h7]; exact ih _ _ _ _ h
                    · rename_i h7; rw [if_neg h7]; exact .inl h
                  · rw [h6]
                    simp only [show ¬ (3 : Int) = 0 by decide, if_false]
                    exact .inr ⟨s, rfl⟩
          · rename_i h3; rw [if_neg h3]; exact ih _ _ _ _ h
/-- What comes out under some limit, the limit not told, comes out under a greater one. -/
theorem entOf_ge {E : List Ent} {m M : Int} (hm : M ≤ m) {run run' : Bool → List UInt8 → St → Option (Int × St)} (hr : ∀ b l st R, run b l st = some R → R.1 ≠ 3 → run' b l st = some R) {nm : ByteArray} {st : St} {R : Int × St} (h : entOf run E M nm st = some R) (h3 : R.1 ≠ 3) : entOf run' E m nm st = some R := by
  unfold entOf at h ⊢
  split at h
  · rename_i h1; rw [if_pos h1]; exact h
  · rename_i h1
    rw [if_neg h1]
    split at h
    · rename_i h2; rw [if_pos h2]; exact h
    · rename_i h2
      rw [if_neg h2]
      have ho : openC E st.op st.sp nm M ≠ 3 → openC E st.op st.sp nm m = openC E st.op st.sp nm M := fun hne => by
        by_cases hq : openC E st.op st.sp nm m = 3
        · exact absurd (openC_three hm hq) hne
        · rcases openC_le (E := E) (op := st.op) (sp := st.sp) (nm := nm) hm hq with h4 | h4
          · exact h4.symm
          · exact absurd h4 hne
      by_cases h4 : openC E st.op st.sp nm M = 0
      · rw [if_pos h4] at h
        rw [ho (by rw [h4]; decide), if_pos h4]
        cases hz : run true (entR E nm).2.1.data.toList ⟨st.out, st.op ++ [nm], st.sp + (entR E nm).2.1.size⟩ with
        | none => rw [hz] at h; cases h
        | some q =>
          rw [hz] at h
          obtain ⟨k, s1⟩ := q
          simp only at h
          have hk : k ≠ 3 := by
            split at h
            · rename_i h5; rw [h5]; decide
            · simp only [Option.some.injEq] at h
              rw [← h] at h3
              exact h3
          rw [hr _ _ _ _ hz hk]
          exact h
      · rw [if_neg h4] at h
        have hne : openC E st.op st.sp nm M ≠ 3 := by
          intro h5
          rw [h5, if_pos rfl] at h
          simp only [Option.some.injEq] at h
          rw [← h] at h3
          exact h3 rfl
        rw [ho hne, if_neg h4]
        exact h
theorem runT_ge (E : List Ent) (m M : Int) (hm : M ≤ m) : ∀ (n : Nat) (b : Bool) (l : List UInt8) (st : St) (R : Int × St), runT E M n b l st = some R → R.1 ≠ 3 → runT E m n b l st = some R := by
  intro n
  induction n with
  | zero => intro b l st R h; cases h
  | succ n ih =>
    intro b l st R h h3
    cases l with
    | nil => exact h
    | cons c t =>
      rw [runT] at h ⊢
      split at h
      · rename_i h1; rw [if_pos h1]; exact ih _ _ _ _ h h3
      · rename_i h1
        rw [if_neg h1]
        split at h
        · rename_i h2; rw [if_pos h2]; exact h
        · rename_i h2
          rw [if_neg h2]
          split at h
          · rename_i h4
            rw [if_pos h4]
            split at h
            · rename_i h5; rw [if_pos h5]; exact h
            · rename_i h5
              rw [if_neg h5]
              split at h
              · rename_i h6; rw [if_pos h6]; exact ih _ _ _ _ h h3
              · rename_i h6
                rw [if_neg h6]
                cases hz : entOf (runT E M n) E M (refNm (c :: t)) st with
                | none => rw [hz] at h; cases h
                | some q =>
                  rw [hz] at h
                  obtain ⟨k, s1⟩ := q
                  simp only at h
                  by_cases hk : k = 0
                  · rw [if_pos hk] at h
                    rw [entOf_ge hm (fun b l st R hh h3 => ih b l st R hh h3) hz (by rw [hk]; show (0 : Int) ≠ 3; decide)]
                    simp only
                    rw [if_pos hk]
                    exact ih _ _ _ _ h h3
                  · rw [if_neg hk] at h
                    have hk3 : k ≠ 3 := by
                      simp only [Option.some.injEq] at h
                      rw [← h] at h3
                      exact h3
                    rw [entOf_ge hm (fun b l st R hh h3 => ih b l st R hh h3) hz hk3]
                    simp only
                    rw [if_neg hk]
                    exact h
          · rename_i h4; rw [if_neg h4]; exact ih _ _ _ _ h h3
end Go.Proofs.YtmjdjpelhhibgaaGreatDoor.Val
