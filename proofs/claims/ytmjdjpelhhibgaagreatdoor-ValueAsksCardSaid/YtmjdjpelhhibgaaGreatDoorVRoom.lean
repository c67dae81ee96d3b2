/- How much a value may be: no more than its text and what it spends allow. -/
import Derived.Test.YtmjdjpelhhibgaaGreatDoorVSpec
namespace Go.Proofs.YtmjdjpelhhibgaaGreatDoor.Val
open Go Go.Proofs.YtmjdjpelhhibgaaGreatDoor.Rf Go.Proofs.YtmjdjpelhhibgaaGreatDoor.Spec
set_option linter.unusedVariables false
set_option linter.unusedSimpArgs false
structure Fits (most d : Int) (st st' : St) : Prop where
  out : (st'.out.length : Int) + 4 * st.sp ≤ (st.out.length : Int) + d + 4 * st'.sp
  sp : st'.sp ≤ max st.sp most
theorem Fits.refl (most : Int) (d : Int) (hd : 0 ≤ d) (st : St) : Fits most d st st := ⟨by omega, by omega⟩
theorem five_len (nm : ByteArray) : (fiveR nm).1.data.toList.length ≤ 1 := by
  unfold fiveR
  split
  · decide
  · split
    · decide
    · split
      · decide
      · split
        · decide
        · split <;> decide
theorem cutB_le (c : UInt8) (t : List UInt8) : (cutB (c :: t)).length ≤ t.length + 1 := by
  unfold cutB Lib.cut
  split
  · simp only [List.length_drop, List.length_cons]; omega
  · simp
theorem cutB_lt (c : UInt8) (t : List UInt8) (h : cutIs (c :: t) = true) : (cutB (c :: t)).length ≤ t.length := by
  unfold cutB
  unfold cutIs at h
  unfold Lib.cut at h ⊢
  split
  · simp only [List.length_drop, List.length_cons, List.length_nil]; omega
  · rename_i h2; rw [if_neg h2] at h; cases h
theorem enc_le4 (z : Int) : (Lib.encodeRune z).length ≤ 4 := by
  unfold Lib.encodeRune
  rw [List.length_map]
  exact (Lib.encodeRuneZ_length z).2
theorem openC_zero {E : List Ent} {op : List ByteArray} {sp : Int} {nm : ByteArray} {most : Int} (h : openC E op sp nm most = 0) : sp ≤ most ∧ ((entR E nm).2.1.size : Int) ≤ most - sp := by
  unfold openC at h
  split at h
  · cases h
  · split at h
    · rename_i h1; rw [h] at h1; exact absurd rfl h1
    · split at h
      · cases h
      · split at h
        · rename_i h4
          unfold spendOk at h4
          simp only [Bool.and_eq_true, decide_eq_true_eq] at h4
          omega
        · cases h
theorem entOf_fits {run : Bool → List UInt8 → St → Option (Int × St)} {most : Int} (hr : ∀ b l st k st', run b l st = some (k, st') → Fits most (4 * (l.length : Int)) st st') {E : List Ent} {nm : ByteArray} {st st' : St} {k : Int}
    (h : entOf run E most nm st = some (k, st')) : Fits most 4 st st' := by
  unfold entOf at h
  split at h
  · simp only [Option.some.injEq, Prod.mk.injEq] at h
    obtain ⟨rfl, rfl⟩ := h
    have := five_len nm
    exact ⟨by simp only [List.length_append]; push_cast; omega, by show st.sp ≤ _; omega⟩
  · split at h
    · simp only [Option.some.injEq, Prod.mk.injEq] at h
      obtain ⟨rfl, rfl⟩ := h
      exact Fits.refl _ _ (by decide) _
    · split at h
      · rename_i h0
        obtain ⟨h1, h2⟩ := openC_zero h0
        cases hz : run true (entR E nm).2.1.data.toList ⟨st.out, st.op ++ [nm], st.sp + (entR E nm).2.1.size⟩ with
        | none => rw [hz] at h; cases h
        | some q =>
          obtain ⟨k1, s1⟩ := q
          have hg := hr _ _ _ _ _ hz
          have hl : (entR E nm).2.1.data.toList.length = (entR E nm).2.1.size := rfl
          have h3 := hg.out
          have h4 := hg.sp
          rw [hl] at h3
          simp only at h3 h4
          have hf : Fits most 4 st s1 := ⟨by omega, by omega⟩
          rw [hz] at h
          simp only at h
          split at h
          · simp only [Option.some.injEq, Prod.mk.injEq] at h
            obtain ⟨rfl, rfl⟩ := h
            exact ⟨hf.out, hf.sp⟩
          · simp only [Option.some.injEq, Prod.mk.injEq] at h
            obtain ⟨rfl, rfl⟩ := h
            exact hf
      · simp only [Option.some.injEq, Prod.mk.injEq] at h
        obtain ⟨_, rfl⟩ := h
        exact Fits.refl _ _ (by decide) _
theorem runT_fits (E : List Ent) (most : Int) : ∀ (n : Nat) (b : Bool) (l : List UInt8) (st : St) (k : Int) (st' : St), runT E most n b l st = some (k, st') → Fits most (4 * (l.length : Int)) st st' := by
  intro n
  induction n with
  | zero => intro b l st k st' h; cases h
  | succ n ih =>
    intro b l st k st' h
    cases l with
    | nil =>
      simp only [runT, Option.some.injEq, Prod.mk.injEq] at h
      obtain ⟨_, rfl⟩ := h
      exact Fits.refl _ _ (by simp) _
    | cons c t =>
      unfold runT at h
      simp only at h
      have hd : (0 : Int) ≤ 4 * ((c :: t).length : Int) := by omega
      split at h
      · have := ih _ _ _ _ _ h
        exact ⟨by have := this.out; simp only [List.length_append, List.length_cons, List.length_nil] at this ⊢; push_cast at this ⊢; omega, this.sp⟩
      · split at h
        · simp only [Option.some.injEq, Prod.mk.injEq] at h
          obtain ⟨_, rfl⟩ := h
          exact Fits.refl _ _ hd _
        · split at h
          · split at h
            · simp only [Option.some.injEq, Prod.mk.injEq] at h
              obtain ⟨_, rfl⟩ := h
              exact Fits.refl _ _ hd _
            · rename_i hcut
              have hlt := cutB_lt c t (by simpa using hcut)
              split at h
              · have := ih _ _ _ _ _ h
                have he := enc_le4 (refV (c :: t)).1
                exact ⟨by have := this.out; simp only [List.length_append, List.length_cons] at this ⊢; push_cast at this ⊢; omega, this.sp⟩
              · cases hz : entOf (runT E most n) E most (refNm (c :: t)) st with
                | none => rw [hz] at h; cases h
                | some q =>
                  obtain ⟨k1, s1⟩ := q
                  have hg := entOf_fits ih hz
                  rw [hz] at h
                  simp only at h
                  have h1 := hg.out
                  have h2 := hg.sp
                  split at h
                  · have h3 := ih _ _ _ _ _ h
                    have h4 := h3.out
                    have h5 := h3.sp
                    exact ⟨by simp only [List.length_cons]; push_cast; omega, by omega⟩
                  · simp only [Option.some.injEq, Prod.mk.injEq] at h
                    obtain ⟨rfl, rfl⟩ := h
                    exact ⟨by simp only [List.length_cons]; push_cast; omega, h2⟩
          · have := ih _ _ _ _ _ h
            exact ⟨by have := this.out; simp only [List.length_append, List.length_cons, List.length_nil] at this ⊢; push_cast at this ⊢; omega, this.sp⟩
/-- What comes out is no longer than four times its text and what may be spent. -/
theorem runT_small {E : List Ent} {most : Int} {n : Nat} {b : Bool} {l : List UInt8} {op : List ByteArray} {sp : Int} {k : Int} {st' : St} (h : runT E most n b l ⟨[], op, sp⟩ = some (k, st')) (h0 : 0 ≤ sp) (B : Nat) (h1 : sp ≤ B) (h2 : most ≤ B) : st'.out.length ≤ 4 * l.length + 4 * B := by
  have hf := runT_fits E most n b l _ k st' h
  have h3 := hf.out
  have h4 := hf.sp
  simp only [List.length_nil] at h3 h4
  omega
end Go.Proofs.YtmjdjpelhhibgaaGreatDoor.Val
