/- What Norm leaves: plain. -/
import Derived.Test.YtmjdjpelhhibgaaGreatDoorVNorm
namespace Go.Proofs.YtmjdjpelhhibgaaGreatDoor.Val
open Go
set_option linter.unusedVariables false
set_option linter.unusedSimpArgs false
def no32L (l : List UInt8) : Bool := l.all fun c => c != 32
theorem fl_ok : ∀ (l cur : List UInt8), no32L cur = true → ∀ x ∈ fl cur l, x ≠ [] ∧ no32L x = true
  | [], cur, h, x, hx => by
    unfold fl at hx
    split at hx
    · cases hx
    · rename_i hc
      obtain rfl := List.mem_singleton.1 hx
      exact ⟨hc, h⟩
  | c :: t, cur, h, x, hx => by
    unfold fl at hx
    split at hx
    · split at hx
      · exact fl_ok t [] rfl x hx
      · rename_i hc
        rcases List.mem_cons.1 hx with rfl | hx
        · exact ⟨hc, h⟩
        · exact fl_ok t [] rfl x hx
    · rename_i hc
      refine fl_ok t (cur ++ [c]) ?_ x hx
      unfold no32L at *
      rw [List.all_append, h]
      simpa using hc
theorem fl_flat : ∀ (l cur : List UInt8), (fl cur l).flatten = cur ++ l.filter (fun c => c != 32)
  | [], cur => by
    unfold fl
    split
    · rename_i h; simp [h]
    · simp
  | c :: t, cur => by
    unfold fl
    split
    · rename_i hc
      subst hc
      split
      · rename_i h; rw [fl_flat t [], h]; simp
      · rw [List.flatten_cons, fl_flat t []]; simp
    · rename_i hc
      have hb : (c != 32) = true := by simpa using hc
      rw [fl_flat t (cur ++ [c]), List.filter_cons, if_pos hb]
      simp
theorem fl_word : ∀ (x t cur : List UInt8), no32L x = true → fl cur (x ++ t) = fl (cur ++ x) t := fun x t cur h => fl_plain x cur t (fun c hc => by
  have := List.all_eq_true.1 h c hc
  simpa using this)
theorem join_two (x y : List UInt8) (r : List (List UInt8)) : Lib.join (x :: y :: r) [32] = x ++ 32 :: Lib.join (y :: r) [32] := by
  rw [Lib.join_cons, Lib.join_cons]
  unfold Lib.joinTail
  simp
theorem fl_join : ∀ (xs : List (List UInt8)), (∀ x ∈ xs, x ≠ [] ∧ no32L x = true) → fl [] (Lib.join xs [32]) = xs
  | [], _ => rfl
  | [x], h => by
    have hx := h x (by simp)
    rw [Lib.join_one]
    have := fl_word x [] [] hx.2
    rw [List.append_nil, List.nil_append] at this
    rw [this, fl, if_neg hx.1]
  | x :: y :: r, h => by
    have hx := h x (by simp)
    rw [join_two, fl_word x _ [] hx.2, List.nil_append, fl, if_pos rfl, if_neg hx.1, fl_join (y :: r) (fun z hz => h z (by simp [List.mem_cons.1 hz]))]
theorem normB_again (l : List UInt8) : normB (normB l) = normB l := by
  unfold normB
  rw [fl_join _ (fl_ok l [] rfl)]
theorem filt_word (x : List UInt8) (h : no32L x = true) : x.filter (fun c => c != 32) = x := List.filter_eq_self.2 fun c hc => List.all_eq_true.1 h c hc
theorem filt_join : ∀ (xs : List (List UInt8)), (∀ x ∈ xs, x ≠ [] ∧ no32L x = true) → (Lib.join xs [32]).filter (fun c => c != 32) = xs.flatten
  | [], _ => rfl
  | [x], h => by rw [Lib.join_one, filt_word x (h x (by simp)).2]; simp
  | x :: y :: r, h => by
    rw [join_two, List.filter_append, filt_word x (h x (by simp)).2, List.filter_cons, if_neg (by decide), filt_join (y :: r) (fun z hz => h z (by simp [List.mem_cons.1 hz]))]
    simp
theorem normB_filt (l : List UInt8) : (normB l).filter (fun c => c != 32) = l.filter (fun c => c != 32) := by
  unfold normB
  rw [filt_join _ (fl_ok l [] rfl), fl_flat]
  simp
theorem join_ne : ∀ (y : List UInt8) (r : List (List UInt8)), y ≠ [] → Lib.join (y :: r) [32] ≠ []
  | y, r, h => by
    rw [Lib.join_cons]
    intro e
    exact h (List.append_eq_nil_iff.1 e).1
theorem join_blank : ∀ (xs : List (List UInt8)), (∀ x ∈ xs, x ≠ [] ∧ no32L x = true) → ∀ (i : Nat), (Lib.join xs [32])[i]? = some 32 → 0 < i ∧ i + 1 < (Lib.join xs [32]).length ∧ (Lib.join xs [32])[i - 1]? ≠ some 32 := by
  have hw : ∀ (x : List UInt8), no32L x = true → ∀ (i : Nat), x[i]? ≠ some 32 := by
    intro x h i hi
    have := List.all_eq_true.1 h 32 (List.mem_of_getElem? hi)
    exact absurd this (by decide)
  intro xs
  induction xs with
  | nil => intro _ i hi; simp [Lib.join_nil] at hi
  | cons x r ih =>
    intro h i hi
    have hx := h x (by simp)
    cases r with
    | nil =>
      rw [Lib.join_one] at hi
      exact absurd hi (hw x hx.2 i)
    | cons y r =>
      have ih' := ih (fun z hz => h z (by simp [List.mem_cons.1 hz]))
      have hne := join_ne y r (h y (by simp)).1
      rw [join_two] at hi ⊢
      have hxl : 0 < x.length := List.length_pos_iff.2 hx.1
      have hjl : 0 < (Lib.join (y :: r) [32]).length := List.length_pos_iff.2 hne
      rcases Nat.lt_trichotomy i x.length with hl | rfl | hg
      · rw [List.getElem?_append_left hl] at hi
        exact absurd hi (hw x hx.2 i)
      · refine ⟨hxl, by simp; omega, ?_⟩
        rw [List.getElem?_append_left (by omega)]
        exact hw x hx.2 _
      · rw [List.getElem?_append_right (by omega)] at hi
        obtain ⟨j, hj⟩ : ∃ j, i - x.length = j + 1 := ⟨i - x.length - 1, by omega⟩
        rw [hj, List.getElem?_cons_succ] at hi
        obtain ⟨h1, h2, h3⟩ := ih' j hi
        refine ⟨by omega, by simp; omega, ?_⟩
        rw [List.getElem?_append_right (by omega), show i - 1 - x.length = (j - 1) + 1 by omega, List.getElem?_cons_succ]
        exact h3
theorem normB_blank (l : List UInt8) (i : Nat) (h : (normB l)[i]? = some 32) : 0 < i ∧ i + 1 < (normB l).length ∧ (normB l)[i - 1]? ≠ some 32 := join_blank _ (fl_ok l [] rfl) i h
end Go.Proofs.YtmjdjpelhhibgaaGreatDoor.Val
