/- What is written of a value is read as it: plain. -/
import Derived.Test.YtmjdjpelhhibgaaGreatDoorVAttr
namespace Go.Proofs.YtmjdjpelhhibgaaGreatDoor.Val
open Go Go.Proofs.YtmjdjpelhhibgaaGreatDoor.Rf Go.Proofs.YtmjdjpelhhibgaaGreatDoor.Spec
set_option linter.unusedVariables false
set_option linter.unusedSimpArgs false
theorem cutA_59 (t : List UInt8) : cutA (59 :: t) = [] ∧ cutB (59 :: t) = t ∧ cutIs (59 :: t) = true := by
  unfold cutA cutB cutIs
  rw [cut_semi0]
  exact ⟨rfl, rfl, rfl⟩
theorem cutA_c (c : UInt8) (t : List UInt8) (h : c ≠ 59) : cutA (c :: t) = c :: cutA t ∧ cutB (c :: t) = cutB t ∧ cutIs (c :: t) = cutIs t := by
  have e := cut_semi1 c t h
  unfold cutA cutB cutIs
  rw [e]
  exact ⟨rfl, rfl, rfl⟩
/-- A name of letters, cut at the sign behind it. -/
theorem cut_word : ∀ (a t : List UInt8), (a.all fun c => c != 59) = true → cutA (a ++ 59 :: t) = a ∧ cutB (a ++ 59 :: t) = t ∧ cutIs (a ++ 59 :: t) = true
  | [], t, _ => cutA_59 t
  | c :: a, t, h => by
    rw [List.all_cons, Bool.and_eq_true] at h
    obtain ⟨h1, h2, h3⟩ := cut_word a t h.2
    have hc : c ≠ 59 := by simpa using h.1
    obtain ⟨k1, k2, k3⟩ := cutA_c c (a ++ 59 :: t) hc
    rw [List.cons_append, k1, k2, k3, h1, h2, h3]
    exact ⟨rfl, rfl, rfl⟩
/-- A reference to a character: read as it. -/
theorem runT_char (E : List Ent) (most : Int) (n : Nat) (inner : Bool) (a t : List UInt8) (st : St) (R : Int × St) (ha : (a.all fun c => c != 59) = true) (r : Int) (hr : charRefV (crS ((38 :: a) ++ [59])) = (r, true)) (h : runT E most n inner t ⟨st.out ++ Lib.encodeRune r, st.op, st.sp⟩ = some R) :
    runT E most (n + 1) inner (38 :: a ++ 59 :: t) st = some R := by
  obtain ⟨h1, h2, h3⟩ := cut_word (38 :: a) t (by simpa using ha)
  rw [List.cons_append] at h1 h2 h3 ⊢
  have hv : refV (38 :: (a ++ 59 :: t)) = (r, true) := by unfold refV; rw [h1]; exact hr
  have hs : spaceB (((38 : UInt8).toNat : Nat) : Int) = false := by decide
  have h38 : (38 : UInt8).toNat = 38 := rfl
  rw [runT]
  simp only [hs, Bool.false_eq_true, if_false, h38, show ¬ ((38 : Nat) = 60 ∧ inner = true) by omega, h3, Bool.true_eq_false, hv, if_true, h2]
  exact h
/-- A reference to one of the five. -/
theorem runT_five (E : List Ent) (most : Int) (n : Nat) (inner : Bool) (a t : List UInt8) (st : St) (R : Int × St) (ha : (a.all fun c => c != 59) = true) (hr : (charRefV (crS ((38 :: a) ++ [59]))).2 = false) (b : ByteArray) (hf : fiveR (crS a) = (b, true)) (h : runT E most n inner t ⟨st.out ++ b.data.toList, st.op, st.sp⟩ = some R) :
    runT E most (n + 1) inner (38 :: a ++ 59 :: t) st = some R := by
  obtain ⟨h1, h2, h3⟩ := cut_word (38 :: a) t (by simpa using ha)
  rw [List.cons_append] at h1 h2 h3 ⊢
  have hv : (refV (38 :: (a ++ 59 :: t))).2 = false := by unfold refV; rw [h1]; exact hr
  have hnm : refNm (38 :: (a ++ 59 :: t)) = crS a := by unfold refNm; rw [h1]; rfl
  have hs : spaceB (((38 : UInt8).toNat : Nat) : Int) = false := by decide
  have h38 : (38 : UInt8).toNat = 38 := rfl
  have he : entOf (runT E most n) E most (crS a) st = some (0, ⟨st.out ++ b.data.toList, st.op, st.sp⟩) := by unfold entOf; rw [hf, if_pos rfl]
  rw [runT]
  simp only [hs, Bool.false_eq_true, if_false, h38, show ¬ ((38 : Nat) = 60 ∧ inner = true) by omega, h3, Bool.true_eq_false, hv, if_true, h2, hnm, he]
  exact h
theorem look_attr (c : UInt8) : (∃ v, Rep.look c Rep.attrM = some v) ↔ (c = 38 ∨ c = 60 ∨ c = 34 ∨ c = 9 ∨ c = 10 ∨ c = 13) := by
  unfold Rep.attrM
  simp only [Rep.look_cons]
  constructor
  · intro ⟨v, h⟩
    by_cases h1 : c = 38; · exact .inl h1
    by_cases h2 : c = 60; · exact .inr (.inl h2)
    by_cases h3 : c = 34; · exact .inr (.inr (.inl h3))
    by_cases h4 : c = 9; · exact .inr (.inr (.inr (.inl h4)))
    by_cases h5 : c = 10; · exact .inr (.inr (.inr (.inr (.inl h5))))
    by_cases h6 : c = 13; · exact .inr (.inr (.inr (.inr (.inr h6))))
    exfalso
    rw [if_neg (fun e => h1 e.symm), if_neg (fun e => h2 e.symm), if_neg (fun e => h3 e.symm), if_neg (fun e => h4 e.symm), if_neg (fun e => h5 e.symm), if_neg (fun e => h6 e.symm)] at h
    cases h
  · rintro (rfl | rfl | rfl | rfl | rfl | rfl)
    all_goals exact ⟨_, rfl⟩
theorem back_one (E : List Ent) (most : Int) (n : Nat) (c : UInt8) (t : List UInt8) (st : St) (R : Int × St) (h : runT E most n false t ⟨st.out ++ [c], st.op, st.sp⟩ = some R) : runT E most (n + 1) false (Rep.one Rep.attrM c ++ t) st = some R := by
  by_cases hl : c = 38 ∨ c = 60 ∨ c = 34 ∨ c = 9 ∨ c = 10 ∨ c = 13
  · rcases hl with rfl | rfl | rfl | rfl | rfl | rfl
    · exact runT_five E most n false [97, 109, 112] t st R (by decide) (by decide +kernel) ⟨#[38]⟩ (by decide +kernel) h
    · exact runT_five E most n false [108, 116] t st R (by decide) (by decide +kernel) ⟨#[60]⟩ (by decide +kernel) h
    · exact runT_five E most n false [113, 117, 111, 116] t st R (by decide) (by decide +kernel) ⟨#[34]⟩ (by decide +kernel) h
    · exact runT_char E most n false [35, 57] t st R (by decide) 9 (by decide +kernel) h
    · exact runT_char E most n false [35, 49, 48] t st R (by decide) 10 (by decide +kernel) h
    · exact runT_char E most n false [35, 49, 51] t st R (by decide) 13 (by decide +kernel) h
  · have hn : Rep.look c Rep.attrM = none := by
      cases hq : Rep.look c Rep.attrM with
      | none => rfl
      | some v => exact absurd ((look_attr c).1 ⟨v, hq⟩) hl
    have ho : Rep.one Rep.attrM c = [c] := by unfold Rep.one; rw [hn]
    rw [ho, List.singleton_append, runT]
    by_cases hs : spaceB (c.toNat : Int) = true
    · have hc : c = 32 := by
        unfold spaceB at hs
        rw [decide_eq_true_eq] at hs
        have h9 : c.toNat ≠ 9 := fun e => hl (.inr (.inr (.inr (.inl (UInt8.toNat_inj.1 e)))))
        have h10 : c.toNat ≠ 10 := fun e => hl (.inr (.inr (.inr (.inr (.inl (UInt8.toNat_inj.1 e))))))
        have h13 : c.toNat ≠ 13 := fun e => hl (.inr (.inr (.inr (.inr (.inr (UInt8.toNat_inj.1 e))))))
        exact UInt8.toNat_inj.1 (by show c.toNat = 32; omega)
      subst hc
      simp only [hs, if_true]
      exact h
    · have h38 : ¬ c.toNat = 38 := fun e => hl (.inl (UInt8.toNat_inj.1 e))
      simp only [hs, if_false, Bool.false_eq_true, and_false, h38]
      exact h
theorem back_all (E : List Ent) (most : Int) : ∀ (l : List UInt8) (st : St), runT E most (l.length + 1) false (Rep.repl Rep.attrM l) st = some (0, ⟨st.out ++ l, st.op, st.sp⟩)
  | [], st => by simp [Rep.repl, runT]
  | c :: l, st => by
    have ih := back_all E most l ⟨st.out ++ [c], st.op, st.sp⟩
    have e : Rep.repl Rep.attrM (c :: l) = Rep.one Rep.attrM c ++ Rep.repl Rep.attrM l := by unfold Rep.repl; rw [List.flatMap_cons]
    rw [e, List.length_cons]
    refine back_one E most (l.length + 1) c _ st _ ?_
    rw [ih]
    simp
def signC (c : UInt8) : Bool := c == 60 || (c == 34 || (c == 9 || (c == 10 || c == 13)))
theorem back_sign (l : List UInt8) : ∀ c ∈ Rep.repl Rep.attrM l, signC c = false := by
  intro c hc
  unfold Rep.repl at hc
  obtain ⟨d, _, hd⟩ := List.mem_flatMap.1 hc
  by_cases hl : d = 38 ∨ d = 60 ∨ d = 34 ∨ d = 9 ∨ d = 10 ∨ d = 13
  · rcases hl with rfl | rfl | rfl | rfl | rfl | rfl
    all_goals (clear hc; revert hd; revert c; decide +kernel)
  · have hn : Rep.look d Rep.attrM = none := by
      cases hq : Rep.look d Rep.attrM with
      | none => rfl
      | some v => exact absurd ((look_attr d).1 ⟨v, hq⟩) hl
    unfold Rep.one at hd
    rw [hn] at hd
    obtain rfl := List.mem_singleton.1 hd
    unfold signC
    simp only [Bool.or_eq_false_iff, beq_eq_false_iff_ne]
    exact ⟨fun e => hl (.inr (.inl e)), fun e => hl (.inr (.inr (.inl e))), fun e => hl (.inr (.inr (.inr (.inl e)))), fun e => hl (.inr (.inr (.inr (.inr (.inl e))))), fun e => hl (.inr (.inr (.inr (.inr (.inr e)))))⟩
end Go.Proofs.YtmjdjpelhhibgaaGreatDoor.Val
