/- The pure statement of the law on characters put side by side: TextRunes. -/
import Derived.Test.YtiddhaakbcnbiaaDoorR7x1
import Derived.Test.YtiddhaakbcnbiaaDoorTPureG
namespace Go.Proofs.YtiddhaakbcnbiaaDoor.TPure
open Go.RowKit Go.Proofs.YtiddhaakbcnbiaaDoorW.PrintWords Go.Proofs.YtiddhaakbcnbiaaDoorW.PrintLast Go.Proofs.YtiddhaakbcnbiaaDoor.Spec Go.Proofs.YtiddhaakbcnbiaaDoor.Giv Go.Proofs.YtiddhaakbcnbiaaDoor.Ref Go.Proofs.YtiddhaakbcnbiaaDoor.Txt Go.Proofs.YtiddhaakbcnbiaaDoor.TGiv
set_option linter.unusedVariables false

/-- The character that a number is written as. -/
theorem enc_bad (r : Int) (h : Utf8.valid r = false) : Utf8.encode r = Utf8.encode 65533 := by
  have h2 : Utf8.valid 65533 = true := by decide
  unfold Utf8.encode
  rw [h, h2]
  rfl
def oneB (r : Int) : Bool := if Utf8.valid r then charB r else true
theorem enc_chars (r : Int) : charsB (Utf8.encode r) = oneB r ∧ validB (Utf8.encode r) = true := by
  unfold oneB
  cases h : Utf8.valid r with
  | true =>
    refine ⟨?_, enc_validB r h⟩
    unfold charsB
    rw [enc_all _ r h, enc_ok r h, (enc_dec r h).1, Bool.true_and]
    have h0 : 0 ≤ r := by
      unfold Utf8.valid at h
      simp only [Bool.or_eq_true, Bool.and_eq_true, decide_eq_true_eq] at h
      omega
    show charB ((r.toNat : Nat) : Int) = charB r
    rw [Int.toNat_of_nonneg h0]
  | false =>
    rw [enc_bad r h]
    have h2 : Utf8.valid 65533 = true := by decide
    refine ⟨?_, enc_validB _ h2⟩
    have : charsB (Utf8.encode 65533) = true := by decide +kernel
    simpa using this
theorem bytes_nums (s : ByteArray) : bytesOf s = numsOf s.data.toList := rfl
theorem rchar_f (a : Int) : Ref.brackenref1_Char.f a = some (charB a) := rfl
theorem runes_loop (l : List Int) (hl : l.length ≤ 40) : ∀ (d i k : Nat) (s : ByteArray) (ok : Bool), l.length - i = d → i ≤ l.length → d < k → s.size ≤ 4 * i → validB s = true → charsB s = ok →
    R7.brackenlaw2_TextRunes.l0 k l s ok (i : Int) = some true := by
  intro d
  induction d with
  | zero =>
    intro i k s ok hd hi hk hs hv hc
    obtain ⟨k, rfl⟩ : ∃ m, k = m + 1 := ⟨k - 1, by omega⟩
    have ht : brackenlaw2_told.f = some true := rfl
    rw [R7.brackenlaw2_TextRunes.l0, if_neg (by omega), ht, Option.bind_some, if_pos rfl, bytes_nums, valid_f _ (by rw [list_size]; omega), Option.bind_some, str_of_list, hc]
    simp
  | succ d ih =>
    intro i k s ok hd hi hk hs hv hc
    obtain ⟨k, rfl⟩ : ∃ m, k = m + 1 := ⟨k - 1, by omega⟩
    have hlt : i < l.length := by omega
    have e : wrap64 ((i : Int) + 1) = ((i + 1 : Nat) : Int) := by rw [wrap64_small] <;> omega
    obtain ⟨r, hr⟩ : ∃ r, rd l (i : Int) = r := ⟨_, rfl⟩
    have hz := enc_size r
    obtain ⟨h1, h2⟩ := enc_chars r
    have hv2 : validB (s ++ Utf8.encode r) = true := by rw [validB_two s _ hv]; exact h2
    have hc2 : charsB (s ++ Utf8.encode r) = (ok && oneB r) := by rw [charsB_two s _ hv, hc, h1]
    have next := fun ok' (h : charsB (s ++ Utf8.encode r) = ok') => ih (i + 1) k (s ++ Utf8.encode r) ok' (by omega) (by omega) (by omega) (by rw [app_size]; omega) hv2 h
    rw [R7.brackenlaw2_TextRunes.l0, if_pos (by omega), if_pos (by omega), hr, e, if_pos (by omega)]
    cases ok with
    | false =>
      rw [if_neg (by simp)]
      exact next false (by rw [hc2]; rfl)
    | true =>
      rw [if_pos rfl, rchar_f, Option.bind_some]
      rw [Bool.true_and] at hc2
      cases hcb : charB r with
      | true =>
        rw [if_pos rfl]
        refine next true ?_
        rw [hc2]
        unfold oneB
        rw [hcb]
        simp
      | false =>
        rw [if_neg (by simp)]
        by_cases c1 : r < 0
        · rw [if_pos c1]
          refine next true ?_
          rw [hc2]
          unfold oneB
          rw [show Utf8.valid r = false by unfold Utf8.valid; simp; omega]
          rfl
        · rw [if_neg c1]
          by_cases c2 : r > 1114111
          · rw [if_pos c2]
            refine next true ?_
            rw [hc2]
            unfold oneB
            rw [show Utf8.valid r = false by unfold Utf8.valid; simp; omega]
            rfl
          · rw [if_neg c2]
            by_cases c3 : r ≥ 55296
            · rw [if_pos c3]
              refine next _ ?_
              rw [hc2]
              unfold oneB
              by_cases c4 : r ≤ 57343
              · rw [show Utf8.valid r = false by unfold Utf8.valid; simp; omega]
                simp [c4]
              · rw [show Utf8.valid r = true by unfold Utf8.valid; simp; omega, hcb]
                simp [c4]
            · rw [if_neg c3]
              refine next false ?_
              rw [hc2]
              unfold oneB
              rw [show Utf8.valid r = true by unfold Utf8.valid; simp; omega, hcb]
              rfl
theorem runes_pure : R7.brackenlaw2_TextRunes.Pure := by
  intro l0 _ _ _
  refine ⟨60, ?_⟩
  unfold R7.brackenlaw2_TextRunes.f
  by_cases hL : (l0.length : Int) > 40
  · rw [if_pos hL]; rfl
  · rw [if_neg hL]
    exact runes_loop l0 (by omega) l0.length 0 60 ⟨#[]⟩ true (by omega) (by omega) (by omega) (Nat.le_refl _) (by decide +kernel) (by decide +kernel)

end Go.Proofs.YtiddhaakbcnbiaaDoor.TPure
