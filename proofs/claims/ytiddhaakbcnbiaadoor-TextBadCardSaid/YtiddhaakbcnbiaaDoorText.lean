/- Bytes that are characters; ends of lines: plain functions over lists of bytes. No program here. -/
import Derived.Test.YtiddhaakbcnbiaaDoorEnc
import Derived.Lib.Replace
import Derived.Lib.CountLaws
namespace Go.Proofs.YtiddhaakbcnbiaaDoor.Txt
open Go Go.Lib Go.Proofs.YtiddhaakbcnbiaaDoor.Spec
set_option linter.unusedVariables false

/-- Characters that may be, and nothing else. -/
def charsB (s : ByteArray) : Bool := goAll (fun i => okAt s i && charB (Utf8.decode s i).1) s s.size 0
theorem charsB_walk (s : ByteArray) : charsB s = (runesAll (fun _ r => charB r) s s.size 0 && Lib.validD s.data.toList) := by
  rw [validD_go, runesAll_go, goAll_and]
  unfold charsB
  congr 1
  funext i
  rw [Bool.and_comm]
theorem charsB_two (a t : ByteArray) (hv : validB a = true) : charsB (a ++ t) = (charsB a && charsB t) := go_two (fun d => charB d.1) a t hv
theorem valid_of_chars {s : ByteArray} (h : charsB s = true) : validB s = true := goAll_imp s (fun i _ h => by simp only [Bool.and_eq_true] at h; exact h.1) _ _ h

/-! ### all instances replaced, from the left -/
def repl (old new : List UInt8) : Nat → List UInt8 → List UInt8
  | 0, s => s
  | _ + 1, [] => []
  | k + 1, b :: l => if old.isPrefixOf (b :: l) then new ++ repl old new k ((b :: l).drop old.length) else b :: repl old new k l
theorem repl_more (old new : List UInt8) (ho : 1 ≤ old.length) : ∀ (k j : Nat) (s : List UInt8), s.length ≤ k → s.length ≤ j → repl old new k s = repl old new j s := by
  intro k
  induction k with
  | zero =>
    intro j s h1 h2
    obtain rfl : s = [] := List.eq_nil_of_length_eq_zero (by omega)
    cases j <;> rfl
  | succ k ih =>
    intro j s h1 h2
    cases s with
    | nil => cases j <;> rfl
    | cons b l =>
      obtain ⟨j, rfl⟩ : ∃ i, j = i + 1 := ⟨j - 1, by simp at h2; omega⟩
      simp only [repl]
      split
      · rw [ih j _ (by rw [List.length_drop]; omega) (by rw [List.length_drop]; omega)]
      · rw [ih j l (by simp at h1; omega) (by simp at h2; omega)]
theorem repl_miss (old new : List UInt8) : ∀ (k : Nat) (s : List UInt8), index s old = -1 → s.length ≤ k → repl old new k s = s := by
  intro k
  induction k with
  | zero => intro s _ _; rfl
  | succ k ih =>
    intro s h hk
    cases s with
    | nil => rfl
    | cons b l =>
      rw [index] at h
      split at h
      · cases h
      · rename_i hp
        split at h
        · rename_i hi
          simp only [repl]
          rw [if_neg hp, ih l (by simpa using hi) (by simp at hk; omega)]
        · have := index_ge l old
          rename_i hi
          simp at hi
          omega
theorem repl_hit (old new : List UInt8) (ho : 1 ≤ old.length) : ∀ (i k : Nat) (s : List UInt8), index s old = (i : Int) → s.length ≤ k → repl old new k s = s.take i ++ new ++ repl old new k (s.drop (i + old.length)) := by
  intro i
  induction i with
  | zero =>
    intro k s h hk
    cases s with
    | nil =>
      rw [index] at h
      split at h
      · rename_i he
        simp at he
        simp [he] at ho
      · cases h
    | cons b l =>
      obtain ⟨k, rfl⟩ : ∃ j, k = j + 1 := ⟨k - 1, by simp at hk; omega⟩
      rw [index] at h
      split at h
      · rename_i hp
        simp only [repl]
        rw [if_pos hp]
        simp only [List.take_zero, List.nil_append, Nat.zero_add]
        rw [repl_more old new ho k (k + 1) _ (by rw [List.length_drop]; omega) (by rw [List.length_drop]; omega)]
      · split at h
        · cases h
        · have := index_ge l old
          rename_i hi
          simp at hi
          omega
  | succ i ih =>
    intro k s h hk
    cases s with
    | nil =>
      rw [index] at h
      split at h <;> omega
    | cons b l =>
      obtain ⟨k, rfl⟩ : ∃ j, k = j + 1 := ⟨k - 1, by simp at hk; omega⟩
      rw [index] at h
      split at h
      · omega
      · rename_i hp
        split at h
        · omega
        · have e := ih k l (by omega) (by simp at hk; omega)
          conv => lhs; simp only [repl]
          rw [if_neg hp, e, repl_more old new ho k (k + 1) _ (by rw [List.length_drop]; simp at hk; omega) (by rw [List.length_drop]; simp at hk; omega)]
          simp [Nat.add_right_comm]
theorem replaceK_repl (old new : List UInt8) (ho : 1 ≤ old.length) : ∀ (n : Nat) (s : List UInt8), s.length ≤ n → ∀ c, count s old = c → replaceK old new c s = repl old new s.length s := by
  intro n
  induction n with
  | zero =>
    intro s hn c hc
    obtain rfl : s = [] := List.eq_nil_of_length_eq_zero (by omega)
    have : index [] old = -1 := by
      rw [index, if_neg]
      cases old <;> simp at ho ⊢
    have := count_miss this
    rw [← hc, this]
    rfl
  | succ n ih =>
    intro s hn c hc
    by_cases hm : index s old = -1
    · rw [← hc, count_miss hm, repl_miss old new _ s hm (Nat.le_refl _)]
      rfl
    · have hge := index_ge s old
      obtain ⟨i, hi⟩ : ∃ i : Nat, index s old = i := ⟨(index s old).toNat, by omega⟩
      have hc2 := count_hit (by intro e; rw [e] at ho; simp at ho) hi
      obtain ⟨c', rfl⟩ : ∃ c', c = c' + 1 := ⟨c - 1, by omega⟩
      rw [replaceK_hit old new c' s i hi, repl_hit old new ho i _ s hi (Nat.le_refl _)]
      have hne : s ≠ [] := fun h => by
        subst h
        rw [index] at hi
        split at hi
        · rename_i he
          simp at he
          simp [he] at ho
        · omega
      have hpos : 0 < s.length := List.length_pos_iff.2 hne
      rw [ih (s.drop (i + old.length)) (by rw [List.length_drop]; omega) c' (by omega)]
      rw [repl_more old new ho (s.drop (i + old.length)).length s.length _ (Nat.le_refl _) (by rw [List.length_drop]; omega)]
theorem replaceAll_repl (old new s : List UInt8) (ho : 1 ≤ old.length) (hne : old ≠ new) : replaceAll s old new = repl old new s.length s := by
  unfold replaceAll replace
  rw [if_neg (by simpa using hne)]
  unfold replaceNum
  rw [if_pos (Or.inl (by decide))]
  exact replaceK_repl old new ho s.length s (Nat.le_refl _) _ rfl

/-! ### ends of lines -/
def endsL : List UInt8 → List UInt8
  | [] => []
  | b :: l => if b = 13 then (if l.head? = some 10 then endsL l else 10 :: endsL l) else b :: endsL l
theorem repl_one (x y : UInt8) : ∀ (k : Nat) (s : List UInt8), s.length ≤ k → repl [x] [y] k s = s.map fun b => if b = x then y else b := by
  intro k
  induction k with
  | zero =>
    intro s h
    obtain rfl : s = [] := List.eq_nil_of_length_eq_zero (by omega)
    rfl
  | succ k ih =>
    intro s h
    cases s with
    | nil => rfl
    | cons b l =>
      simp only [repl, List.isPrefixOf]
      by_cases hb : b = x
      · subst hb
        simp [ih l (by simpa using h)]
      · have : (x == b) = false := by simpa using fun e => hb e.symm
        simp [this, hb, ih l (by simpa using h)]
theorem repl_two : ∀ (n k : Nat) (s : List UInt8), s.length ≤ n → s.length ≤ k → (repl [13, 10] [10] k s).map (fun b => if b = 13 then 10 else b) = endsL s := by
  intro n
  induction n with
  | zero =>
    intro k s h hk
    obtain rfl : s = [] := List.eq_nil_of_length_eq_zero (by omega)
    cases k <;> rfl
  | succ n ih =>
    intro k s h hk
    cases s with
    | nil => cases k <;> rfl
    | cons b l =>
      obtain ⟨k, rfl⟩ : ∃ j, k = j + 1 := ⟨k - 1, by simp at hk; omega⟩
      simp only [List.length_cons, Nat.add_le_add_iff_right] at h hk
      by_cases hb : b = 13
      · subst hb
        cases l with
        | nil => cases k <;> rfl
        | cons c l =>
          simp only [List.length_cons] at h hk
          by_cases hc : c = 10
          · subst hc
            simp only [repl, List.isPrefixOf]
            simp [endsL, ih k l (by omega) (by omega)]
          · have h2 : ((10 : UInt8) == c) = false := by simpa using fun e => hc e.symm
            have e := ih k (c :: l) (by simp; omega) (by simp; omega)
            conv => lhs; simp only [repl, List.isPrefixOf]
            simp only [beq_self_eq_true, h2, Bool.true_and, Bool.false_and, Bool.false_eq_true, if_false]
            rw [List.map_cons, e]
            conv => rhs; rw [endsL]
            simp [hc]
      · have h1 : ((13 : UInt8) == b) = false := by simpa using fun e => hb e.symm
        conv => lhs; simp only [repl, List.isPrefixOf]
        simp only [h1, Bool.false_and, Bool.false_eq_true, if_false]
        rw [List.map_cons, ih k l h hk, endsL]
        simp [hb]
theorem ends_two (s : List UInt8) : replaceAll (replaceAll s [13, 10] [10]) [13] [10] = endsL s := by
  rw [replaceAll_repl _ _ _ (by decide) (by decide), replaceAll_repl _ _ _ (by decide) (by decide), repl_one _ _ _ _ (Nat.le_refl _), repl_two _ _ _ (Nat.le_refl _) (Nat.le_refl _)]
theorem endsL_length : ∀ s : List UInt8, (endsL s).length ≤ s.length
  | [] => Nat.le_refl _
  | b :: l => by
    have := endsL_length l
    rw [endsL]
    split
    · split <;> simp <;> omega
    · simp; omega
theorem crlf_length : ∀ (k : Nat) (s : List UInt8), (repl [13, 10] [10] k s).length ≤ s.length := by
  intro k
  induction k with
  | zero => intro s; exact Nat.le_refl _
  | succ k ih =>
    intro s
    cases s with
    | nil => exact Nat.le_refl _
    | cons b l =>
      simp only [repl]
      split
      · have := ih ((b :: l).drop 2)
        rename_i hp
        have h2 : 2 ≤ (b :: l).length := List.IsPrefix.length_le (List.isPrefixOf_iff_prefix.1 hp)
        rw [List.length_drop] at this
        rw [List.length_append, show ([13, 10] : List UInt8).length = 2 from rfl, show ([10] : List UInt8).length = 1 from rfl]
        omega
      · simp
        exact ih l
/-- A text with its ends of lines made one. -/
def endsB (s : ByteArray) : ByteArray := ⟨(endsL s.data.toList).toArray⟩
theorem endsB_list (s : ByteArray) : (endsB s).data.toList = endsL s.data.toList := rfl
/-- What is read: the text, the code. -/
def bom : List UInt8 := [239, 187, 191]
def readB (s : List UInt8) : ByteArray × Int :=
  let t := if bom.isPrefixOf s then s.drop 3 else s
  if charsB ⟨t.toArray⟩ then (endsB ⟨t.toArray⟩, 0) else (⟨#[]⟩, 2)

end Go.Proofs.YtiddhaakbcnbiaaDoor.Txt
