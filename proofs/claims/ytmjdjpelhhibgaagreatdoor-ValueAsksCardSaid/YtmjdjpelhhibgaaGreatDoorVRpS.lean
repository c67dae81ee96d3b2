/- What a replacer of single bytes makes of a text: plain, over bytes. -/
import Derived.Test.YtmjdjpelhhibgaaGreatDoorVBuild
namespace Go.Proofs.YtmjdjpelhhibgaaGreatDoor.Rep
open Go Go.RowKit Go.Proofs.YtmjdjpelhhibgaaGreatDoor.Rf Go.Proofs.YtmjdjpelhhibgaaGreatDoor.Once
set_option linter.unusedVariables false
set_option linter.unusedSimpArgs false
def one (M : List (UInt8 × ByteArray)) (c : UInt8) : List UInt8 := match look c M with
  | some v => v.data.toList
  | none => [c]
def repl (M : List (UInt8 × ByteArray)) (l : List UInt8) : List UInt8 := l.flatMap (one M)
def isIn (M : List (UInt8 × ByteArray)) (c : UInt8) : Bool := (look c M).isSome
theorem repl_none (M : List (UInt8 × ByteArray)) : ∀ (l : List UInt8), l.any (isIn M) = false → repl M l = l
  | [], _ => rfl
  | c :: l, h => by
    simp only [List.any_cons, Bool.or_eq_false_iff] at h
    have ih := repl_none M l h.2
    have h1 := h.1
    unfold isIn at h1
    cases hl : look c M with
    | some v => rw [hl] at h1; cases h1
    | none =>
      unfold repl one at ih ⊢
      rw [List.flatMap_cons, ih, hl]
      rfl
theorem repl_app (M : List (UInt8 × ByteArray)) (a b : List UInt8) : repl M (a ++ b) = repl M a ++ repl M b := by unfold repl; rw [List.flatMap_append]
theorem repl_snoc (M : List (UInt8 × ByteArray)) (a : List UInt8) (c : UInt8) : repl M (a ++ [c]) = repl M a ++ one M c := by rw [repl_app]; simp [repl]
/-- How much longer one byte gets. -/
def more (M : List (UInt8 × ByteArray)) (c : UInt8) : Int := match look c M with
  | some v => (v.size : Int) - 1
  | none => 0
def moreAll (M : List (UInt8 × ByteArray)) : List UInt8 → Int
  | [] => 0
  | c :: l => more M c + moreAll M l
theorem moreAll_snoc (M : List (UInt8 × ByteArray)) (c : UInt8) : ∀ (l : List UInt8), moreAll M (l ++ [c]) = moreAll M l + more M c
  | [] => by simp [moreAll]
  | d :: l => by simp [moreAll, moreAll_snoc M c l]; omega
theorem one_length (M : List (UInt8 × ByteArray)) (c : UInt8) : ((one M c).length : Int) = 1 + more M c := by
  unfold one more
  cases look c M with
  | none => rfl
  | some v =>
    have : v.data.toList.length = v.size := rfl
    simp only
    omega
theorem repl_length (M : List (UInt8 × ByteArray)) : ∀ (l : List UInt8), ((repl M l).length : Int) = l.length + moreAll M l
  | [] => rfl
  | c :: l => by
    have ih := repl_length M l
    have h1 := one_length M c
    unfold repl at ih ⊢
    rw [List.flatMap_cons, List.length_append]
    simp only [moreAll, List.length_cons]
    omega
/-- .. by each of the bytes that are replaced, so often as it stands there. -/
def moreBy (l : List UInt8) : List (UInt8 × ByteArray) → Int
  | [] => 0
  | p :: M => (Lib.countByte l p.1 : Int) * ((p.2.size : Int) - 1) + moreBy l M
theorem countByte_cons (c d : UInt8) (l : List UInt8) : Lib.countByte (d :: l) c = Lib.countByte l c + if d = c then 1 else 0 := by
  unfold Lib.countByte
  rw [List.count_cons]
  congr 1
  by_cases h : d = c <;> simp [h]
theorem moreBy_cons (c : UInt8) (l : List UInt8) : ∀ (M : List (UInt8 × ByteArray)), (M.map (·.1)).Nodup → moreBy (c :: l) M = more M c + moreBy l M
  | [], _ => rfl
  | p :: M, h => by
    rw [List.map_cons, List.nodup_cons] at h
    have ih := moreBy_cons c l M h.2
    unfold moreBy
    rw [ih, countByte_cons]
    unfold more
    rw [show p = (p.1, p.2) from rfl, look_cons]
    by_cases hc : p.1 = c
    · have hn : look c M = none := by
        unfold look
        rw [Option.map_eq_none_iff, List.find?_eq_none]
        intro q hq he
        have : q.1 = c := by simpa using he
        exact h.1 (List.mem_map.2 ⟨q, hq, by rw [this, hc]⟩)
      rw [if_pos hc, hn, if_pos hc.symm]
      simp only
      rw [Int.natCast_add, Int.add_mul]
      simp
      omega
    · rw [if_neg hc, if_neg (fun e => hc e.symm)]
      simp
      omega
theorem moreBy_all (M : List (UInt8 × ByteArray)) (h : (M.map (·.1)).Nodup) : ∀ (l : List UInt8), moreBy l M = moreAll M l
  | [] => by
    have : ∀ (M : List (UInt8 × ByteArray)), moreBy [] M = 0 := by
      intro M
      induction M with
      | nil => rfl
      | cons p M ih => unfold moreBy; rw [ih]; simp [Lib.countByte]
    exact this M
  | c :: l => by rw [moreBy_cons c l M h, moreBy_all M h l]; rfl
def anyBy (l : List UInt8) (M : List (UInt8 × ByteArray)) : Bool := M.any fun p => decide (Lib.countByte l p.1 ≠ 0)
theorem anyBy_all (M : List (UInt8 × ByteArray)) : ∀ (l : List UInt8), anyBy l M = l.any (isIn M)
  | [] => by
    unfold anyBy
    induction M with
    | nil => rfl
    | cons p M ih => simp [Lib.countByte] at ih ⊢
  | c :: l => by
    have ih := anyBy_all M l
    rw [List.any_cons, ← ih]
    unfold anyBy isIn
    clear ih
    induction M with
    | nil => rfl
    | cons p M ih =>
      rw [List.any_cons, List.any_cons, ih, show p = (p.1, p.2) from rfl, look_cons, countByte_cons]
      by_cases hc : p.1 = c
      · rw [if_pos hc, if_pos hc.symm]
        simp
      · rw [if_neg hc, if_neg (fun e => hc e.symm)]
        simp only [Nat.add_zero]
        cases (look c M).isSome <;> cases decide (Lib.countByte l p.1 ≠ 0) <;> simp
theorem moreBy_app (l : List UInt8) : ∀ (a b : List (UInt8 × ByteArray)), moreBy l (a ++ b) = moreBy l a + moreBy l b
  | [], b => by simp [moreBy]
  | p :: a, b => by rw [List.cons_append, moreBy, moreBy, moreBy_app l a b]; omega
theorem moreBy_rev (l : List UInt8) : ∀ (M : List (UInt8 × ByteArray)), moreBy l M.reverse = moreBy l M
  | [] => rfl
  | p :: M => by rw [List.reverse_cons, moreBy_app, moreBy_rev l M, moreBy, moreBy, moreBy]; omega
theorem anyBy_rev (l : List UInt8) (M : List (UInt8 × ByteArray)) : anyBy l M.reverse = anyBy l M := by unfold anyBy; rw [List.any_reverse]
theorem cnt_bd (l : List UInt8) (c : UInt8) : Lib.countByte l c ≤ l.length := by unfold Lib.countByte; exact List.count_le_length
theorem mul_bd (a b x y : Nat) (ha : a ≤ x) (hb : b ≤ y) : (a : Int) * (b : Int) ≤ ((x * y : Nat) : Int) := by
  have := Nat.mul_le_mul ha hb
  rw [← Int.natCast_mul]
  omega
theorem moreBy_bd (l : List UInt8) : ∀ (L : List (UInt8 × ByteArray)), (∀ p ∈ L, 2 ≤ p.2.size ∧ p.2.size ≤ 100) → 0 ≤ moreBy l L ∧ moreBy l L ≤ ((l.length * 100 * L.length : Nat) : Int)
  | [], _ => by simp [moreBy]
  | p :: L, h => by
    obtain ⟨h1, h2⟩ := moreBy_bd l L (fun q hq => h q (by simp [hq]))
    obtain ⟨h3, h4⟩ := h p (by simp)
    have h5 := mul_bd (Lib.countByte l p.1) (p.2.size - 1) l.length 100 (cnt_bd l p.1) (by omega)
    have h6 : ((p.2.size - 1 : Nat) : Int) = (p.2.size : Int) - 1 := by omega
    rw [h6] at h5
    have h7 : 0 ≤ (Lib.countByte l p.1 : Int) * ((p.2.size : Int) - 1) := Int.mul_nonneg (by omega) (by omega)
    unfold moreBy
    rw [List.length_cons, Nat.mul_add, Nat.mul_one]
    omega
theorem moreAll_bd (M : List (UInt8 × ByteArray)) (h : ∀ p ∈ M, 2 ≤ p.2.size ∧ p.2.size ≤ 100) : ∀ (l : List UInt8), 0 ≤ moreAll M l ∧ moreAll M l ≤ 100 * (l.length : Int)
  | [] => by simp [moreAll]
  | c :: l => by
    obtain ⟨h1, h2⟩ := moreAll_bd M h l
    have h3 : 0 ≤ more M c ∧ more M c ≤ 100 := by
      unfold more look
      cases hf : M.find? fun p => p.1 == c with
      | none => simp
      | some p =>
        have := h p (List.mem_of_find?_eq_some hf)
        simp
        omega
    simp only [moreAll, List.length_cons]
    omega
end Go.Proofs.YtmjdjpelhhibgaaGreatDoor.Rep
