/- DeclLiterals: the law over the plain functions. -/
import Derived.Test.YtmjdjpelhhibgaaDoorQTold
import Derived.Test.YtmjdjpelhhibgaaDoorR3x6
namespace Go.Proofs.YtmjdjpelhhibgaaDoor.DP
open Go Go.RowKit Go.Proofs.YtmjdjpelhhibgaaDoor.Giv Go.Proofs.YtmjdjpelhhibgaaDoor.Spec Go.Proofs.YtmjdjpelhhibgaaDoor.DS Go.Proofs.YtmjdjpelhhibgaaDoor.R3 Go.Proofs.YtmjdjpelhhibgaaDoor.TP Go.Proofs.YtmjdjpelhhibgaaDoorW.PrintWords Go.Proofs.YtmjdjpelhhibgaaDoorW.PrintLast
set_option linter.unusedVariables false
set_option linter.unusedSimpArgs false
theorem lit_q (q : UInt8) (hq : q = 39 ∨ q = 34) (l : List UInt8) : lit (q :: l) = (l.findIdx? (· == q)).map fun j => l.take j := by
  have h : (q == 34 || q == 39) = true := by rcases hq with rfl | rfl <;> rfl
  simp only [lit]
  rw [if_pos h, DNames.cut_one]
  cases l.findIdx? (· == q) <;> rfl
theorem lit_f (L : List UInt8) (a : Nat) (ha : a ≤ L.length) (hL : L.length < 1000) : decl_Literal.f (str L) (a : Int) =
    some (match lit (L.drop a) with | some t => (bs t, (a : Int) + (t.length : Int) + 2, true) | none => (bs [], (a : Int), false)) := by
  unfold decl_Literal.f
  rw [if_pos ⟨by omega, by rw [str_size]; omega, by rw [str_size]; omega⟩, Int.toNat_natCast, str_data]
  rfl
theorem lits_loop (S : List UInt8) (q : UInt8) (hq : q = 39 ∨ q = 34) (hS : S.length ≤ 60) : ∀ m, m ≤ S.length → ∀ k, m + 1 ≤ k →
    brackenlaw11_DeclLiterals.l0 k (str S) (str [q]) ((m + (S.drop m).findIdx (· == q) : Nat) : Int) ((m : Int) - 1) = some true
  | 0, _, 0, hk => by omega
  | 0, _, k + 1, hk => by
    have z1 : (str [q]).size = 1 := rfl
    have e0 : ((⟨#[120]⟩ : ByteArray) ++ str [q]) ++ str S = str (120 :: q :: S) := by
      rw [show (⟨#[120]⟩ : ByteArray) = str [120] from rfl, str_app, str_app]; rfl
    have e1 : (((⟨#[120]⟩ : ByteArray) ++ str [q]) ++ str S) ++ str [q] = str (120 :: q :: (S ++ [q])) := by
      rw [e0, str_app]; rfl
    have e2 : str (120 :: q :: S) ++ str [q] = str (120 :: q :: (S ++ [q])) := by rw [str_app]; rfl
    have f1 : decl_Literal.f (str (120 :: q :: (S ++ [q]))) 1 = _ := lit_f (120 :: q :: (S ++ [q])) 1 (by simp) (by simp; omega)
    have f2 : decl_Literal.f (str (120 :: q :: S)) 1 = _ := lit_f (120 :: q :: S) 1 (by simp) (by simp; omega)
    have f3 : decl_Literal.f (str (120 :: q :: S)) 0 = some (bs [], 0, false) := lit_f (120 :: q :: S) 0 (by simp) (by simp; omega)
    rw [List.drop_succ_cons, List.drop_zero, lit_q q hq] at f1 f2
    rw [brackenlaw11_DeclLiterals.l0, if_neg (by omega), e0, e2, z1, str_size, if_pos (by omega), if_pos (by omega), if_pos (by omega), f1, f2, f3]
    simp only [Option.bind_some, List.drop_zero, Nat.zero_add]
    rw [List.findIdx?_append]
    cases hf : S.findIdx? (· == q) with
    | none =>
      have hp := List.findIdx?_eq_none_iff_findIdx_eq.mp hf
      rw [hp]
      simp only [Option.none_or, List.findIdx?_cons, beq_self_eq_true, if_true, Option.map_some, Option.map_none, Nat.zero_add, List.take_left, told_true, Option.bind_some]
      rw [if_pos (by omega), if_pos (by omega), if_pos (by rw [Int.toNat_natCast, ByteArray.toList_eq, ByteArray.toList_eq, str_ext]; simp [bs, str]), if_pos (by rw [w64 _ (by omega) (by omega)]; omega)]
      simp [ByteArray.toList_eq, bs]
    | some j =>
      obtain ⟨hj, hp⟩ := List.findIdx?_eq_some_iff_findIdx_eq.mp hf
      rw [hp]
      simp only [Option.some_or, Option.map_some, told_true, Option.bind_some, List.take_append_of_le_length (Nat.le_of_lt hj), List.length_take]
      rw [if_pos (by omega), if_pos (by omega), if_pos (by rw [Int.toNat_natCast, ByteArray.toList_eq, ByteArray.toList_eq, str_ext]; simp [bs, str]), if_pos (by rw [w64 _ (by omega) (by omega)]; omega)]
      simp [ByteArray.toList_eq, bs, hj]
  | m + 1, _, 0, hk => by omega
  | m + 1, hm, k + 1, hk => by
    have hw : wrap64 ((m : Int) + 1) = ((m + 1 : Nat) : Int) := w64 _ (by omega) (by omega)
    have hi := lits_loop S q hq hS m (by omega) k (by omega)
    rw [brackenlaw11_DeclLiterals.l0, show ((m + 1 : Nat) : Int) - 1 = (m : Int) by omega, if_pos (by omega), if_pos (by omega), hw, if_pos (by omega), if_pos (by rw [str_size]; omega), Int.toNat_natCast, Int.toNat_natCast,
      show wrap64 ((m : Int) - 1) = (m : Int) - 1 by unfold wrap64; omega]
    have hx : ((str S).extract m (m + 1)).toList = [S[m]] := by
      rw [ByteArray.toList_eq, str_ext, str_data, List.drop_eq_getElem_cons (by omega), show m + 1 - m = 1 by omega]; rfl
    rw [hx, str_toList]
    rw [List.drop_eq_getElem_cons (i := m) (by omega), List.findIdx_cons] at hi
    by_cases h : S[m] = q
    · rw [if_pos (by rw [h])]
      rw [h] at hi
      simpa using hi
    · rw [if_neg (by simpa using h)]
      have : (S[m] == q) = false := by rw [beq_eq_false_iff_ne]; exact h
      rw [this] at hi
      simp only [cond_false] at hi
      rw [show m + 1 + (S.drop (m + 1)).findIdx (· == q) = m + ((S.drop (m + 1)).findIdx (· == q) + 1) by omega]
      exact hi
theorem literals_pure : brackenlaw11_DeclLiterals.Pure := by
  intro s single hs
  refine ⟨s.size + 3, ?_⟩
  unfold brackenlaw11_DeclLiterals.f
  by_cases h : (s.size : Int) > 60
  · rw [if_pos h, told_true]; rfl
  · rw [if_neg h]
    have hz : s.size = s.data.toList.length := rfl
    have key : ∀ q : UInt8, q = 39 ∨ q = 34 → brackenlaw11_DeclLiterals.j0 (s.size + 3) s (str [q]) = some true := by
      intro q hq
      have := lits_loop s.data.toList q hq (by omega) s.data.toList.length (Nat.le_refl _) (s.size + 2) (by omega)
      rw [List.drop_length] at this
      rw [brackenlaw11_DeclLiterals.j0, show wrap64 ((s.size : Int) - 1) = (s.size : Int) - 1 by unfold wrap64; omega]
      exact this
    cases single with
    | true => exact key 39 (Or.inl rfl)
    | false => exact key 34 (Or.inr rfl)
end Go.Proofs.YtmjdjpelhhibgaaDoor.DP
