/- The pure statement of the law on split names: two names with a colon between are a name, and split into these. -/
import Derived.Test.YtiddhaakbcnbiaaDoorR2x2
import Derived.Test.YtiddhaakbcnbiaaDoorPureA
import Derived.Test.YtiddhaakbcnbiaaDoorSpec3
namespace Go.Proofs.YtiddhaakbcnbiaaDoor.Pure
open Go.RowKit Go.Proofs.YtiddhaakbcnbiaaDoorW.PrintWords Go.Proofs.YtiddhaakbcnbiaaDoorW.PrintLast Go.Proofs.YtiddhaakbcnbiaaDoor.Spec Go.Proofs.YtiddhaakbcnbiaaDoor.Giv Go.Proofs.YtiddhaakbcnbiaaDoor.Ref Go.Proofs.YtiddhaakbcnbiaaDoor.Names Go.Proofs.YtiddhaakbcnbiaaDoor.R2
set_option linter.unusedVariables false

theorem find_none_of {l : List UInt8} (h : l.contains 58 = false) : l.findIdx? (· == 58) = none := by
  rw [find_contains] at h
  cases hf : l.findIdx? (· == 58) with
  | none => rfl
  | some j => rw [hf] at h; cases h
def col : ByteArray := ⟨#[58]⟩
theorem list3 (a b : ByteArray) : ((a ++ col) ++ b).data.toList = a.data.toList ++ (58 :: b.data.toList) := by
  rw [app_list, app_list, List.append_assoc]
  rfl
theorem size3 (a b : ByteArray) : ((a ++ col) ++ b).size = a.size + 1 + b.size := by
  rw [app_size, app_size]; rfl
theorem left3 (a b : ByteArray) : ((a ++ col) ++ b).extract 0 a.size = a := by
  rw [← str_take _ _ (by rw [size3]; omega), list3, List.take_left' (show a.data.toList.length = a.size from rfl), str_self]
theorem right3 (a b : ByteArray) : ((a ++ col) ++ b).extract (a.size + 1) ((a ++ col) ++ b).size = b := by
  rw [← str_drop, list3]
  have : (a.data.toList ++ (58 :: b.data.toList)).drop (a.size + 1) = b.data.toList := by
    rw [← List.drop_drop, List.drop_left' (show a.data.toList.length = a.size from rfl)]
    rfl
  rw [this, str_self]
theorem nc_none {a : ByteArray} (h : ncB a = true) : a.data.toList.contains 58 = false := by
  unfold ncB at h
  rw [Bool.and_eq_true] at h
  simpa using h.2
theorem nc_has {a : ByteArray} (h : a.data.toList.contains 58 = true) : ncB a = false := by
  unfold ncB
  rw [h]; simp
theorem colon3 (a b : ByteArray) : colon ((a ++ col) ++ b) = some ((a.data.toList.findIdx? (· == 58)).getD a.size) := by
  unfold colon
  rw [list3, List.findIdx?_append]
  cases a.data.toList.findIdx? (· == 58) with
  | none =>
    rw [List.findIdx?_cons]
    simp
  | some j => rfl
theorem split3_nc (a b : ByteArray) (h : ncB a = true) : splitB ((a ++ col) ++ b) = if ncB b then (a, b, true) else (⟨#[]⟩, ⟨#[]⟩, false) := by
  unfold splitB
  rw [colon3, find_none_of (nc_none h)]
  simp only [Option.getD_none]
  rw [left3, right3, h, Bool.true_and]
theorem split3_no (a b : ByteArray) (h : ncB a = false) : splitB ((a ++ col) ++ b) = (⟨#[]⟩, ⟨#[]⟩, false) := by
  unfold splitB
  rw [colon3]
  cases hf : a.data.toList.findIdx? (· == 58) with
  | none =>
    simp only [Option.getD_none]
    rw [left3, h, Bool.false_and]
    rfl
  | some j =>
    simp only [Option.getD_some]
    have hj : j < a.size := find_lt hf
    have : ncB (((a ++ col) ++ b).extract (j + 1) ((a ++ col) ++ b).size) = false := by
      refine nc_has ?_
      rw [← str_drop, list3]
      have e : (a.data.toList ++ 58 :: b.data.toList).drop (j + 1) = a.data.toList.drop (j + 1) ++ 58 :: b.data.toList := by
        rw [List.drop_append]
        have : j + 1 - a.data.toList.length = 0 := by have : a.data.toList.length = a.size := rfl; omega
        rw [this, List.drop_zero]
      rw [e]
      unfold str
      simp
    rw [this, Bool.and_false]
    rfl
theorem split_self (a : ByteArray) (h : ncB a = true) : splitB a = (⟨#[]⟩, a, true) := by
  unfold splitB colon
  rw [find_none_of (nc_none h)]
  simp [h]

def splitsB (a : ByteArray) : Bool := match colon a with | some j => ncB (a.extract 0 j) && ncB (a.extract (j + 1) a.size) | none => false
theorem splits_loop (s : ByteArray) (hs : s.size < 4294967281) : ∀ (d i k : Nat), s.size - i = d → i ≤ s.size → d < k →
    brackenlaw1_splits.l0 k s (i : Int) = some (match (s.data.toList.drop i).findIdx? (· == 58) with
      | some j => ncB (s.extract 0 (i + j)) && ncB (s.extract (i + j + 1) s.size)
      | none => false) := by
  intro d
  induction d with
  | zero =>
    intro i k h1 h2 hk
    obtain ⟨k, rfl⟩ : ∃ m, k = m + 1 := ⟨k - 1, by omega⟩
    rw [brackenlaw1_splits.l0, if_neg (by omega), List.drop_eq_nil_of_le (show s.size ≤ i by omega)]
    rfl
  | succ d ih =>
    intro i k h1 h2 hk
    obtain ⟨k, rfl⟩ : ∃ m, k = m + 1 := ⟨k - 1, by omega⟩
    have hi : i < s.size := by omega
    have hl : i < s.data.toList.length := hi
    have e : wrap64 ((i : Int) + 1) = ((i + 1 : Nat) : Int) := by rw [wrap64_small] <;> omega
    rw [brackenlaw1_splits.l0, if_pos (by omega), if_pos (by omega), bt_B s i hi, List.drop_eq_getElem_cons hl, List.findIdx?_cons]
    by_cases c : (B s i : Int) = 58
    · have h1 : (s.data.toList[i] == (58 : UInt8)) = true := by rw [(B_58 s i hi).1 c]; rfl
      rw [if_pos c, h1]
      simp only [if_true, Nat.add_zero]
      unfold runes_NCName.f
      rw [if_pos (show (i : Int) ≤ (s.size : Int) by omega), Int.toNat_natCast, if_pos (by rw [ext_size _ _ _ (by omega)]; omega), Option.bind_some, e]
      cases hP : ncB (s.extract 0 i) with
      | false => simp
      | true =>
        simp only [if_true, Bool.true_and]
        rw [if_pos (show (0 : Int) ≤ ((i + 1 : Nat) : Int) by omega), if_pos (show ((i + 1 : Nat) : Int) ≤ (s.size : Int) by omega), Int.toNat_natCast, if_pos (by rw [ext_size _ _ _ (by omega)]; omega), Option.bind_some]
    · rw [if_neg c, e, ih (i + 1) k (by omega) (by omega) (by omega)]
      have h1 : (s.data.toList[i] == (58 : UInt8)) = false := by
        rw [beq_eq_false_iff_ne]
        exact fun h => c ((B_58 s i hi).2 h)
      rw [h1]
      simp only [Bool.false_eq_true, if_false]
      cases hf : (s.data.toList.drop (i + 1)).findIdx? (· == 58) with
      | none => rfl
      | some j => simp only [Option.map_some]; rw [show i + 1 + j = i + (j + 1) by omega]
theorem splits_f (s : ByteArray) (hs : s.size < 4294967281) (k : Nat) (hk : s.size < k) : brackenlaw1_splits.f k s = some (splitsB s) := by
  unfold brackenlaw1_splits.f splitsB colon
  have := splits_loop s hs s.size 0 k (by omega) (by omega) (by omega)
  rw [List.drop_zero] at this
  rw [show brackenlaw1_splits.l0 k s 0 = _ from this]
  cases s.data.toList.findIdx? (· == 58) with
  | none => rfl
  | some j => simp only [Nat.zero_add]
theorem split_ok (s : ByteArray) (h : ncB s = false) : (splitB s).2.2 = splitsB s := by
  unfold splitB splitsB
  cases colon s with
  | none => simp [h]
  | some j => simp only []; split <;> simp_all
theorem col_part : partsB col = true := by decide +kernel
theorem name3 (a b : ByteArray) (ha : ncB a = true) (hb : ncB b = true) : nameB ((a ++ col) ++ b) = true := by
  have na : nameB a = true := by unfold ncB at ha; rw [Bool.and_eq_true] at ha; exact ha.1
  have nb : nameB b = true := by unfold ncB at hb; rw [Bool.and_eq_true] at hb; exact hb.1
  exact name_then _ _ (name_then _ _ na col_part) (parts_of_name nb)

theorem RunesSplits : brackenlaw1_RunesSplits.Pure := by
  intro a b wa wb
  refine ⟨a.size + 10, ?_⟩
  unfold brackenlaw1_RunesSplits.f
  by_cases h : (a.size : Int) > 50
  · rw [if_pos h, brackenlaw1_RunesSplits.j0, if_pos rfl, told_true]; rfl
  rw [if_neg h]
  by_cases h2 : (b.size : Int) > 50
  · rw [brackenlaw1_RunesSplits.j0, if_pos (decide_eq_true h2), told_true]; rfl
  rw [brackenlaw1_RunesSplits.j0, if_neg (by rw [decide_eq_true_eq]; exact h2)]
  rw [show (⟨#[58]⟩ : ByteArray) = col from rfl]
  have hA : a.size < 4294967281 := by omega
  have hB : b.size < 4294967281 := by omega
  have hS : ((a ++ col) ++ b).size < 4294967281 := by rw [size3]; omega
  have n1 : runes_NCName.f a = some (ncB a) := by unfold runes_NCName.f; rw [if_pos hA]
  have n2 : runes_NCName.f b = some (ncB b) := by unfold runes_NCName.f; rw [if_pos hB]
  have s1 : runes_Split.f ((a ++ col) ++ b) = some (splitB ((a ++ col) ++ b)) := by unfold runes_Split.f; rw [if_pos hS]
  have s2 : runes_Split.f a = some (splitB a) := by unfold runes_Split.f; rw [if_pos hA]
  have m1 : runes_Name.f ((a ++ col) ++ b) = some (nameB ((a ++ col) ++ b)) := by unfold runes_Name.f; rw [if_pos hS]
  rw [n1, n2, s1, s2, m1, told_true]
  simp only [Option.bind_some, if_true]
  rw [if_pos (by omega), if_pos (by omega)]
  rw [splits_f a hA _ (by omega)]
  cases hx : ncB a with
  | true =>
    rw [split3_nc a b hx, split_self a hx]
    cases hy : ncB b with
    | true => simp [name3 a b hx hy, ByteArray.toList_eq]
    | false => simp [ByteArray.toList_eq]
  | false =>
    rw [split3_no a b hx]
    simp [split_ok a hx]

end Go.Proofs.YtiddhaakbcnbiaaDoor.Pure
