/- NCName and Split of the program are the plain ones; their contracts without numbers of rounds. -/
import Derived.Test.YtmjdjpelhhibgaaDoorR2x1
import Derived.Test.YtmjdjpelhhibgaaDoorDA2
import Derived.Lib.IndexBytes
namespace Go.Proofs.YtmjdjpelhhibgaaDoor.DNames
open Go.RowKit Go.Proofs.YtmjdjpelhhibgaaDoor.DA Go.Proofs.YtmjdjpelhhibgaaDoor.DS Go.Proofs.YtmjdjpelhhibgaaDoorW.PrintWords Go.Proofs.YtmjdjpelhhibgaaDoorW.PrintLast Go.Proofs.YtmjdjpelhhibgaaDoor.Spec Go.Proofs.YtmjdjpelhhibgaaDoor.Giv
set_option linter.unusedVariables false
set_option linter.unusedSimpArgs false

theorem xsize (s : ByteArray) (a b : Nat) (h : b ≤ s.size) : (s.extract a b).size = b - a := by
  simp; omega
theorem indexByte_find : ∀ (l : List UInt8) (c : UInt8), Lib.indexByte l c = match l.findIdx? (· == c) with | some j => (j : Int) | none => -1
  | [], c => rfl
  | b :: l, c => by
    simp only [Lib.indexByte, List.findIdx?_cons]
    rw [indexByte_find l c]
    cases hb : (b == c) with
    | true => simp
    | false =>
      simp only [Bool.false_eq_true, if_false]
      cases l.findIdx? (· == c) with
      | none => simp
      | some j =>
        simp only [Option.map_some]
        have : ((j : Int) == -1) = false := by rw [beq_eq_false_iff_ne]; omega
        rw [this]
        simp
theorem find_contains : ∀ (l : List UInt8) (c : UInt8), l.contains c = (l.findIdx? (· == c)).isSome
  | [], c => rfl
  | b :: l, c => by
    rw [List.contains_cons, List.findIdx?_cons, find_contains l c]
    have : (c == b) = (b == c) := by rw [Bool.eq_iff_iff, beq_iff_eq, beq_iff_eq]; exact eq_comm
    rw [this]
    cases (b == c) <;> simp
theorem contains_one (l : List UInt8) (c : UInt8) : Lib.contains l [c] = l.contains c := by
  unfold Lib.contains
  rw [Lib.index_one, indexByte_find, find_contains]
  cases l.findIdx? (· == c) with
  | none => rfl
  | some j => simp
theorem cut_one (l : List UInt8) (c : UInt8) : Lib.cut l [c] = match l.findIdx? (· == c) with | some j => (l.take j, l.drop (j + 1), true) | none => (l, [], false) := by
  unfold Lib.cut
  rw [Lib.index_one, indexByte_find]
  cases l.findIdx? (· == c) with
  | none => rfl
  | some j => simp
theorem str_self (s : ByteArray) : str s.data.toList = s := by
  cases s
  simp [str]
theorem str_take (s : ByteArray) (j : Nat) (h : j ≤ s.size) : str (s.data.toList.take j) = s.extract 0 j := by
  unfold str
  apply ByteArray.ext
  apply Array.ext'
  simp [ByteArray.data_extract]
theorem str_drop (s : ByteArray) (j : Nat) : str (s.data.toList.drop j) = s.extract j s.size := by
  unfold str
  apply ByteArray.ext
  apply Array.ext'
  rw [ByteArray.data_extract, Array.toList_extract, List.extract_eq_take_drop]
  rw [List.take_of_length_le]
  rw [List.length_drop]
  exact Nat.le_refl _
theorem find_lt {l : List UInt8} {p : UInt8 → Bool} {j : Nat} (h : l.findIdx? p = some j) : j < l.length := by
  rw [List.findIdx?_eq_some_iff_findIdx_eq] at h
  exact h.1

theorem NCName_f (s : ByteArray) (hs : s.size < 4294967281) : R2.runes_NCName.f s = some (ncB s) := by
  unfold R2.runes_NCName.f runes_Name.f strings_Contains.f ncB
  rw [if_pos hs, if_pos hs, Option.bind_some]
  rw [show (⟨#[58]⟩ : ByteArray).data.toList = [58] from rfl, contains_one]
  cases nameB s <;> simp
theorem Split_f (s : ByteArray) (hs : s.size < 4294967281) (k : Nat) : R2.runes_Split.f (k + 1) s = some (splitB s) := by
  unfold R2.runes_Split.f strings_Cut.f splitB colon
  rw [if_pos hs, Option.bind_some]
  rw [show (⟨#[58]⟩ : ByteArray).data.toList = [58] from rfl, cut_one]
  cases hf : s.data.toList.findIdx? (· == 58) with
  | none =>
    simp only [Bool.false_eq_true, if_false]
    rw [R2.runes_Split.j0, NCName_f s hs, Option.bind_some]
    cases ncB s <;> simp
  | some j =>
    have hj : j < s.size := find_lt hf
    simp only [if_true]
    rw [str_take s j (by omega), str_drop]
    rw [R2.runes_Split.j0, NCName_f _ (by rw [xsize _ _ _ (by omega)]; omega), Option.bind_some, NCName_f _ (by rw [xsize _ _ _ (by omega)]; omega), Option.bind_some]
    cases ncB (s.extract 0 j) <;> cases ncB (s.extract (j + 1) s.size) <;> simp

def runes_NCName.f (a0 : ByteArray) : Option Bool := if a0.size < 4294967281 then some (ncB a0) else none
theorem runes_NCName.calls (a0 : ByteArray) (r : Bool) (w : World) (hE : Env w) (h : runes_NCName.f a0 = some r) :
    Calls Tryd.prog 48 #[.string a0] w fun e w' => e = .returned (.bool r) ∧ Below w.heap.size w w' := by
  unfold runes_NCName.f at h
  by_cases hs : a0.size < 4294967281
  · rw [if_pos hs] at h; exact R2.runes_NCName.calls a0 r w hE ((NCName_f a0 hs).trans h)
  · rw [if_neg hs] at h; cases h
def runes_Split.f (a0 : ByteArray) : Option (ByteArray × ByteArray × Bool) := if a0.size < 4294967281 then some (splitB a0) else none
theorem runes_Split.calls (a0 : ByteArray) (r1 r2 : ByteArray) (r3 : Bool) (w : World) (hE : Env w) (h : runes_Split.f a0 = some (r1, r2, r3)) :
    Calls Tryd.prog 70 #[.string a0] w fun e w' => e = .returned (.tuple #[.string r1, .string r2, .bool r3]) ∧ Below w.heap.size w w' := by
  unfold runes_Split.f at h
  by_cases hs : a0.size < 4294967281
  · rw [if_pos hs] at h; exact R2.runes_Split.calls 1 a0 r1 r2 r3 w hE ((Split_f a0 hs 0).trans h)
  · rw [if_neg hs] at h; cases h

theorem nc_tells : Tells 48 ncL := fun t W hE ht => runes_NCName.calls t (ncB t) W hE (by unfold runes_NCName.f; rw [if_pos ht])
theorem split_tells : Tells 37 splitL := by
  intro t W hE ht
  have H := runes_Split.calls t (splitB t).1 (splitB t).2.1 (splitB t).2.2 W hE (by unfold runes_Split.f; rw [if_pos ht])
  have e : splitL t.data.toList = (splitB t).2.2 := rfl
  rw [e]
  generalize (splitB t).1 = r1 at H
  generalize (splitB t).2.1 = r2 at H
  generalize (splitB t).2.2 = r3 at H
  clear hE e
  go_enter Tryd.func37, Tryd.ntmps37
  go_wp2_with fail
  refine H.mono ?_
  clear H
  rintro e w1 ⟨rfl, hb⟩
  go_wp2_with fail
  go_ret
  exact ⟨rfl, hb⟩
end Go.Proofs.YtmjdjpelhhibgaaDoor.DNames
