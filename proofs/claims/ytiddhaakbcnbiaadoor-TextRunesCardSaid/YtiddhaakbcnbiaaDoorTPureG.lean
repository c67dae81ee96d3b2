/- Lists of bytes as numbers; what the contracts of the package of texts answer at them. -/
import Derived.Test.YtiddhaakbcnbiaaDoorTTold
namespace Go.Proofs.YtiddhaakbcnbiaaDoor.TPure
open Go.RowKit Go.Proofs.YtiddhaakbcnbiaaDoorW.PrintWords Go.Proofs.YtiddhaakbcnbiaaDoorW.PrintLast Go.Proofs.YtiddhaakbcnbiaaDoor.Spec Go.Proofs.YtiddhaakbcnbiaaDoor.Giv Go.Proofs.YtiddhaakbcnbiaaDoor.Ref Go.Proofs.YtiddhaakbcnbiaaDoor.Txt Go.Proofs.YtiddhaakbcnbiaaDoor.TGiv
set_option linter.unusedVariables false

def str (l : List UInt8) : ByteArray := ⟨l.toArray⟩
theorem str_self (s : ByteArray) : str s.data.toList = s := by
  obtain ⟨⟨l⟩⟩ := s
  rfl
theorem byte_wf {x : Int} (h : (Lit.int .u8 x).wf = true) : 0 ≤ x ∧ x < 256 := by
  have h1 : IntKind.u8.min = 0 := rfl
  have h2 : IntKind.u8.max = 255 := rfl
  simp only [Lit.wf, Bool.and_eq_true, decide_eq_true_eq] at h
  omega
theorem ok_of_wf {l : List Int} (h : ∀ x ∈ l, (Lit.int .u8 x).wf = true) : bytesOk l = true := List.all_eq_true.2 fun x hx => decide_eq_true (byte_wf (h x hx))
theorem nums_back {l : List Int} (h : bytesOk l = true) : l = numsOf (strOfNums l).data.toList := by
  rw [strOfNums_data]
  unfold numsOf
  rw [List.map_map]
  conv => lhs; rw [← List.map_id l]
  apply List.map_congr_left
  intro x hx
  have := List.all_eq_true.1 h x hx
  simp only [decide_eq_true_eq] at this
  show x = ((UInt8.ofNat x.toNat).toNat : Int)
  rw [UInt8.toNat_ofNat']
  omega
theorem numsOf_length (L : List UInt8) : (numsOf L).length = L.length := by simp [numsOf]
theorem numsOf_ok (L : List UInt8) : bytesOk (numsOf L) = true := List.all_eq_true.2 fun x hx => by
  obtain ⟨b, _, rfl⟩ := List.mem_map.1 hx
  have := b.toNat_lt
  rw [decide_eq_true_eq]
  omega
theorem rd_nums (L : List UInt8) (i : Nat) (h : i < L.length) : rd (numsOf L) (i : Int) = (L[i].toNat : Int) := by
  unfold rd numsOf
  simp [List.getD_eq_getElem?_getD, h]
theorem str_list (L : List UInt8) : (strOfNums (numsOf L)).data.toList = L := by rw [str_nums]
theorem str_size (L : List UInt8) : (strOfNums (numsOf L)).size = L.length := by rw [str_nums]; rfl

theorem read_f (L : List UInt8) (h : L.length < 1000000000) : text_Read.f (numsOf L) = some (readB L) := by
  unfold text_Read.f
  rw [if_pos ⟨numsOf_ok L, by rw [numsOf_length]; exact h⟩, str_list]
theorem valid_f (L : List UInt8) (h : L.length < 1000000000) : text_Valid.f (numsOf L) = some (charsB ⟨L.toArray⟩) := by
  unfold text_Valid.f
  rw [if_pos ⟨numsOf_ok L, by rw [numsOf_length]; exact h⟩, str_nums]
theorem ends_f (s : ByteArray) (h : s.size < 1000000000) : text_Ends.f s = some (endsB s) := by unfold text_Ends.f; rw [if_pos h]
theorem rends_f (s : ByteArray) (h : s.size < 1000000000) : TGiv.brackenref1_Ends.f s = some (endsB s) := by unfold TGiv.brackenref1_Ends.f; rw [if_pos h]
theorem rvalid_f (s : ByteArray) (h : s.size < 1000000000) : TGiv.brackenref1_Valid.f s = some (charsB s) := by unfold TGiv.brackenref1_Valid.f; rw [if_pos (by omega)]
theorem lines_f (s : ByteArray) : text_Lines.f s = some (Lib.countByte s.data.toList 10 : Int) := rfl

theorem bom_test (L : List UInt8) (h : 3 ≤ L.length) : bom.isPrefixOf L = (decide (L[0] = 239) && (decide (L[1] = 187) && decide (L[2] = 191))) := by
  obtain ⟨a, b, c, l', rfl⟩ : ∃ a b c l', L = a :: b :: c :: l' := by
    match L, h with
    | a :: b :: c :: l', _ => exact ⟨a, b, c, l', rfl⟩
  show ((239 : UInt8) == a && ((187 : UInt8) == b && ((191 : UInt8) == c && true))) = (decide (a = 239) && (decide (b = 187) && decide (c = 191)))
  rw [Bool.eq_iff_iff]
  simp only [Bool.and_eq_true, beq_iff_eq, decide_eq_true_eq, and_true]
  exact ⟨fun ⟨a, b, c⟩ => ⟨a.symm, b.symm, c.symm⟩, fun ⟨a, b, c⟩ => ⟨a.symm, b.symm, c.symm⟩⟩
theorem bom_short (L : List UInt8) (h : ¬ 3 ≤ L.length) : bom.isPrefixOf L = false := by
  rw [Bool.eq_false_iff]
  intro hp
  exact h (List.IsPrefix.length_le (List.isPrefixOf_iff_prefix.1 hp))
theorem bt_L (L : List UInt8) (i : Nat) (h : i < L.length) : bt ⟨L.toArray⟩ (i : Int) = (L[i].toNat : Int) := by
  have hs : i < (⟨L.toArray⟩ : ByteArray).size := h
  have := bt_at ⟨L.toArray⟩ (i : Int) (by simpa using hs)
  rw [← this]
  rfl
theorem u8_eq (a b : UInt8) : ((a.toNat : Int) = (b.toNat : Int)) ↔ a = b := ⟨fun h => UInt8.toNat_inj.1 (by omega), fun h => by rw [h]⟩
theorem ext_drop (L : List UInt8) (h : 3 ≤ L.length) : (⟨L.toArray⟩ : ByteArray).extract 3 (⟨L.toArray⟩ : ByteArray).size = ⟨(L.drop 3).toArray⟩ := by
  have e : ((⟨L.toArray⟩ : ByteArray).extract 3 (⟨L.toArray⟩ : ByteArray).size).data.toList = L.drop 3 := by rw [Lib.extract_to_end]
  rw [← str_self ((⟨L.toArray⟩ : ByteArray).extract 3 _)]
  unfold str
  rw [e]
theorem getD_at (L : List UInt8) (j : Nat) (h : j < L.length) : L.getD j 0 = L[j] := by simp [List.getD_eq_getElem?_getD, h]

end Go.Proofs.YtiddhaakbcnbiaaDoor.TPure
