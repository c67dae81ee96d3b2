/- The pure statement of the law on bytes that are no characters: TextBad. -/
import Derived.Test.YtiddhaakbcnbiaaDoorTTold
import Derived.Test.YtiddhaakbcnbiaaDoorR8x1
namespace Go.Proofs.YtiddhaakbcnbiaaDoor.TPure
open Go.RowKit Go.Proofs.YtiddhaakbcnbiaaDoorW.PrintWords Go.Proofs.YtiddhaakbcnbiaaDoorW.PrintLast Go.Proofs.YtiddhaakbcnbiaaDoor.Spec Go.Proofs.YtiddhaakbcnbiaaDoor.Giv Go.Proofs.YtiddhaakbcnbiaaDoor.Ref Go.Proofs.YtiddhaakbcnbiaaDoor.Txt Go.Proofs.YtiddhaakbcnbiaaDoor.TGiv
set_option linter.unusedVariables false

def str (l : List UInt8) : ByteArray := ⟨l.toArray⟩
theorem str_self (s : ByteArray) : str s.data.toList = s := by
  obtain ⟨⟨l⟩⟩ := s
  rfl
theorem byte_wf {x : Int} (h : (Lit.int .u8 x).wf = true) : 0 ≤ x ∧ x < 256 := by
  have h1 : IntKind.u8.min = 0 := rfl
  have h2 : IntKind.u8.max = 255 := rfl
  simp only [Lit.wf, Bool.and_eq_true, decide_eq_true_eq] at h
  omega
theorem ok_of_wf {l : List Int} (h : ∀ x ∈ l, (Lit.int .u8 x).wf = true) : bytesOk l = true := List.all_eq_true.2 fun x hx => decide_eq_true (byte_wf (h x hx))
theorem nums_back {l : List Int} (h : bytesOk l = true) : l = numsOf (strOfNums l).data.toList := by
  rw [strOfNums_data]
  unfold numsOf
  rw [List.map_map]
  conv => lhs; rw [← List.map_id l]
  apply List.map_congr_left
  intro x hx
  have := List.all_eq_true.1 h x hx
  simp only [decide_eq_true_eq] at this
  show x = ((UInt8.ofNat x.toNat).toNat : Int)
  rw [UInt8.toNat_ofNat']
  omega
theorem numsOf_length (L : List UInt8) : (numsOf L).length = L.length := by simp [numsOf]
theorem numsOf_ok (L : List UInt8) : bytesOk (numsOf L) = true := List.all_eq_true.2 fun x hx => by
  obtain ⟨b, _, rfl⟩ := List.mem_map.1 hx
  have := b.toNat_lt
  rw [decide_eq_true_eq]
  omega
theorem rd_nums (L : List UInt8) (i : Nat) (h : i < L.length) : rd (numsOf L) (i : Int) = (L[i].toNat : Int) := by
  unfold rd numsOf
  simp [List.getD_eq_getElem?_getD, h]
theorem str_list (L : List UInt8) : (strOfNums (numsOf L)).data.toList = L := by rw [str_nums]
theorem str_size (L : List UInt8) : (strOfNums (numsOf L)).size = L.length := by rw [str_nums]; rfl

theorem read_f (L : List UInt8) (h : L.length < 1000000000) : text_Read.f (numsOf L) = some (readB L) := by
  unfold text_Read.f
  rw [if_pos ⟨numsOf_ok L, by rw [numsOf_length]; exact h⟩, str_list]
theorem valid_f (L : List UInt8) (h : L.length < 1000000000) : text_Valid.f (numsOf L) = some (charsB ⟨L.toArray⟩) := by
  unfold text_Valid.f
  rw [if_pos ⟨numsOf_ok L, by rw [numsOf_length]; exact h⟩, str_nums]
theorem ends_f (s : ByteArray) (h : s.size < 1000000000) : text_Ends.f s = some (endsB s) := by unfold text_Ends.f; rw [if_pos h]
theorem rends_f (s : ByteArray) (h : s.size < 1000000000) : TGiv.brackenref1_Ends.f s = some (endsB s) := by unfold TGiv.brackenref1_Ends.f; rw [if_pos h]
theorem rvalid_f (s : ByteArray) (h : s.size < 1000000000) : TGiv.brackenref1_Valid.f s = some (charsB s) := by unfold TGiv.brackenref1_Valid.f; rw [if_pos (by omega)]
theorem lines_f (s : ByteArray) : text_Lines.f s = some (Lib.countByte s.data.toList 10 : Int) := rfl

theorem bom_test (L : List UInt8) (h : 3 ≤ L.length) : bom.isPrefixOf L = (decide (L[0] = 239) && (decide (L[1] = 187) && decide (L[2] = 191))) := by
  obtain ⟨a, b, c, l', rfl⟩ : ∃ a b c l', L = a :: b :: c :: l' := by
    match L, h with
    | a :: b :: c :: l', _ => exact ⟨a, b, c, l', rfl⟩
  show ((239 : UInt8) == a && ((187 : UInt8) == b && ((191 : UInt8) == c && true))) = (decide (a = 239) && (decide (b = 187) && decide (c = 191)))
  rw [Bool.eq_iff_iff]
  simp only [Bool.and_eq_true, beq_iff_eq, decide_eq_true_eq, and_true]
  exact ⟨fun ⟨a, b, c⟩ => ⟨a.symm, b.symm, c.symm⟩, fun ⟨a, b, c⟩ => ⟨a.symm, b.symm, c.symm⟩⟩
theorem bom_short (L : List UInt8) (h : ¬ 3 ≤ L.length) : bom.isPrefixOf L = false := by
  rw [Bool.eq_false_iff]
  intro hp
  exact h (List.IsPrefix.length_le (List.isPrefixOf_iff_prefix.1 hp))
theorem bt_L (L : List UInt8) (i : Nat) (h : i < L.length) : bt ⟨L.toArray⟩ (i : Int) = (L[i].toNat : Int) := by
  have hs : i < (⟨L.toArray⟩ : ByteArray).size := h
  have := bt_at ⟨L.toArray⟩ (i : Int) (by simpa using hs)
  rw [← this]
  rfl
theorem u8_eq (a b : UInt8) : ((a.toNat : Int) = (b.toNat : Int)) ↔ a = b := ⟨fun h => UInt8.toNat_inj.1 (by omega), fun h => by rw [h]⟩
theorem ext_drop (L : List UInt8) (h : 3 ≤ L.length) : (⟨L.toArray⟩ : ByteArray).extract 3 (⟨L.toArray⟩ : ByteArray).size = ⟨(L.drop 3).toArray⟩ := by
  have e : ((⟨L.toArray⟩ : ByteArray).extract 3 (⟨L.toArray⟩ : ByteArray).size).data.toList = L.drop 3 := by rw [Lib.extract_to_end]
  rw [← str_self ((⟨L.toArray⟩ : ByteArray).extract 3 _)]
  unfold str
  rw [e]
theorem getD_at (L : List UInt8) (j : Nat) (h : j < L.length) : L.getD j 0 = L[j] := by simp [List.getD_eq_getElem?_getD, h]

end Go.Proofs.YtiddhaakbcnbiaaDoor.TPure
namespace Go.Proofs.YtiddhaakbcnbiaaDoor.TPure
open Go.RowKit Go.Proofs.YtiddhaakbcnbiaaDoorW.PrintWords Go.Proofs.YtiddhaakbcnbiaaDoorW.PrintLast Go.Proofs.YtiddhaakbcnbiaaDoor.Spec Go.Proofs.YtiddhaakbcnbiaaDoor.Giv Go.Proofs.YtiddhaakbcnbiaaDoor.Ref Go.Proofs.YtiddhaakbcnbiaaDoor.Txt Go.Proofs.YtiddhaakbcnbiaaDoor.TGiv
set_option linter.unusedVariables false

def badL : List (List Int) := [[128], [194], [192, 128], [193, 191], [224, 128, 128], [224, 159, 191], [237, 160, 128], [237, 191, 191], [239, 191, 190], [240, 143, 191, 191], [244, 144, 128, 128], [245, 128, 128, 128], [255], [0], [8], [31], [226, 130], [240, 159, 152]]
def goodL : List (List Int) := [[9], [127], [194, 128], [223, 191], [224, 160, 128], [237, 159, 191], [238, 128, 128], [239, 191, 189], [240, 144, 128, 128], [244, 143, 191, 191]]
def rowOk (v : Bool) (l : List Int) : Bool := bytesOk l && decide (l.length ≤ 4) && (charsB (strOfNums l) == v) && (charsB (strOfNums (l ++ [97])) == v)
theorem bad_rows : badL.all (rowOk false) = true := by decide +kernel
theorem good_rows : goodL.all (rowOk true) = true := by decide +kernel
theorem arr_app' (a b : List UInt8) : (⟨(a ++ b).toArray⟩ : ByteArray) = ⟨a.toArray⟩ ++ ⟨b.toArray⟩ := by
  rw [← str_self ((⟨a.toArray⟩ : ByteArray) ++ ⟨b.toArray⟩)]
  unfold str
  rw [app_list]
theorem str_app (a b : List Int) : strOfNums (a ++ b) = strOfNums a ++ strOfNums b := by
  unfold strOfNums
  rw [List.map_append]
  exact arr_app' _ _
theorem as_chars : ∀ m : Nat, charsB (strOfNums (List.replicate m 97)) = true
  | 0 => by decide +kernel
  | m + 1 => by
    have h : (List.replicate (m + 1) (97 : Int)) = [97] ++ List.replicate m 97 := rfl
    have hc : charsB (strOfNums [97]) = true := by decide +kernel
    rw [h, str_app, charsB_two _ _ (valid_of_chars hc), hc, as_chars m]
    rfl
theorem as_ok (m : Nat) : bytesOk (List.replicate m 97) = true := List.all_eq_true.2 fun x hx => by
  obtain rfl := (List.mem_replicate.1 hx).2
  decide
theorem ok_app {a b : List Int} (ha : bytesOk a = true) (hb : bytesOk b = true) : bytesOk (a ++ b) = true := by
  unfold bytesOk at *
  rw [List.all_append, ha, hb]
  rfl
theorem valid_g (l : List Int) (h : bytesOk l = true) (hl : l.length < 1000000000) : text_Valid.f l = some (charsB (strOfNums l)) := by
  unfold text_Valid.f
  rw [if_pos ⟨h, hl⟩]
theorem row_valid (v : Bool) (l : List Int) (h : rowOk v l = true) (m : Nat) (hm : m ≤ 100) :
    text_Valid.f (List.replicate m 97 ++ l) = some v ∧ text_Valid.f ((List.replicate m 97 ++ l) ++ [97]) = some v ∧ (List.replicate m (97 : Int) ++ l).length < 200 := by
  unfold rowOk at h
  simp only [Bool.and_eq_true, decide_eq_true_eq, beq_iff_eq] at h
  obtain ⟨⟨⟨h1, h2⟩, h3⟩, h4⟩ := h
  have ha := as_ok m
  have hc := as_chars m
  have hl : (List.replicate m (97 : Int) ++ l).length < 200 := by simp; omega
  refine ⟨?_, ?_, hl⟩
  · rw [valid_g _ (ok_app ha h1) (by omega), str_app, charsB_two _ _ (valid_of_chars hc), hc, h3, Bool.true_and]
  · rw [List.append_assoc, valid_g _ (ok_app ha (ok_app h1 (by decide))) (by simp; omega), str_app, charsB_two _ _ (valid_of_chars hc), hc, h4, Bool.true_and]
theorem at_row (L : List (List Int)) (p : List Int → Bool) (h : L.all p = true) (i : Int) (h0 : 0 ≤ i) (h1 : i < (L.length : Int)) : p (R8.rd_L1 L i) = true := by
  unfold R8.rd_L1
  have hi : i.toNat < L.length := by omega
  have : L.getD i.toNat [] = L[i.toNat] := by simp [List.getD_eq_getElem?_getD, hi]
  rw [this]
  exact List.all_eq_true.1 h _ (List.getElem_mem hi)
theorem wrap_u64 (x : Int) : 0 ≤ IntKind.u64.wrap x := by
  unfold IntKind.wrap
  simp [IntKind.bits, IntKind.signed]
  omega
theorem bad_loop (a0 a1 : Int) (m : Nat) (hm : wrap64 (Int.tmod (IntKind.u64.wrap a1) 21) = (m : Int)) (hm2 : m ≤ 20) : ∀ (d i k : Nat), m - i = d → i ≤ m → d < k →
    R8.brackenlaw2_TextBad.l0 k a0 a1 badL goodL (List.replicate i 97) (i : Int) = some true := by
  intro d
  induction d with
  | zero =>
    intro i k hd hi hk
    obtain rfl : i = m := by omega
    obtain ⟨k, rfl⟩ : ∃ n, k = n + 1 := ⟨k - 1, by omega⟩
    have e18 : IntKind.u64.wrap ((badL.length : Int)) = 18 := by decide
    have e10 : IntKind.u64.wrap ((goodL.length : Int)) = 10 := by decide
    have hw := wrap_u64 a0
    generalize hx : IntKind.u64.wrap a0 = x at hw
    have hb0 : 0 ≤ Int.tmod x 18 := Int.tmod_nonneg _ hw
    have hb1 : Int.tmod x 18 < 18 := Int.tmod_lt_of_pos _ (by omega)
    have hg0 : 0 ≤ Int.tmod x 10 := Int.tmod_nonneg _ hw
    have hg1 : Int.tmod x 10 < 10 := Int.tmod_lt_of_pos _ (by omega)
    obtain ⟨p1, p2, p3⟩ := row_valid false _ (at_row badL _ bad_rows _ hb0 hb1) i (by omega)
    obtain ⟨q1, q2, q3⟩ := row_valid true _ (at_row goodL _ good_rows _ hg0 hg1) i (by omega)
    have r1 : text_Valid.f (List.replicate i 97) = some true := by rw [valid_g _ (as_ok i) (by simp; omega), as_chars]
    have ht : brackenlaw2_told.f = some true := rfl
    have lr : (List.replicate i (97 : Int)).length = i := by simp
    have ln : ([] : List Int) ++ List.replicate i 97 = List.replicate i 97 := rfl
    rw [List.length_append] at p3 q3
    rw [R8.brackenlaw2_TextBad.l0, hm, if_neg (by omega), hx, e18, e10]
    simp only [Option.bind_some, ln, lr]
    rw [if_pos (by simp; omega), if_neg (by decide), if_pos hb0, if_pos (show Int.tmod x 18 < (badL.length : Int) from hb1), if_pos (by omega), if_pos (by simp; omega), if_neg (by decide), if_pos hg0, if_pos (show Int.tmod x 10 < (goodL.length : Int) from hg1), if_pos (by omega)]
    rw [ht, Option.bind_some, if_pos rfl, p1, Option.bind_some, if_neg (by decide), if_pos (by rw [List.length_append]; omega), p2, Option.bind_some, if_neg (by decide), q1, Option.bind_some, if_pos rfl, if_pos (by rw [List.length_append]; omega), q2, Option.bind_some, if_pos rfl, r1]
    rfl
  | succ d ih =>
    intro i k hd hi hk
    obtain ⟨k, rfl⟩ : ∃ n, k = n + 1 := ⟨k - 1, by omega⟩
    have e : wrap64 ((i : Int) + 1) = ((i + 1 : Nat) : Int) := by unfold wrap64; omega
    have hr : List.replicate i (97 : Int) ++ [97] = List.replicate (i + 1) 97 := by rw [List.replicate_succ']
    rw [R8.brackenlaw2_TextBad.l0, hm, if_pos (by omega), if_pos (by simp; omega), e, hr]
    exact ih (i + 1) k (by omega) (by omega) (by omega)
theorem bad_pure : R8.brackenlaw2_TextBad.Pure := by
  intro a0 a1 _ _
  have hw := wrap_u64 a1
  have h0 : 0 ≤ Int.tmod (IntKind.u64.wrap a1) 21 := Int.tmod_nonneg _ hw
  have h1 : Int.tmod (IntKind.u64.wrap a1) 21 < 21 := Int.tmod_lt_of_pos _ (by omega)
  obtain ⟨m, hm⟩ := Int.eq_ofNat_of_zero_le h0
  refine ⟨40, ?_⟩
  exact bad_loop a0 a1 m (by rw [hm]; unfold wrap64; omega) (by omega) m 0 40 (by omega) (by omega) (by omega)

end Go.Proofs.YtiddhaakbcnbiaaDoor.TPure
