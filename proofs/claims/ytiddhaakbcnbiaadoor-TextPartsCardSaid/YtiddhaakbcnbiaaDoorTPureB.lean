/- The pure statements of the laws on the mark and on two texts: TextMark, TextParts. -/
import Derived.Test.YtiddhaakbcnbiaaDoorR6x1
import Derived.Test.YtiddhaakbcnbiaaDoorTPureG
namespace Go.Proofs.YtiddhaakbcnbiaaDoor.TPure
open Go.RowKit Go.Proofs.YtiddhaakbcnbiaaDoorW.PrintWords Go.Proofs.YtiddhaakbcnbiaaDoorW.PrintLast Go.Proofs.YtiddhaakbcnbiaaDoor.Spec Go.Proofs.YtiddhaakbcnbiaaDoor.Giv Go.Proofs.YtiddhaakbcnbiaaDoor.Ref Go.Proofs.YtiddhaakbcnbiaaDoor.Txt Go.Proofs.YtiddhaakbcnbiaaDoor.TGiv
set_option linter.unusedVariables false

/-- What is read where no mark is ahead. -/
def plainB (L : List UInt8) : ByteArray × Int := if charsB ⟨L.toArray⟩ then (endsB ⟨L.toArray⟩, 0) else (⟨#[]⟩, 2)
theorem readB_plain (L : List UInt8) (h : bom.isPrefixOf L = false) : readB L = plainB L := by
  unfold readB plainB
  rw [h]
  rfl
theorem readB_mark (L : List UInt8) : readB (239 :: 187 :: 191 :: L) = plainB L := rfl
theorem arr_app (a b : List UInt8) : (⟨(a ++ b).toArray⟩ : ByteArray) = ⟨a.toArray⟩ ++ ⟨b.toArray⟩ := by
  rw [← str_self ((⟨a.toArray⟩ : ByteArray) ++ ⟨b.toArray⟩)]
  unfold str
  rw [app_list]
theorem chars_x (L : List UInt8) : charsB ⟨(120 :: L).toArray⟩ = charsB ⟨L.toArray⟩ := by
  have h : (⟨(120 :: L).toArray⟩ : ByteArray) = ⟨#[120]⟩ ++ ⟨L.toArray⟩ := arr_app [120] L
  have hc : charsB ⟨#[120]⟩ = true := by decide +kernel
  rw [h, charsB_two _ _ (valid_of_chars hc), hc, Bool.true_and]
theorem ends_x (L : List UInt8) : endsL (120 :: L) = 120 :: endsL L := by rw [endsL, if_neg (by decide)]
theorem plain_x (L : List UInt8) : plainB (120 :: L) = if charsB ⟨L.toArray⟩ then (⟨(120 :: endsL L).toArray⟩, 0) else (⟨#[]⟩, 2) := by
  unfold plainB endsB
  rw [chars_x, arr_list, ends_x]
theorem told_f : brackenlaw2_told.f = some true := rfl
theorem nums_cons (b : UInt8) (L : List UInt8) : (b.toNat : Int) :: numsOf L = numsOf (b :: L) := rfl

/-! ### TextMark -/
theorem mark_j (L : List UInt8) (hL : L.length ≤ 100) (c : Bool) (hc : bom.isPrefixOf L = c) (k : Nat) : R6.brackenlaw2_TextMark.j0 (k + 1) (numsOf L) (plainB L).1 (plainB L).2 c = some true := by
  rw [R6.brackenlaw2_TextMark.j0]
  cases c with
  | true =>
    have hx : ([120] : List Int) ++ numsOf L = numsOf (120 :: L) := rfl
    rw [if_pos rfl, Option.bind_some, if_pos (by rw [numsOf_length]; simp; omega), hx, read_f _ (by simp; omega), Option.bind_some, told_f, Option.bind_some, if_pos rfl, readB_plain (120 :: L) rfl, plain_x]
    unfold plainB
    cases hv : charsB ⟨L.toArray⟩ with
    | true =>
      have hsz : (endsB ⟨L.toArray⟩).size ≤ L.length := endsL_length L
      simp only [if_true]
      rw [if_pos (by omega)]
      congr 1
      rw [beq_iff_eq, ByteArray.toList_eq, ByteArray.toList_eq, app_list]
      rfl
    | false =>
      simp
  | false =>
    rw [if_neg (by simp), read_f _ (by omega), Option.bind_some, told_f, Option.bind_some, if_pos rfl, readB_plain L hc, if_pos rfl]
    simp
theorem mark_pure : R6.brackenlaw2_TextMark.Pure := by
  intro l0 _ _ hwf
  have hb := ok_of_wf hwf
  rw [nums_back hb]
  generalize (strOfNums l0).data.toList = L
  refine ⟨1, ?_⟩
  unfold R6.brackenlaw2_TextMark.f
  rw [numsOf_length]
  by_cases hL : (L.length : Int) > 100
  · rw [if_pos hL, told_f]; rfl
  · have hx : ([239, 187, 191] : List Int) ++ numsOf L = numsOf (239 :: 187 :: 191 :: L) := rfl
    have hj := mark_j L (by omega)
    rw [if_neg hL, Option.bind_some, if_pos (by simp; omega), hx, read_f _ (by simp; omega), Option.bind_some, readB_mark]
    by_cases h3 : 3 ≤ L.length
    · have hbt := bom_test L h3
      have e0 : ((L[0].toNat : Int) = 239) ↔ L[0] = 239 := u8_eq L[0] 239
      have e1 : ((L[1].toNat : Int) = 187) ↔ L[1] = 187 := u8_eq L[1] 187
      have e2 : ((L[2].toNat : Int) = 191) ↔ L[2] = 191 := u8_eq L[2] 191
      rw [if_pos (by omega), if_pos (by omega), show rd (numsOf L) 0 = _ from rd_nums L 0 (by omega), show rd (numsOf L) 1 = _ from rd_nums L 1 (by omega), show rd (numsOf L) 2 = _ from rd_nums L 2 (by omega)]
      by_cases c0 : L[0] = 239
      · rw [if_pos (e0.2 c0), if_pos (by omega)]
        by_cases c1 : L[1] = 187
        · rw [if_pos (e1.2 c1), if_pos (by omega)]
          refine hj _ ?_ 0
          rw [hbt, c0, c1, Bool.eq_iff_iff]
          simp only [beq_iff_eq, e2]
          simp
        · rw [if_neg (fun h => c1 (e1.1 h))]
          exact hj false (by rw [hbt]; simp [c1]) 0
      · rw [if_neg (fun h => c0 (e0.1 h))]
        exact hj false (by rw [hbt]; simp [c0]) 0
    · rw [if_neg (by omega)]
      exact hj false (bom_short L h3) 0

/-! ### TextParts -/
theorem ends_app : ∀ (a b : List UInt8), a.getLast? ≠ some 13 → endsL (a ++ b) = endsL a ++ endsL b
  | [], b, _ => rfl
  | x :: a, b, h => by
    rw [List.cons_append, endsL, endsL]
    by_cases hx : x = 13
    · subst hx
      have ha : a ≠ [] := fun h' => h (by rw [h']; rfl)
      have hl : a.getLast? ≠ some 13 := by
        rw [List.getLast?_cons] at h
        intro h'
        rw [h'] at h
        simp at h
      obtain ⟨y, a', rfl⟩ : ∃ y a', a = y :: a' := by
        cases a with
        | nil => exact absurd rfl ha
        | cons y a' => exact ⟨y, a', rfl⟩
      have ih := ends_app (y :: a') b hl
      rw [if_pos rfl, if_pos rfl, List.cons_append] at *
      by_cases hy : y = 10
      · rw [if_pos (show (y :: (a' ++ b)).head? = some 10 by rw [hy]; rfl), if_pos (show (y :: a').head? = some 10 by rw [hy]; rfl), ih]
      · have hn : ¬ some y = some (10 : UInt8) := by simpa using hy
        rw [if_neg (show ¬ (y :: (a' ++ b)).head? = some 10 from hn), if_neg (show ¬ (y :: a').head? = some 10 from hn), ih]
        rfl
    · have hl : a.getLast? ≠ some 13 := by
        cases a with
        | nil => simp
        | cons y a' => rw [List.getLast?_cons_cons] at h; exact h
      rw [if_neg hx, if_neg hx, ends_app a b hl]
      rfl
theorem bom_two (a b : List UInt8) (hv : charsB ⟨a.toArray⟩ = true) (ha : bom.isPrefixOf a = false) (hb : 2 < b.length → b.getD 0 0 ≠ 239) : bom.isPrefixOf (a ++ b) = false := by
  rw [Bool.eq_false_iff]
  intro h
  match a with
  | [] =>
    rw [List.nil_append] at h
    have hl : 3 ≤ b.length := List.IsPrefix.length_le (List.isPrefixOf_iff_prefix.1 h)
    rw [bom_test b hl] at h
    simp only [Bool.and_eq_true, decide_eq_true_eq] at h
    apply hb (by omega)
    rw [getD_at b 0 (by omega)]
    exact h.1
  | [x] =>
    have hx : x = 239 := by
      have : ((239 : UInt8) == x) = true := by
        simp only [bom, List.cons_append, List.nil_append, List.isPrefixOf, Bool.and_eq_true] at h
        exact h.1
      exact (beq_iff_eq.1 this).symm
    subst hx
    have : charsB ⟨([239] : List UInt8).toArray⟩ = false := by decide +kernel
    rw [this] at hv
    cases hv
  | [x, y] =>
    have hxy : x = 239 ∧ y = 187 := by
      simp only [bom, List.cons_append, List.nil_append, List.isPrefixOf, Bool.and_eq_true, beq_iff_eq] at h
      exact ⟨h.1.symm, h.2.1.symm⟩
    obtain ⟨rfl, rfl⟩ := hxy
    have : charsB ⟨([239, 187] : List UInt8).toArray⟩ = false := by decide +kernel
    rw [this] at hv
    cases hv
  | x :: y :: z :: a' =>
    have e : bom.isPrefixOf (x :: y :: z :: a' ++ b) = bom.isPrefixOf (x :: y :: z :: a') := rfl
    rw [e, ha] at h
    cases h
theorem bom_none (b : List UInt8) (hb : 2 < b.length → b.getD 0 0 ≠ 239) : bom.isPrefixOf b = false := bom_two [] b (by decide +kernel) rfl hb
theorem plain_two (a b : List UInt8) (ha : charsB ⟨a.toArray⟩ = true) (hb : charsB ⟨b.toArray⟩ = true) (hl : a.getLast? ≠ some 13) : plainB (a ++ b) = (⟨(endsL a ++ endsL b).toArray⟩, 0) := by
  unfold plainB
  rw [arr_app, charsB_two _ _ (valid_of_chars ha), ha, hb, Bool.and_self, if_pos rfl]
  unfold endsB
  rw [app_list]
  show ((⟨(endsL (a ++ b)).toArray⟩, 0) : ByteArray × Int) = _
  rw [ends_app a b hl]
theorem parts_read (a b : List UInt8) (hl : a.getLast? ≠ some 13) (hb : 2 < b.length → b.getD 0 0 ≠ 239) (h1 : (readB a).2 = 0) (h2 : (readB b).2 = 0) : readB (a ++ b) = (⟨((readB a).1.data.toList ++ (readB b).1.data.toList).toArray⟩, 0) := by
  rw [readB_plain b (bom_none b hb)] at h2 ⊢
  have hcb : charsB ⟨b.toArray⟩ = true := by
    unfold plainB at h2
    cases h : charsB ⟨b.toArray⟩ with
    | true => rfl
    | false => rw [h] at h2; cases h2
  have hpb : (plainB b).1.data.toList = endsL b := by unfold plainB; rw [hcb]; rfl
  rw [hpb]
  have key : ∀ a', readB a = plainB a' → readB (a ++ b) = plainB (a' ++ b) → a'.getLast? ≠ some 13 → readB (a ++ b) = (⟨((readB a).1.data.toList ++ endsL b).toArray⟩, 0) := by
    intro a' e1 e2 hl'
    rw [e1] at h1 ⊢
    have hca : charsB ⟨a'.toArray⟩ = true := by
      unfold plainB at h1
      cases h : charsB ⟨a'.toArray⟩ with
      | true => rfl
      | false => rw [h] at h1; cases h1
    have hpa : (plainB a').1.data.toList = endsL a' := by unfold plainB; rw [hca]; rfl
    rw [e2, plain_two a' b hca hcb hl', hpa]
  cases hp : bom.isPrefixOf a with
  | true =>
    obtain ⟨t, rfl⟩ := List.isPrefixOf_iff_prefix.1 hp
    refine key t rfl rfl ?_
    intro h'
    apply hl
    rw [List.getLast?_append, h']
    rfl
  | false =>
    have e1 := readB_plain a hp
    have hca : charsB ⟨a.toArray⟩ = true := by
      rw [e1] at h1
      unfold plainB at h1
      cases h : charsB ⟨a.toArray⟩ with
      | true => rfl
      | false => rw [h] at h1; cases h1
    exact key a e1 (readB_plain _ (bom_two a b hca hp hb)) hl
theorem read_size (a : List UInt8) : (readB a).1.size ≤ a.length := by
  unfold readB
  dsimp only
  split
  · split
    · have := endsL_length (a.drop 3)
      rw [List.length_drop] at this
      show (endsL (a.drop 3)).length ≤ _
      omega
    · exact Nat.zero_le _
  · split
    · exact endsL_length a
    · exact Nat.zero_le _
theorem parts_j (a b : List UInt8) (hA : a.length ≤ 60) (hB : b.length ≤ 60) (hl : a.getLast? ≠ some 13) (hb : 2 < b.length → b.getD 0 0 ≠ 239) (k : Nat) : R6.brackenlaw2_TextParts.j0 (k + 1) (numsOf a) (numsOf b) false = some true := by
  have e1 : ([] : List Int) ++ numsOf a = numsOf a := rfl
  have e2 : numsOf a ++ numsOf b = numsOf (a ++ b) := by unfold numsOf; rw [List.map_append]
  have e3 : ([120] : List Int) ++ numsOf b = numsOf (120 :: b) := rfl
  rw [R6.brackenlaw2_TextParts.j0, if_neg (by simp), read_f a (by omega), Option.bind_some, read_f b (by omega), Option.bind_some, Option.bind_some, if_pos (by rw [numsOf_length]; simp; omega), Option.bind_some, e1, if_pos (by rw [numsOf_length, numsOf_length]; omega), e2, read_f _ (by rw [List.length_append]; omega), Option.bind_some, told_f, Option.bind_some, if_pos rfl]
  by_cases h1 : (readB a).2 = 0
  · rw [if_pos h1]
    by_cases h2 : (readB b).2 = 0
    · have hs1 := read_size a
      have hs2 := read_size b
      rw [if_pos h2, parts_read a b hl hb h1 h2, if_pos rfl, if_pos (by omega), if_pos]
      rw [ByteArray.toList_eq, ByteArray.toList_eq, app_list]
    · rw [if_neg h2, Option.bind_some, if_pos (by rw [numsOf_length]; simp; omega), e3, valid_f _ (by simp; omega), Option.bind_some, chars_x]
      have hcb : charsB ⟨b.toArray⟩ = false := by
        rw [readB_plain b (bom_none b hb)] at h2
        unfold plainB at h2
        cases h : charsB ⟨b.toArray⟩ with
        | false => rfl
        | true => rw [h] at h2; exact absurd rfl h2
      rw [hcb]
      rfl
  · rw [if_neg h1]
theorem parts_pure : R6.brackenlaw2_TextParts.Pure := by
  intro l0 l1 _ _ hwf0 _ _ hwf1
  rw [nums_back (ok_of_wf hwf0), nums_back (ok_of_wf hwf1)]
  generalize (strOfNums l0).data.toList = a
  generalize (strOfNums l1).data.toList = b
  refine ⟨1, ?_⟩
  have ht : R6.brackenlaw2_TextParts.j0 1 (numsOf a) (numsOf b) true = some true := by
    rw [R6.brackenlaw2_TextParts.j0, if_pos rfl, told_f]; rfl
  unfold R6.brackenlaw2_TextParts.f
  rw [numsOf_length, numsOf_length]
  by_cases hA : (a.length : Int) > 60
  · rw [if_pos hA]; exact ht
  rw [if_neg hA]
  by_cases hB : (b.length : Int) > 60
  · rw [if_pos hB]; exact ht
  rw [if_neg hB]
  have hrest : a.getLast? ≠ some 13 → (if (b.length : Int) > 2 then (if 0 < (b.length : Int) then (R6.brackenlaw2_TextParts.j0 1 (numsOf a) (numsOf b) ((rd (numsOf b) 0) == 239)) else none) else (R6.brackenlaw2_TextParts.j0 1 (numsOf a) (numsOf b) false)) = some true := by
    intro hl
    by_cases h2 : (b.length : Int) > 2
    · rw [if_pos h2, if_pos (by omega), show rd (numsOf b) 0 = _ from rd_nums b 0 (by omega)]
      have e0 : ((b[0].toNat : Int) = 239) ↔ b[0] = 239 := u8_eq _ 239
      by_cases h0 : b[0] = 239
      · rw [show ((b[0].toNat : Int) == 239) = true by rw [beq_iff_eq]; exact e0.2 h0]
        exact ht
      · rw [show ((b[0].toNat : Int) == 239) = false by rw [beq_eq_false_iff_ne]; exact fun h => h0 (e0.1 h)]
        exact parts_j a b (by omega) (by omega) hl (fun _ => by rw [getD_at b 0 (by omega)]; exact h0) 0
    · rw [if_neg h2]
      exact parts_j a b (by omega) (by omega) hl (fun h => absurd h (by omega)) 0
  by_cases h0 : (a.length : Int) > 0
  · have e : wrap64 ((a.length : Int) - 1) = ((a.length - 1 : Nat) : Int) := by rw [wrap64_small] <;> omega
    have hlt : a.length - 1 < a.length := by omega
    have e13 : ((a[a.length - 1].toNat : Int) = 13) ↔ a[a.length - 1] = 13 := u8_eq _ 13
    rw [if_pos h0, e, if_pos (by omega), if_pos (by omega), rd_nums a (a.length - 1) hlt]
    by_cases h13 : a[a.length - 1] = 13
    · rw [if_pos (e13.2 h13)]; exact ht
    · rw [if_neg (fun h => h13 (e13.1 h))]
      refine hrest ?_
      rw [List.getLast?_eq_getElem?, List.getElem?_eq_getElem hlt]
      simpa using h13
  · rw [if_neg h0]
    refine hrest ?_
    obtain rfl : a = [] := List.eq_nil_of_length_eq_zero (by omega)
    simp

end Go.Proofs.YtiddhaakbcnbiaaDoor.TPure
