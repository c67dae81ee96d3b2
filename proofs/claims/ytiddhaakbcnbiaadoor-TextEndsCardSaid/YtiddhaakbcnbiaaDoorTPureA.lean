/- The pure statements of the laws on bytes as characters: TextAsks, TextEnds. -/
import Derived.Test.YtiddhaakbcnbiaaDoorR5x2
import Derived.Test.YtiddhaakbcnbiaaDoorR5x3
namespace Go.Proofs.YtiddhaakbcnbiaaDoor.TPure
open Go.RowKit Go.Proofs.YtiddhaakbcnbiaaDoorW.PrintWords Go.Proofs.YtiddhaakbcnbiaaDoorW.PrintLast Go.Proofs.YtiddhaakbcnbiaaDoor.Spec Go.Proofs.YtiddhaakbcnbiaaDoor.Giv Go.Proofs.YtiddhaakbcnbiaaDoor.Ref Go.Proofs.YtiddhaakbcnbiaaDoor.Txt Go.Proofs.YtiddhaakbcnbiaaDoor.TGiv Go.Proofs.YtiddhaakbcnbiaaDoor.R5
set_option linter.unusedVariables false

def str (l : List UInt8) : ByteArray := ⟨l.toArray⟩
theorem str_self (s : ByteArray) : str s.data.toList = s := by
  obtain ⟨⟨l⟩⟩ := s
  rfl
theorem byte_wf {x : Int} (h : (Lit.int .u8 x).wf = true) : 0 ≤ x ∧ x < 256 := by
  have h1 : IntKind.u8.min = 0 := rfl
  have h2 : IntKind.u8.max = 255 := rfl
  simp only [Lit.wf, Bool.and_eq_true, decide_eq_true_eq] at h
  omega
theorem ok_of_wf {l : List Int} (h : ∀ x ∈ l, (Lit.int .u8 x).wf = true) : bytesOk l = true := List.all_eq_true.2 fun x hx => decide_eq_true (byte_wf (h x hx))
theorem nums_back {l : List Int} (h : bytesOk l = true) : l = numsOf (strOfNums l).data.toList := by
  rw [strOfNums_data]
  unfold numsOf
  rw [List.map_map]
  conv => lhs; rw [← List.map_id l]
  apply List.map_congr_left
  intro x hx
  have := List.all_eq_true.1 h x hx
  simp only [decide_eq_true_eq] at this
  show x = ((UInt8.ofNat x.toNat).toNat : Int)
  rw [UInt8.toNat_ofNat']
  omega
theorem numsOf_length (L : List UInt8) : (numsOf L).length = L.length := by simp [numsOf]
theorem numsOf_ok (L : List UInt8) : bytesOk (numsOf L) = true := List.all_eq_true.2 fun x hx => by
  obtain ⟨b, _, rfl⟩ := List.mem_map.1 hx
  have := b.toNat_lt
  rw [decide_eq_true_eq]
  omega
theorem rd_nums (L : List UInt8) (i : Nat) (h : i < L.length) : rd (numsOf L) (i : Int) = (L[i].toNat : Int) := by
  unfold rd numsOf
  simp [List.getD_eq_getElem?_getD, h]
theorem str_list (L : List UInt8) : (strOfNums (numsOf L)).data.toList = L := by rw [str_nums]
theorem str_size (L : List UInt8) : (strOfNums (numsOf L)).size = L.length := by rw [str_nums]; rfl

theorem read_f (L : List UInt8) (h : L.length < 1000000000) : text_Read.f (numsOf L) = some (readB L) := by
  unfold text_Read.f
  rw [if_pos ⟨numsOf_ok L, by rw [numsOf_length]; exact h⟩, str_list]
theorem valid_f (L : List UInt8) (h : L.length < 1000000000) : text_Valid.f (numsOf L) = some (charsB ⟨L.toArray⟩) := by
  unfold text_Valid.f
  rw [if_pos ⟨numsOf_ok L, by rw [numsOf_length]; exact h⟩, str_nums]
theorem ends_f (s : ByteArray) (h : s.size < 1000000000) : text_Ends.f s = some (endsB s) := by unfold text_Ends.f; rw [if_pos h]
theorem rends_f (s : ByteArray) (h : s.size < 1000000000) : TGiv.brackenref1_Ends.f s = some (endsB s) := by unfold TGiv.brackenref1_Ends.f; rw [if_pos h]
theorem rvalid_f (s : ByteArray) (h : s.size < 1000000000) : TGiv.brackenref1_Valid.f s = some (charsB s) := by unfold TGiv.brackenref1_Valid.f; rw [if_pos (by omega)]
theorem lines_f (s : ByteArray) : text_Lines.f s = some (Lib.countByte s.data.toList 10 : Int) := rfl

/-! ### Text -/
theorem j1_f (k : Nat) (s : ByteArray) (h : s.size < 1000000000) : R5.brackenref1_Text.j1 (k + 1) s = some (if charsB s then (endsB s, 0) else (⟨#[]⟩, 2)) := by
  rw [R5.brackenref1_Text.j1, rvalid_f s h, Option.bind_some]
  cases charsB s with
  | true => simp [rends_f s h]
  | false => simp
theorem bom_test (L : List UInt8) (h : 3 ≤ L.length) : bom.isPrefixOf L = (decide (L[0] = 239) && (decide (L[1] = 187) && decide (L[2] = 191))) := by
  obtain ⟨a, b, c, l', rfl⟩ : ∃ a b c l', L = a :: b :: c :: l' := by
    match L, h with
    | a :: b :: c :: l', _ => exact ⟨a, b, c, l', rfl⟩
  show ((239 : UInt8) == a && ((187 : UInt8) == b && ((191 : UInt8) == c && true))) = (decide (a = 239) && (decide (b = 187) && decide (c = 191)))
  rw [Bool.eq_iff_iff]
  simp only [Bool.and_eq_true, beq_iff_eq, decide_eq_true_eq, and_true]
  exact ⟨fun ⟨a, b, c⟩ => ⟨a.symm, b.symm, c.symm⟩, fun ⟨a, b, c⟩ => ⟨a.symm, b.symm, c.symm⟩⟩
theorem bom_short (L : List UInt8) (h : ¬ 3 ≤ L.length) : bom.isPrefixOf L = false := by
  rw [Bool.eq_false_iff]
  intro hp
  exact h (List.IsPrefix.length_le (List.isPrefixOf_iff_prefix.1 hp))
theorem bt_L (L : List UInt8) (i : Nat) (h : i < L.length) : bt ⟨L.toArray⟩ (i : Int) = (L[i].toNat : Int) := by
  have hs : i < (⟨L.toArray⟩ : ByteArray).size := h
  have := bt_at ⟨L.toArray⟩ (i : Int) (by simpa using hs)
  rw [← this]
  rfl
theorem u8_eq (a b : UInt8) : ((a.toNat : Int) = (b.toNat : Int)) ↔ a = b := ⟨fun h => UInt8.toNat_inj.1 (by omega), fun h => by rw [h]⟩
theorem ext_drop (L : List UInt8) (h : 3 ≤ L.length) : (⟨L.toArray⟩ : ByteArray).extract 3 (⟨L.toArray⟩ : ByteArray).size = ⟨(L.drop 3).toArray⟩ := by
  have e : ((⟨L.toArray⟩ : ByteArray).extract 3 (⟨L.toArray⟩ : ByteArray).size).data.toList = L.drop 3 := by rw [Lib.extract_to_end]
  rw [← str_self ((⟨L.toArray⟩ : ByteArray).extract 3 _)]
  unfold str
  rw [e]
theorem text_f (L : List UInt8) (h : L.length < 1000000000) (k : Nat) : R5.brackenref1_Text.f (k + 2) ⟨L.toArray⟩ = some (readB L) := by
  have hj : ∀ (c : Bool), bom.isPrefixOf L = c → (c = true → 3 ≤ L.length) → R5.brackenref1_Text.j0 (k + 2) ⟨L.toArray⟩ c = some (readB L) := by
    intro c hc h3
    rw [R5.brackenref1_Text.j0]
    unfold readB
    rw [hc]
    cases c with
    | true =>
      have h3 := h3 rfl
      simp only [if_true]
      rw [if_pos (by show ((3 : Int) ≤ ((L.length : Nat) : Int)); omega), ext_drop L h3, j1_f _ _ (by show (L.drop 3).length < _; rw [List.length_drop]; omega)]
    | false =>
      simp only [Bool.false_eq_true, if_false]
      rw [j1_f _ ⟨L.toArray⟩ h]
  unfold R5.brackenref1_Text.f
  by_cases h3 : 3 ≤ L.length
  · have hb := bom_test L h3
    have hz : ((⟨L.toArray⟩ : ByteArray).size : Int) = (L.length : Int) := rfl
    rw [hz, if_pos (by omega), if_pos (by omega), show bt ⟨L.toArray⟩ 0 = _ from bt_L L 0 (by omega), show bt ⟨L.toArray⟩ 1 = _ from bt_L L 1 (by omega), show bt ⟨L.toArray⟩ 2 = _ from bt_L L 2 (by omega)]
    have e0 : ((L[0].toNat : Int) = 239) ↔ L[0] = 239 := u8_eq L[0] 239
    have e1 : ((L[1].toNat : Int) = 187) ↔ L[1] = 187 := u8_eq L[1] 187
    have e2 : ((L[2].toNat : Int) = 191) ↔ L[2] = 191 := u8_eq L[2] 191
    by_cases c0 : L[0] = 239
    · rw [if_pos (e0.2 c0), if_pos (by omega)]
      by_cases c1 : L[1] = 187
      · rw [if_pos (e1.2 c1), if_pos (by omega)]
        refine hj _ ?_ (fun _ => h3)
        rw [hb, c0, c1]
        rw [Bool.eq_iff_iff]
        simp only [beq_iff_eq, e2]
        simp
      · rw [if_neg (fun h => c1 (e1.1 h))]
        exact hj false (by rw [hb]; simp [c1]) (fun h => by cases h)
    · rw [if_neg (fun h => c0 (e0.1 h))]
      exact hj false (by rw [hb]; simp [c0]) (fun h => by cases h)
  · rw [if_neg (by show ¬ (3 : Int) ≤ ((L.length : Nat) : Int); omega)]
    exact hj false (bom_short L h3) (fun h => by cases h)

/-! ### TextAsks -/
theorem asks_loop (L : List UInt8) (hL : L.length ≤ 200) (S : ByteArray) (c : Int) : ∀ (d i k : Nat) (n : Nat), L.length - i = d → i ≤ L.length → d + 1 < k → n + (L.drop i).count 10 = L.count 10 → n ≤ i →
    R5.brackenlaw2_TextAsks.l0 k (numsOf L) S c S c (n : Int) (i : Int) = some true := by
  intro d
  induction d with
  | zero =>
    intro i k n hd hi hk hn hni
    obtain ⟨k, rfl⟩ : ∃ m, k = m + 1 := ⟨k - 1, by omega⟩
    rw [R5.brackenlaw2_TextAsks.l0, numsOf_length, if_neg (by omega)]
    rw [List.drop_eq_nil_of_le (by omega)] at hn
    have h1 : brackenlaw2_told.f = some true := rfl
    rw [h1, Option.bind_some, if_pos rfl, valid_f L (by omega), Option.bind_some, str_nums, rvalid_f _ (show L.length < _ by omega), Option.bind_some, if_pos (by simp), if_pos rfl, if_pos rfl, ends_f _ (show L.length < _ by omega), Option.bind_some, rends_f _ (show L.length < _ by omega), Option.bind_some, if_pos rfl, lines_f, Option.bind_some]
    congr 1
    rw [beq_iff_eq]
    have : Lib.countByte (⟨L.toArray⟩ : ByteArray).data.toList 10 = L.count 10 := rfl
    rw [this]
    simp at hn
    omega
  | succ d ih =>
    intro i k n hd hi hk hn hni
    obtain ⟨k, rfl⟩ : ∃ m, k = m + 1 := ⟨k - 1, by omega⟩
    have hlt : i < L.length := by omega
    have e : wrap64 ((i : Int) + 1) = ((i + 1 : Nat) : Int) := by rw [wrap64_small] <;> omega
    have e2 : wrap64 ((n : Int) + 1) = ((n + 1 : Nat) : Int) := by rw [wrap64_small] <;> omega
    have e10 : ((L[i].toNat : Int) = 10) ↔ L[i] = 10 := u8_eq L[i] 10
    rw [List.drop_eq_getElem_cons hlt, List.count_cons] at hn
    rw [R5.brackenlaw2_TextAsks.l0, numsOf_length, if_pos (by omega), if_pos (by omega), rd_nums L i hlt, e, e2]
    by_cases h10 : L[i] = 10
    · rw [if_pos (e10.2 h10)]
      rw [h10] at hn
      simp only [beq_self_eq_true, if_true] at hn
      exact ih (i + 1) k (n + 1) (by omega) (by omega) (by omega) (by omega) (by omega)
    · rw [if_neg (fun h => h10 (e10.1 h))]
      have : (L[i] == 10) = false := by simpa using h10
      rw [this] at hn
      simp only [Bool.false_eq_true, if_false] at hn
      exact ih (i + 1) k n (by omega) (by omega) (by omega) (by omega) (by omega)
theorem asks_pure : R5.brackenlaw2_TextAsks.Pure := by
  intro l0 _ _ hwf
  have hb := ok_of_wf hwf
  rw [nums_back hb]
  generalize (strOfNums l0).data.toList = L
  refine ⟨300, ?_⟩
  unfold R5.brackenlaw2_TextAsks.f
  rw [numsOf_length]
  by_cases hL : (L.length : Int) > 200
  · rw [if_pos hL]; rfl
  · rw [if_neg hL, read_f L (by omega), Option.bind_some, str_nums, text_f L (by omega) 298, Option.bind_some]
    exact asks_loop L (by omega) _ _ L.length 0 300 0 (by omega) (by omega) (by omega) (by simp) (by omega)

/-! ### TextEnds -/
theorem no13 : ∀ L : List UInt8, (13 : UInt8) ∉ endsL L
  | [] => by simp [endsL]
  | b :: l => by
    have := no13 l
    rw [endsL]
    split
    · split
      · exact this
      · simp [this]
    · rename_i h
      simp [this]
      exact fun h' => h h'.symm
theorem ends_same : ∀ L : List UInt8, (13 : UInt8) ∉ L → endsL L = L
  | [], _ => rfl
  | b :: l, h => by
    simp only [List.mem_cons, not_or] at h
    rw [endsL, if_neg (fun h' => h.1 h'.symm), ends_same l h.2]
/-- How many ends of lines: what is counted byte by byte. -/
def cnt : Bool → List UInt8 → Nat
  | _, [] => 0
  | p, b :: l => (if b = 13 then 1 else if b = 10 then (if p then 0 else 1) else 0) + cnt (decide (b = 13)) l
theorem cnt_ends : ∀ L : List UInt8, (endsL L).count 10 = cnt false L ∧ (endsL (13 :: L)).count 10 = 1 + cnt true L
  | [] => by constructor <;> rfl
  | b :: l => by
    obtain ⟨hA, hB⟩ := cnt_ends l
    have h1 : (endsL (b :: l)).count 10 = cnt false (b :: l) := by
      by_cases h13 : b = 13
      · subst h13
        rw [hB, cnt]
        simp
      · rw [endsL, if_neg h13, List.count_cons, hA, cnt, if_neg h13]
        have : decide (b = 13) = false := by simp [h13]
        rw [this]
        by_cases h10 : b = 10
        · simp [h10]; omega
        · simp [h10]
    refine ⟨h1, ?_⟩
    rw [endsL, if_pos rfl]
    by_cases h10 : b = 10
    · subst h10
      rw [if_pos (show (10 :: l).head? = some 10 from rfl), endsL, if_neg (by decide), List.count_cons, hA, cnt]
      simp
      omega
    · rw [if_neg (by simpa using h10), List.count_cons, h1, cnt, cnt]
      simp [h10]
      omega
theorem ends_loop2 (L : List UInt8) (hL : L.length ≤ 200) (n : Nat) (hn : (endsL L).count 10 = n) : ∀ (d i k : Nat), (endsL L).length - i = d → i ≤ (endsL L).length → d + 1 < k →
    R5.brackenlaw2_TextEnds.l1 k (numsOf L) ⟨(endsL L).toArray⟩ (n : Int) (i : Int) = some true := by
  intro d
  have hl := endsL_length L
  have hz : ((⟨(endsL L).toArray⟩ : ByteArray).size : Int) = ((endsL L).length : Int) := rfl
  induction d with
  | zero =>
    intro i k hd hi hk
    obtain ⟨k, rfl⟩ : ∃ m, k = m + 1 := ⟨k - 1, by omega⟩
    have h1 : brackenlaw2_told.f = some true := rfl
    have h2 : endsB ⟨(endsL L).toArray⟩ = ⟨(endsL L).toArray⟩ := by
      unfold endsB
      rw [arr_list, ends_same _ (no13 L)]
    rw [R5.brackenlaw2_TextEnds.l1, hz, if_neg (by omega), h1, Option.bind_some, if_pos rfl, lines_f, Option.bind_some]
    have h3 : (Lib.countByte (⟨(endsL L).toArray⟩ : ByteArray).data.toList 10 : Int) = (n : Int) := by rw [← hn]; rfl
    rw [if_pos h3, ends_f _ (show (endsL L).length < _ by omega), Option.bind_some, h2, if_pos rfl, numsOf_length]
    congr 1
    rw [decide_eq_true_eq]
    omega
  | succ d ih =>
    intro i k hd hi hk
    obtain ⟨k, rfl⟩ : ∃ m, k = m + 1 := ⟨k - 1, by omega⟩
    have hlt : i < (endsL L).length := by omega
    have e : wrap64 ((i : Int) + 1) = ((i + 1 : Nat) : Int) := by rw [wrap64_small] <;> omega
    have e13 : (((endsL L)[i].toNat : Int) = 13) ↔ (endsL L)[i] = 13 := u8_eq _ 13
    rw [R5.brackenlaw2_TextEnds.l1, hz, if_pos (by omega), if_pos (by omega), bt_L _ i hlt, if_neg, e]
    · exact ih (i + 1) k (by omega) (by omega) (by omega)
    · intro h
      exact no13 L (by rw [← e13.1 h]; exact List.getElem_mem hlt)
theorem getD_at (L : List UInt8) (j : Nat) (h : j < L.length) : L.getD j 0 = L[j] := by simp [List.getD_eq_getElem?_getD, h]
theorem ends_loop1 (L : List UInt8) (hL : L.length ≤ 200) : ∀ (d i k n : Nat), L.length - i = d → i ≤ L.length → d + 210 < k → n ≤ i → ∀ p : Bool, (p = true ↔ 0 < i ∧ L.getD (i - 1) 0 = 13) → n + cnt p (L.drop i) = (endsL L).count 10 →
    R5.brackenlaw2_TextEnds.l0 k (numsOf L) ⟨(endsL L).toArray⟩ (n : Int) (i : Int) = some true := by
  intro d
  have hl := endsL_length L
  induction d with
  | zero =>
    intro i k n hd hi hk hni p hp hn
    obtain ⟨k, rfl⟩ : ∃ m, k = m + 1 := ⟨k - 1, by omega⟩
    rw [List.drop_eq_nil_of_le (by omega)] at hn
    rw [R5.brackenlaw2_TextEnds.l0, numsOf_length, if_neg (by omega)]
    exact ends_loop2 L hL n (by simp [cnt] at hn; omega) (endsL L).length 0 k (by omega) (by omega) (by omega)
  | succ d ih =>
    intro i k n hd hi hk hni p hp hn
    obtain ⟨k, rfl⟩ : ∃ m, k = m + 1 := ⟨k - 1, by omega⟩
    have hlt : i < L.length := by omega
    have e : wrap64 ((i : Int) + 1) = ((i + 1 : Nat) : Int) := by rw [wrap64_small] <;> omega
    have e2 : wrap64 ((n : Int) + 1) = ((n + 1 : Nat) : Int) := by rw [wrap64_small] <;> omega
    obtain ⟨b, hb⟩ : ∃ b, L[i]'hlt = b := ⟨_, rfl⟩
    have e10 : ((b.toNat : Int) = 10) ↔ b = 10 := u8_eq b 10
    have e13 : ((b.toNat : Int) = 13) ↔ b = 13 := u8_eq b 13
    rw [List.drop_eq_getElem_cons hlt, cnt, hb] at hn
    have hgd : ∀ j, (h : j < L.length) → L.getD j 0 = L[j] := getD_at L
    have hp' : (decide (b = 13) = true ↔ 0 < i + 1 ∧ L.getD (i + 1 - 1) 0 = 13) := by
      rw [decide_eq_true_eq, Nat.add_sub_cancel, hgd i hlt, hb]
      exact ⟨fun h => ⟨by omega, h⟩, fun h => h.2⟩
    have next := fun m (hm : m + cnt (decide (b = 13)) (L.drop (i + 1)) = (endsL L).count 10) (hmi : m ≤ i + 1) => ih (i + 1) k m (by omega) (by omega) (by omega) hmi _ hp' hm
    rw [R5.brackenlaw2_TextEnds.l0, numsOf_length, if_pos (by omega), if_pos (by omega), rd_nums L i hlt, hb, e, e2]
    by_cases h13 : b = 13
    · rw [if_pos (e13.2 h13)]
      rw [if_pos h13] at hn
      exact next (n + 1) (by omega) (by omega)
    · rw [if_neg (fun h => h13 (e13.1 h))]
      rw [if_neg h13] at hn
      by_cases h10 : b = 10
      · rw [if_pos (e10.2 h10)]
        rw [if_pos h10] at hn
        by_cases hi0 : i = 0
        · have hpf : p = false := by
            rw [Bool.eq_false_iff]
            intro h
            have h' := (hp.1 h).1
            omega
          rw [if_pos (by omega)]
          rw [hpf] at hn
          simp only [Bool.false_eq_true, if_false] at hn
          exact next (n + 1) (by omega) (by omega)
        · have e3 : wrap64 ((i : Int) - 1) = ((i - 1 : Nat) : Int) := by rw [wrap64_small] <;> omega
          have hlt1 : i - 1 < L.length := by omega
          have e131 : ((L[i - 1].toNat : Int) = 13) ↔ L[i - 1] = 13 := u8_eq L[i - 1] 13
          rw [if_neg (by omega), e3, if_pos (by omega), if_pos (by omega), rd_nums L (i - 1) hlt1]
          by_cases hq : L[i - 1] = 13
          · have hpt : p = true := hp.2 ⟨by omega, by rw [hgd _ hlt1]; exact hq⟩
            rw [if_pos (e131.2 hq)]
            rw [hpt] at hn
            simp only [if_true] at hn
            exact next n (by omega) (by omega)
          · have hpf : p = false := by
              rw [Bool.eq_false_iff]
              intro h
              have h' := (hp.1 h).2
              rw [hgd _ hlt1] at h'
              exact hq h'
            rw [if_neg (fun h => hq (e131.1 h))]
            rw [hpf] at hn
            simp only [Bool.false_eq_true, if_false] at hn
            exact next (n + 1) (by omega) (by omega)
      · rw [if_neg (fun h => h10 (e10.1 h))]
        rw [if_neg h10] at hn
        exact next n (by omega) (by omega)
theorem ends_pure : R5.brackenlaw2_TextEnds.Pure := by
  intro l0 _ _ hwf
  have hb := ok_of_wf hwf
  rw [nums_back hb]
  generalize (strOfNums l0).data.toList = L
  refine ⟨500, ?_⟩
  unfold R5.brackenlaw2_TextEnds.f
  rw [numsOf_length]
  by_cases hL : (L.length : Int) > 200
  · rw [if_pos hL]; rfl
  · rw [if_neg hL, str_nums, ends_f _ (show L.length < _ by omega), Option.bind_some]
    refine ends_loop1 L (by omega) L.length 0 500 0 (by omega) (by omega) (by omega) (by omega) false ?_ ?_
    · exact ⟨fun h => (by cases h), fun h => absurd h.1 (by omega)⟩
    · rw [List.drop_zero, (cnt_ends L).1]; omega

end Go.Proofs.YtiddhaakbcnbiaaDoor.TPure
