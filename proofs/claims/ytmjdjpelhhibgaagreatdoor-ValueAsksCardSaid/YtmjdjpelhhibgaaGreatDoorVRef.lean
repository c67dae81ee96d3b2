/- The reference's functions on characters and names, as printed, are the plain ones; their contracts without numbers of rounds. -/
import Derived.Test.YtmjdjpelhhibgaaGreatDoorKGiv
import Derived.Test.YtmjdjpelhhibgaaGreatDoorR1x
import Derived.Test.YtmjdjpelhhibgaaGreatDoorSpec2
import Derived.Test.YtmjdjpelhhibgaaGreatDoorDec
import Derived.Laws.BitsLemmas
import Derived.Laws.BitsAllLaws
import Derived.Lib.DecodeN
namespace Go.Proofs.YtmjdjpelhhibgaaGreatDoor.Ref
open Go.RowKit Go.Proofs.YtmjdjpelhhibgaaGreatDoorW.PrintWords Go.Proofs.YtmjdjpelhhibgaaGreatDoorW.PrintLast Go.Proofs.YtmjdjpelhhibgaaGreatDoor.R1 Go.Proofs.YtmjdjpelhhibgaaGreatDoor.Spec
set_option linter.unusedVariables false

/-! ### one character at a place -/
def B (s : ByteArray) (i : Nat) : Nat := (s.get! i).toNat
theorem B_lt (s : ByteArray) (i : Nat) : B s i < 256 := (s.get! i).toNat_lt
theorem bt_B (s : ByteArray) (i : Nat) (h : i < s.size) : bt s (i : Int) = (B s i : Int) := by
  unfold bt B
  rw [Int.toNat_natCast, dif_pos h]
  congr 2
  simp only [ByteArray.get!]
  exact (getElem!_pos s.data i h).symm
set_option maxRecDepth 100000 in
theorem and192 : ∀ x : Fin 256, (Go.bits .and .u8 ((x.val : Nat) : Int) 192 = 128) ↔ x.val / 64 = 2 := by decide
set_option maxRecDepth 100000 in
theorem and63 : ∀ x : Fin 256, Go.bits .and .u8 ((x.val : Nat) : Int) 63 = ((x.val % 64 : Nat) : Int) := by decide
set_option maxRecDepth 100000 in
theorem and31 : ∀ x : Fin 256, Go.bits .and .u8 ((x.val : Nat) : Int) 31 = ((x.val % 32 : Nat) : Int) := by decide
set_option maxRecDepth 100000 in
theorem and15 : ∀ x : Fin 256, Go.bits .and .u8 ((x.val : Nat) : Int) 15 = ((x.val % 16 : Nat) : Int) := by decide
set_option maxRecDepth 100000 in
theorem and7 : ∀ x : Fin 256, Go.bits .and .u8 ((x.val : Nat) : Int) 7 = ((x.val % 8 : Nat) : Int) := by decide
theorem and192' (b : Nat) (h : b < 256) : (Go.bits .and .u8 (b : Int) 192 = 128) ↔ b / 64 = 2 := and192 ⟨b, h⟩
theorem and63' (b : Nat) (h : b < 256) : Go.bits .and .u8 (b : Int) 63 = ((b % 64 : Nat) : Int) := and63 ⟨b, h⟩
theorem and31' (b : Nat) (h : b < 256) : Go.bits .and .u8 (b : Int) 31 = ((b % 32 : Nat) : Int) := and31 ⟨b, h⟩
theorem and15' (b : Nat) (h : b < 256) : Go.bits .and .u8 (b : Int) 15 = ((b % 16 : Nat) : Int) := and15 ⟨b, h⟩
theorem and7' (b : Nat) (h : b < 256) : Go.bits .and .u8 (b : Int) 7 = ((b % 8 : Nat) : Int) := and7 ⟨b, h⟩
theorem wrap32_small (x : Int) (h0 : 0 ≤ x) (h1 : x < 2147483648) : wrap32 x = x := by unfold wrap32; omega
theorem wrap64_small (x : Int) (h0 : 0 ≤ x) (h1 : x < 9223372036854775808) : wrap64 x = x := by unfold wrap64; omega

theorem l0_step (s : ByteArray) (i n r j : Nat) (least : Int) (k : Nat) (hs : s.size ≤ 140737488351232) (hn : n ≤ 4) (hj : j < n) (hr : r < 33554432) (hi : i + j < s.size) :
    brackenref1_One.l0 (k + 1) s (i : Int) (n : Int) (r : Int) least (j : Int) =
      if B s (i + j) / 64 = 2 then brackenref1_One.l0 k s (i : Int) (n : Int) ((r * 64 + B s (i + j) % 64 : Nat) : Int) least ((j + 1 : Nat) : Int) else some (0, 0) := by
  have e1 : wrap64 ((i : Int) + (j : Int)) = ((i + j : Nat) : Int) := by rw [wrap64_small] <;> omega
  have e2 : wrap64 ((j : Int) + 1) = ((j + 1 : Nat) : Int) := by rw [wrap64_small] <;> omega
  have hb := B_lt s (i + j)
  rw [brackenref1_One.l0, if_pos (by omega), e1, if_pos (by omega), if_pos (by omega), bt_B s _ hi, e2]
  rw [and63' _ hb]
  have e3 : wrap32 ((r : Int) * 64) = (r : Int) * 64 := by rw [wrap32_small] <;> omega
  have e4 : wrap32 ((B s (i + j) % 64 : Nat) : Int) = ((B s (i + j) % 64 : Nat) : Int) := by rw [wrap32_small] <;> omega
  have e5 : Go.bits .or .i32 ((r : Int) * 64) ((B s (i + j) % 64 : Nat) : Int) = (r : Int) * 64 + ((B s (i + j) % 64 : Nat) : Int) := Go.i32_or6 _ _ (by omega) (by omega) (by omega) (by omega) (by omega)
  rw [e3, e4, e5]
  by_cases c : B s (i + j) / 64 = 2
  · rw [if_pos ((and192' _ hb).2 c), if_pos c]
    rfl
  · rw [if_neg (fun h => c ((and192' _ hb).1 h)), if_neg c]
theorem in_f (a b c : Int) : brackenref1_in.f a b c = some (decide (b ≤ a ∧ a ≤ c)) := by
  unfold brackenref1_in.f
  by_cases h : a ≥ b
  · rw [if_pos h]; simp [show b ≤ a from h]
  · rw [if_neg h]; simp [show ¬ b ≤ a from h]
theorem l0_end (s : ByteArray) (i n r : Nat) (least : Nat) (k : Nat) :
    brackenref1_One.l0 (k + 1) s (i : Int) (n : Int) (r : Int) (least : Int) (n : Int) =
      if r < least ∨ r > 1114111 ∨ (55296 ≤ r ∧ r ≤ 57343) then some (0, 0) else some ((r : Int), (n : Int)) := by
  rw [brackenref1_One.l0, if_neg (by omega), in_f]
  simp only [Option.bind_some]
  by_cases c1 : r < least
  · rw [if_pos (by omega), if_pos (.inl c1)]
  · rw [if_neg (by omega)]
    by_cases c2 : r > 1114111
    · rw [if_pos (by omega), if_pos (.inr (.inl c2))]
    · rw [if_neg (by omega)]
      by_cases c3 : 55296 ≤ r ∧ r ≤ 57343
      · rw [if_pos (by rw [decide_eq_true_eq]; omega), if_pos (.inr (.inr c3))]
      · rw [if_neg (by rw [decide_eq_true_eq]; omega), if_neg (by omega)]

def castP (p : Nat × Nat) : Int × Int := ((p.1 : Int), (p.2 : Int))
theorem some_cast_ite {c : Prop} [Decidable c] (a b : Nat × Nat) : (some (castP (if c then a else b)) : Option (Int × Int)) = if c then some (castP a) else some (castP b) := by split <;> rfl

set_option maxRecDepth 100000 in
theorem One_refN (s : ByteArray) (i k : Nat) (hi : i < s.size) (hs : s.size ≤ 140737488351232) (hk : 10 ≤ k) :
    brackenref1_One.f k s (i : Int) = some (castP (refN (s.size - i) (B s i) (B s (i + 1)) (B s (i + 2)) (B s (i + 3)))) := by
  obtain ⟨k, rfl⟩ : ∃ m, k = m + 10 := ⟨k - 10, by omega⟩
  have hb := B_lt s i
  unfold brackenref1_One.f refN
  rw [if_neg (by omega), if_pos (by omega), if_pos (by omega), bt_B s i hi]
  have c0 : ((0 : Int), (0 : Int)) = castP (0, 0) := rfl
  by_cases h1 : B s i < 128
  · rw [if_pos (by omega), if_pos h1, wrap32_small _ (by omega) (by omega)]; rfl
  rw [if_neg (by omega), if_neg h1]
  by_cases h2 : B s i < 192
  · rw [if_neg (by omega), if_pos h2, brackenref1_One.j0, if_neg (by decide), if_neg (by omega), brackenref1_One.j1, if_neg (by decide), if_neg (by omega)]; rfl
  rw [if_pos (by omega), if_neg h2, brackenref1_One.j0]
  by_cases h3 : B s i < 224
  · rw [if_pos (decide_eq_true (by omega)), if_pos h3, brackenref1_One.j2, and31' _ hb, wrap32_small _ (by omega) (by omega), wrap64_small _ (by omega) (by omega)]
    by_cases g : s.size - i < 2
    · rw [if_pos (by omega), if_pos g]; rfl
    · rw [if_neg (by omega), if_neg g]
      have e := l0_step s i 2 (B s i % 32) 1 128 (k + 7) hs (by omega) (by omega) (by omega) (by omega)
      rw [show brackenref1_One.l0 (k + 8) s (i : Int) 2 ((B s i % 32 : Nat) : Int) 128 1 = _ from e]
      by_cases d1 : B s (i + 1) / 64 = 2
      · rw [if_pos d1, if_pos d1]
        rw [show brackenref1_One.l0 (k + 7) s (i : Int) ((2 : Nat) : Int) ((B s i % 32 * 64 + B s (i + 1) % 64 : Nat) : Int) 128 ((1 + 1 : Nat) : Int) = _ from l0_end s i 2 _ 128 (k + 6), some_cast_ite]
        rfl
      · rw [if_neg d1, if_neg d1]; rfl
  rw [if_neg (by rw [decide_eq_true_eq]; omega), if_neg h3, if_pos (by omega), brackenref1_One.j1]
  by_cases h4 : B s i < 240
  · rw [if_pos (decide_eq_true (by omega)), if_pos h4, brackenref1_One.j2, and15' _ hb, wrap32_small _ (by omega) (by omega), wrap64_small _ (by omega) (by omega)]
    by_cases g : s.size - i < 3
    · rw [if_pos (by omega), if_pos g]; rfl
    · rw [if_neg (by omega), if_neg g]
      rw [show brackenref1_One.l0 (k + 7) s (i : Int) 3 ((B s i % 16 : Nat) : Int) 2048 1 = _ from l0_step s i 3 (B s i % 16) 1 2048 (k + 6) hs (by omega) (by omega) (by omega) (by omega)]
      by_cases d1 : B s (i + 1) / 64 = 2
      · rw [if_pos d1, if_pos d1]
        rw [show brackenref1_One.l0 (k + 6) s (i : Int) ((3 : Nat) : Int) ((B s i % 16 * 64 + B s (i + 1) % 64 : Nat) : Int) 2048 ((1 + 1 : Nat) : Int) = _ from l0_step s i 3 _ 2 2048 (k + 5) hs (by omega) (by omega) (by omega) (by omega)]
        by_cases d2 : B s (i + 2) / 64 = 2
        · rw [if_pos d2, if_pos d2]
          rw [show brackenref1_One.l0 (k + 5) s (i : Int) ((3 : Nat) : Int) (((B s i % 16 * 64 + B s (i + 1) % 64) * 64 + B s (i + 2) % 64 : Nat) : Int) 2048 ((2 + 1 : Nat) : Int) = _ from l0_end s i 3 _ 2048 (k + 4), some_cast_ite]
          rfl
        · rw [if_neg d2, if_neg d2]; rfl
      · rw [if_neg d1, if_neg d1]; rfl
  rw [if_neg (by rw [decide_eq_true_eq]; omega), if_neg h4, if_pos (by omega)]
  by_cases h5 : B s i < 248
  · rw [if_pos (by omega), if_pos h5, brackenref1_One.j2, and7' _ hb, wrap32_small _ (by omega) (by omega), wrap64_small _ (by omega) (by omega)]
    by_cases g : s.size - i < 4
    · rw [if_pos (by omega), if_pos g]; rfl
    · rw [if_neg (by omega), if_neg g]
      rw [show brackenref1_One.l0 (k + 7) s (i : Int) 4 ((B s i % 8 : Nat) : Int) 65536 1 = _ from l0_step s i 4 (B s i % 8) 1 65536 (k + 6) hs (by omega) (by omega) (by omega) (by omega)]
      by_cases d1 : B s (i + 1) / 64 = 2
      · rw [if_pos d1, if_pos d1]
        rw [show brackenref1_One.l0 (k + 6) s (i : Int) ((4 : Nat) : Int) ((B s i % 8 * 64 + B s (i + 1) % 64 : Nat) : Int) 65536 ((1 + 1 : Nat) : Int) = _ from l0_step s i 4 _ 2 65536 (k + 5) hs (by omega) (by omega) (by omega) (by omega)]
        by_cases d2 : B s (i + 2) / 64 = 2
        · rw [if_pos d2, if_pos d2]
          rw [show brackenref1_One.l0 (k + 5) s (i : Int) ((4 : Nat) : Int) (((B s i % 8 * 64 + B s (i + 1) % 64) * 64 + B s (i + 2) % 64 : Nat) : Int) 65536 ((2 + 1 : Nat) : Int) = _ from l0_step s i 4 _ 3 65536 (k + 4) hs (by omega) (by omega) (by omega) (by omega)]
          by_cases d3 : B s (i + 3) / 64 = 2
          · rw [if_pos d3, if_pos d3]
            rw [show brackenref1_One.l0 (k + 4) s (i : Int) ((4 : Nat) : Int) ((((B s i % 8 * 64 + B s (i + 1) % 64) * 64 + B s (i + 2) % 64) * 64 + B s (i + 3) % 64 : Nat) : Int) 65536 ((3 + 1 : Nat) : Int) = _ from l0_end s i 4 _ 65536 (k + 3), some_cast_ite]
            rfl
          · rw [if_neg d3, if_neg d3]; rfl
        · rw [if_neg d2, if_neg d2]; rfl
      · rw [if_neg d1, if_neg d1]; rfl
  rw [if_neg (by omega), if_neg h5]
  rfl

theorem One_f (s : ByteArray) (i k : Nat) (hi : i < s.size) (hs : s.size ≤ 140737488351232) (hk : 10 ≤ k) : brackenref1_One.f k s (i : Int) = some (oneR s i) := by
  rw [One_refN s i k hi hs hk, refN_eq _ _ _ _ _ (by omega) (B_lt _ _) (B_lt _ _) (B_lt _ _) (B_lt _ _)]
  have e : Lib.decodeN (s.size - i) (B s i) (B s (i + 1)) (B s (i + 2)) (B s (i + 3)) = Utf8.decode s i := (Lib.decode_at s i).symm
  rw [e]
  unfold oneR okAt
  by_cases c : (Utf8.decode s i).1 = 65533 ∧ (Utf8.decode s i).2 = 1
  · rw [if_pos c, c.1, c.2]; rfl
  · rw [if_neg c, if_pos]
    · rfl
    · by_cases h : (Utf8.decode s i).1 = 65533
      · have h2 : ¬ (Utf8.decode s i).2 = 1 := fun h' => c ⟨h, h'⟩
        simp [h2]
      · simp [h]

/-! ### a name's end -/
theorem ite_p {p : Prop} {i : Decidable p} (d : Bool) : (@ite _ p i (some true) (some d)) = some (decide p || d) := by
  by_cases h : p <;> simp [h]
theorem Char_f (a : Int) : R1.brackenref1_Char.f a = some (charB a) := by
  unfold R1.brackenref1_Char.f charB
  simp only [in_f, Option.bind_some, ite_p]
  congr 1
  rw [Bool.eq_iff_iff]
  simp only [Bool.or_eq_true, decide_eq_true_eq]
  omega
theorem Space_f (a : Int) : R1.brackenref1_Space.f a = some (spaceB a) := by
  unfold R1.brackenref1_Space.f spaceB
  by_cases h1 : a = 32 <;> by_cases h2 : a = 9 <;> by_cases h3 : a = 13 <;> by_cases h4 : a = 10 <;> simp [h1, h2, h3, h4]
theorem Start_f (a : Int) : R1.brackenref1_Start.f a = some (startB a) := by
  unfold R1.brackenref1_Start.f startB
  simp only [in_f, Option.bind_some, ite_p]
  congr 1
  rw [Bool.eq_iff_iff]
  simp only [Bool.or_eq_true, decide_eq_true_eq]
  omega
theorem Part_f (a : Int) : R1.brackenref1_Part.f a = some (partB a) := by
  unfold R1.brackenref1_Part.f partB
  rw [Start_f]
  simp only [in_f, Option.bind_some, ite_p]
  congr 1
  unfold moreB
  rw [Bool.eq_iff_iff]
  simp only [Bool.or_eq_true, decide_eq_true_eq]
  cases startB a with
  | true => simp
  | false => simp only [Bool.false_eq_true, false_or]; omega

theorem One_end (s : ByteArray) (k : Nat) : brackenref1_One.f k s (s.size : Int) = some (0, 0) := by
  unfold brackenref1_One.f
  rw [if_pos (by omega)]
theorem run_ends (s : ByteArray) (hs : s.size ≤ 140737488351232) : ∀ (d i k b : Nat), s.size - i = d → i ≤ s.size → d + 10 < k → s.size ≤ i + b →
    ∃ r : Nat, brackenref1_Run.l0 k s 0 (i : Int) = some (r : Int) ∧ r ≤ s.size ∧ ((r = s.size) ↔ goAll (nameQ s) s b i = true) := by
  intro d
  induction d using Nat.strongRecOn with
  | _ d ih =>
  intro i k b hd hi hk hb
  obtain ⟨k, rfl⟩ : ∃ m, k = m + 1 := ⟨k - 1, by omega⟩
  rw [brackenref1_Run.l0]
  by_cases hlt : i < s.size
  · rw [One_f s i k hlt hs (by omega), Option.bind_some]
    obtain ⟨b, rfl⟩ : ∃ m, b = m + 1 := ⟨b - 1, by omega⟩
    rw [goAll_succ _ _ _ _ hlt]
    have hw := width_pos s i hlt
    have hw2 := width_le s i hlt
    rw [show nameQ s i = (okAt s i && (partB (Utf8.decode s i).1 && (!decide (i = 0) || startB (Utf8.decode s i).1))) from rfl]
    unfold oneR
    cases ho : okAt s i with
    | false =>
      refine ⟨i, ?_, hi, ?_⟩
      · simp
      · simp; omega
    | true =>
      simp only [if_true, Bool.true_and]
      rw [if_neg (by omega), Part_f, Option.bind_some]
      cases hp : partB ((Utf8.decode s i).1 : Int) with
      | false =>
        refine ⟨i, ?_, hi, ?_⟩
        · simp
        · simp; omega
      | true =>
        simp only [if_true, Bool.true_and]
        have ew : wrap64 ((i : Int) + ((Utf8.decode s i).2 : Int)) = ((i + (Utf8.decode s i).2 : Nat) : Int) := by rw [wrap64_small] <;> omega
        by_cases h0 : i = 0
        · subst h0
          rw [if_pos (show ((0 : Nat) : Int) = 0 from rfl), Start_f, Option.bind_some]
          cases hst : startB ((Utf8.decode s 0).1 : Int) with
          | false =>
            refine ⟨0, ?_, hi, ?_⟩
            · simp
            · simp; omega
          | true =>
            simp only [if_true]
            rw [ew]
            obtain ⟨r, h1, h2, h3⟩ := ih (s.size - (0 + (Utf8.decode s 0).2)) (by omega) (0 + (Utf8.decode s 0).2) k b rfl (by omega) (by omega) (by omega)
            exact ⟨r, h1, h2, by rw [h3]; simp⟩
        · rw [if_neg (by omega), ew]
          obtain ⟨r, h1, h2, h3⟩ := ih (s.size - (i + (Utf8.decode s i).2)) (by omega) (i + (Utf8.decode s i).2) k b rfl (by omega) (by omega) (by omega)
          exact ⟨r, h1, h2, by rw [h3]; simp [h0]⟩
  · obtain rfl : i = s.size := by omega
    rw [One_end, Option.bind_some]
    refine ⟨s.size, ?_, Nat.le_refl _, ?_⟩
    · simp
    · rw [goAll_end _ _ _ _ hlt]; simp
theorem Name_f (s : ByteArray) (hs : s.size ≤ 140737488351232) (k : Nat) (hk : s.size + 10 < k) : R1.brackenref1_Name.f k s = some (nameB s) := by
  unfold R1.brackenref1_Name.f
  rw [nameB_go]
  by_cases he : s.toList = []
  · rw [if_pos he, he]; rfl
  · rw [if_neg he]
    unfold R1.brackenref1_Run.f
    obtain ⟨r, h1, h2, h3⟩ := run_ends s hs s.size 0 k s.size (by omega) (by omega) (by omega) (by omega)
    rw [show brackenref1_Run.l0 k s 0 0 = _ from h1, Option.bind_some]
    have he2 : s.toList.isEmpty = false := by simpa using he
    rw [he2, Bool.not_false, Bool.true_and]
    congr 1
    rw [Bool.eq_iff_iff, ← h3, beq_iff_eq]
    omega

/-! ### names without a colon, split names, blank texts -/
theorem get_B (s : ByteArray) (i : Nat) (h : i < s.size) : s.data.toList[i]'h = s.get! i := by
  simp only [ByteArray.get!]
  exact (getElem!_pos s.data i h).symm
theorem B_58 (s : ByteArray) (i : Nat) (h : i < s.size) : ((B s i : Int) = 58) ↔ s.data.toList[i]'h = 58 := by
  rw [get_B s i h]
  unfold B
  constructor
  · intro h1
    apply UInt8.toNat_inj.mp
    have : (s.get! i).toNat = 58 := by omega
    rw [this]; rfl
  · intro h1; rw [h1]; rfl
theorem nc_loop (s : ByteArray) (hs : s.size ≤ 140737488351232) : ∀ (d i k : Nat), s.size - i = d → i ≤ s.size → d + s.size + 11 < k →
    R1.brackenref1_NCName.l0 k s (i : Int) = some (nameB s && !((s.data.toList.drop i).contains 58)) := by
  intro d
  induction d with
  | zero =>
    intro i k h1 h2 hk
    obtain ⟨k, rfl⟩ : ∃ m, k = m + 1 := ⟨k - 1, by omega⟩
    rw [R1.brackenref1_NCName.l0, if_neg (by omega), Name_f s hs k (by omega), List.drop_eq_nil_of_le (show s.size ≤ i by omega)]
    simp
  | succ d ih =>
    intro i k h1 h2 hk
    obtain ⟨k, rfl⟩ : ∃ m, k = m + 1 := ⟨k - 1, by omega⟩
    have hi : i < s.size := by omega
    have hl : i < s.data.toList.length := hi
    rw [R1.brackenref1_NCName.l0, if_pos (by omega), if_pos (by omega), bt_B s i hi, List.drop_eq_getElem_cons hl, List.contains_cons]
    by_cases c : (B s i : Int) = 58
    · rw [if_pos c, (B_58 s i hi).1 c]; simp
    · rw [if_neg c]
      have e : wrap64 ((i : Int) + 1) = ((i + 1 : Nat) : Int) := by rw [wrap64_small] <;> omega
      rw [e, ih (i + 1) k (by omega) (by omega) (by omega)]
      have : ((58 : UInt8) == s.data.toList[i]) = false := by
        rw [beq_eq_false_iff_ne]
        exact fun h => c ((B_58 s i hi).2 h.symm)
      rw [this, Bool.false_or]
theorem NCName_f (s : ByteArray) (hs : s.size ≤ 140737488351232) (k : Nat) (hk : 2 * s.size + 11 < k) : R1.brackenref1_NCName.f k s = some (ncB s) := by
  unfold R1.brackenref1_NCName.f
  have := nc_loop s hs s.size 0 k (by omega) (by omega) (by omega)
  rw [List.drop_zero] at this
  exact this
theorem ext_size (s : ByteArray) (a b : Nat) (h : b ≤ s.size) : (s.extract a b).size = b - a := by
  simp only [ByteArray.size_extract]; omega
/-! ### the contracts -/
def brackenref1_Char.f (a0 : Int) : Option Bool := some (charB a0)
theorem brackenref1_Char.calls (a0 : Int) (r : Bool) (w : World) (h : brackenref1_Char.f a0 = some r) :
    Calls Tryz.prog 26 #[.int .i32 a0] w fun e w' => e = .returned (.bool r) ∧ Drawn0 w w' := R1.brackenref1_Char.calls a0 r w ((Char_f a0).trans h)
def brackenref1_Space.f (a0 : Int) : Option Bool := some (spaceB a0)
theorem brackenref1_Space.calls (a0 : Int) (r : Bool) (w : World) (h : brackenref1_Space.f a0 = some r) :
    Calls Tryz.prog 45 #[.int .i32 a0] w fun e w' => e = .returned (.bool r) ∧ Drawn0 w w' := R1.brackenref1_Space.calls a0 r w ((Space_f a0).trans h)
def brackenref1_Start.f (a0 : Int) : Option Bool := some (startB a0)
theorem brackenref1_Start.calls (a0 : Int) (r : Bool) (w : World) (h : brackenref1_Start.f a0 = some r) :
    Calls Tryz.prog 127 #[.int .i32 a0] w fun e w' => e = .returned (.bool r) ∧ Drawn0 w w' := R1.brackenref1_Start.calls a0 r w ((Start_f a0).trans h)
def brackenref1_Part.f (a0 : Int) : Option Bool := some (partB a0)
theorem brackenref1_Part.calls (a0 : Int) (r : Bool) (w : World) (h : brackenref1_Part.f a0 = some r) :
    Calls Tryz.prog 126 #[.int .i32 a0] w fun e w' => e = .returned (.bool r) ∧ Drawn0 w w' := R1.brackenref1_Part.calls a0 r w ((Part_f a0).trans h)
def brackenref1_Name.f (a0 : ByteArray) : Option Bool := if a0.size ≤ 140737488351232 then some (nameB a0) else none
theorem brackenref1_Name.calls (a0 : ByteArray) (r : Bool) (w : World) (h : brackenref1_Name.f a0 = some r) :
    Calls Tryz.prog 94 #[.string a0] w fun e w' => e = .returned (.bool r) ∧ Drawn0 w w' := by
  unfold brackenref1_Name.f at h
  by_cases hs : a0.size ≤ 140737488351232
  · rw [if_pos hs] at h; exact R1.brackenref1_Name.calls _ a0 r w ((Name_f a0 hs (a0.size + 11) (by omega)).trans h)
  · rw [if_neg hs] at h; cases h
def brackenref1_NCName.f (a0 : ByteArray) : Option Bool := if a0.size ≤ 140737488351232 then some (ncB a0) else none
theorem brackenref1_NCName.calls (a0 : ByteArray) (r : Bool) (w : World) (h : brackenref1_NCName.f a0 = some r) :
    Calls Tryz.prog 68 #[.string a0] w fun e w' => e = .returned (.bool r) ∧ Drawn0 w w' := by
  unfold brackenref1_NCName.f at h
  by_cases hs : a0.size ≤ 140737488351232
  · rw [if_pos hs] at h; exact R1.brackenref1_NCName.calls _ a0 r w ((NCName_f a0 hs (2 * a0.size + 12) (by omega)).trans h)
  · rw [if_neg hs] at h; cases h
/-! ### Valid -/
def charsB (s : ByteArray) : Bool := goAll (fun i => okAt s i && charB (Utf8.decode s i).1) s s.size 0
theorem valid_loop (s : ByteArray) (hs : s.size ≤ 140737488351232) : ∀ (d i k b : Nat), s.size - i = d → i ≤ s.size → d + 11 < k → s.size ≤ i + b →
    R1.brackenref1_Valid.l0 k s (i : Int) = some (goAll (fun j => okAt s j && charB (Utf8.decode s j).1) s b i) := by
  intro d
  induction d using Nat.strongRecOn with
  | _ d ih =>
  intro i k b hd hi hk hb
  obtain ⟨k, rfl⟩ : ∃ m, k = m + 1 := ⟨k - 1, by omega⟩
  rw [R1.brackenref1_Valid.l0]
  by_cases hlt : i < s.size
  · rw [if_pos (by omega), One_f s i k hlt hs (by omega), Option.bind_some]
    obtain ⟨b, rfl⟩ : ∃ m, b = m + 1 := ⟨b - 1, by omega⟩
    rw [goAll_succ _ _ _ _ hlt]
    have hw := width_pos s i hlt
    have hw2 := width_le s i hlt
    unfold oneR
    cases ho : okAt s i with
    | false => simp
    | true =>
      simp only [if_true, Bool.true_and]
      rw [if_neg (by omega), Char_f, Option.bind_some]
      cases hp : charB ((Utf8.decode s i).1 : Int) with
      | false => simp
      | true =>
        simp only [if_true, Bool.true_and]
        have ew : wrap64 ((i : Int) + ((Utf8.decode s i).2 : Int)) = ((i + (Utf8.decode s i).2 : Nat) : Int) := by rw [wrap64_small] <;> omega
        rw [ew]
        exact ih (s.size - (i + (Utf8.decode s i).2)) (by omega) (i + (Utf8.decode s i).2) k b rfl (by omega) (by omega) (by omega)
  · rw [if_neg (by omega), goAll_end _ _ _ _ hlt]
theorem Valid_f (s : ByteArray) (hs : s.size ≤ 140737488351232) (k : Nat) (hk : s.size + 11 < k) : R1.brackenref1_Valid.f k s = some (charsB s) :=
  valid_loop s hs s.size 0 k s.size (by omega) (by omega) (by omega) (by omega)
def brackenref1_Valid.f (a0 : ByteArray) : Option Bool := if a0.size ≤ 140737488351232 then some (charsB a0) else none
theorem brackenref1_Valid.calls (a0 : ByteArray) (r : Bool) (w : World) (h : brackenref1_Valid.f a0 = some r) :
    Calls Tryz.prog 12 #[.string a0] w fun e w' => e = .returned (.bool r) ∧ Drawn0 w w' := by
  unfold brackenref1_Valid.f at h
  by_cases hs : a0.size ≤ 140737488351232
  · rw [if_pos hs] at h; exact R1.brackenref1_Valid.calls _ a0 r w ((Valid_f a0 hs (a0.size + 12) (by omega)).trans h)
  · rw [if_neg hs] at h; cases h
end Go.Proofs.YtmjdjpelhhibgaaGreatDoor.Ref
