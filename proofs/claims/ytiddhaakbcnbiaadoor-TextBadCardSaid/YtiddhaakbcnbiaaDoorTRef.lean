/- The document's own Valid and Ends answer as the specification says. -/
import Derived.Test.YtiddhaakbcnbiaaDoorTGiv
namespace Go.Proofs.YtiddhaakbcnbiaaDoor.TGiv
open Go.RowKit Go.Proofs.YtiddhaakbcnbiaaDoorW.PrintWords Go.Proofs.YtiddhaakbcnbiaaDoorW.PrintLast Go.Proofs.YtiddhaakbcnbiaaDoor.R0 Go.Proofs.YtiddhaakbcnbiaaDoor.Spec Go.Proofs.YtiddhaakbcnbiaaDoor.Giv Go.Proofs.YtiddhaakbcnbiaaDoor.Txt Go.Proofs.YtiddhaakbcnbiaaDoor.Ref
set_option linter.unusedVariables false

theorem valid_loop (s : ByteArray) (hs : s.size ≤ 140737488351232) : ∀ (d i k b : Nat), s.size - i = d → i ≤ s.size → d + 11 < k → s.size ≤ i + b →
    R0.brackenref1_Valid.l0 k s (i : Int) = some (goAll (fun j => okAt s j && charB (Utf8.decode s j).1) s b i) := by
  intro d
  induction d using Nat.strongRecOn with
  | _ d ih =>
  intro i k b hd hi hk hb
  obtain ⟨k, rfl⟩ : ∃ m, k = m + 1 := ⟨k - 1, by omega⟩
  rw [R0.brackenref1_Valid.l0]
  by_cases hlt : i < s.size
  · rw [if_pos (by omega), One_f s i k hlt hs (by omega), Option.bind_some]
    obtain ⟨b, rfl⟩ : ∃ m, b = m + 1 := ⟨b - 1, by omega⟩
    rw [goAll_succ _ _ _ _ hlt]
    have hw := width_pos s i hlt
    have hw2 := width_le s i hlt
    unfold oneR
    cases ho : okAt s i with
    | false => simp
    | true =>
      simp only [if_true, Bool.true_and]
      rw [if_neg (by omega), Ref.Char_f, Option.bind_some]
      cases hp : charB ((Utf8.decode s i).1 : Int) with
      | false => simp
      | true =>
        simp only [if_true, Bool.true_and]
        have ew : wrap64 ((i : Int) + ((Utf8.decode s i).2 : Int)) = ((i + (Utf8.decode s i).2 : Nat) : Int) := by rw [wrap64_small] <;> omega
        rw [ew]
        exact ih (s.size - (i + (Utf8.decode s i).2)) (by omega) (i + (Utf8.decode s i).2) k b rfl (by omega) (by omega) (by omega)
  · rw [if_neg (by omega), goAll_end _ _ _ _ hlt]
theorem Valid_f (s : ByteArray) (hs : s.size ≤ 140737488351232) (k : Nat) (hk : s.size + 11 < k) : R0.brackenref1_Valid.f k s = some (charsB s) :=
  valid_loop s hs s.size 0 k s.size (by omega) (by omega) (by omega) (by omega)
def brackenref1_Valid.f (a0 : ByteArray) : Option Bool := if a0.size ≤ 140737488351232 then some (charsB a0) else none
theorem brackenref1_Valid.calls (a0 : ByteArray) (r : Bool) (w : World) (h : brackenref1_Valid.f a0 = some r) :
    Calls Tryd.prog 37 #[.string a0] w fun e w' => e = .returned (.bool r) ∧ Drawn0 w w' := by
  unfold brackenref1_Valid.f at h
  by_cases hs : a0.size ≤ 140737488351232
  · rw [if_pos hs] at h; exact R0.brackenref1_Valid.calls _ a0 r w ((Valid_f a0 hs (a0.size + 12) (by omega)).trans h)
  · rw [if_neg hs] at h; cases h

def numsOf (l : List UInt8) : List Int := l.map fun b => (b.toNat : Int)
theorem str_nums (l : List UInt8) : strOfNums (numsOf l) = ⟨l.toArray⟩ := by
  unfold strOfNums numsOf
  congr 2
  rw [List.map_map]
  conv => rhs; rw [← List.map_id l]
  apply List.map_congr_left
  intro b _
  show UInt8.ofNat ((b.toNat : Int)).toNat = b
  rw [Int.toNat_natCast]
  exact UInt8.ofNat_toNat
theorem drop_B (s : ByteArray) (i : Nat) (hi : i < s.size) : s.data.toList.drop i = s.get! i :: s.data.toList.drop (i + 1) := by
  rw [List.drop_eq_getElem_cons (by rw [list_size]; exact hi), get_B s i hi]
theorem B_eq (s : ByteArray) (i : Nat) (x : UInt8) : ((B s i : Int) = (x.toNat : Int)) ↔ s.get! i = x := by
  unfold B
  constructor
  · intro h; exact UInt8.toNat_inj.1 (by omega)
  · intro h; rw [h]
theorem ends_loop (s : ByteArray) (hs : s.size < 1000000000) : ∀ (d i k : Nat) (acc : List Int), s.size - i = d → i ≤ s.size → 2 * d + 1 < k → acc.length ≤ i →
    R4.brackenref1_Ends.l0 k s acc (i : Int) = some (strOfNums (acc ++ numsOf (endsL (s.data.toList.drop i)))) := by
  intro d
  induction d with
  | zero =>
    intro i k acc hd hi hk ha
    obtain ⟨k, rfl⟩ : ∃ m, k = m + 1 := ⟨k - 1, by omega⟩
    rw [R4.brackenref1_Ends.l0, if_neg (by omega), List.drop_eq_nil_of_le (by rw [list_size]; omega)]
    simp [endsL, numsOf]
  | succ d ih =>
    intro i k acc hd hi hk ha
    obtain ⟨k, rfl⟩ : ∃ m, k = m + 2 := ⟨k - 2, by omega⟩
    have hlt : i < s.size := by omega
    have ew : wrap64 ((i : Int) + 1) = ((i + 1 : Nat) : Int) := by rw [wrap64_small] <;> omega
    have hB := bt_B s i hlt
    rw [R4.brackenref1_Ends.l0, if_pos (by omega), if_pos (by omega), ew, hB, drop_B s i hlt, endsL]
    have hh : (s.data.toList.drop (i + 1)).head? = if i + 1 < s.size then some (s.get! (i + 1)) else none := by
      by_cases h2 : i + 1 < s.size
      · rw [if_pos h2, drop_B s (i + 1) h2]; rfl
      · rw [if_neg h2, List.drop_eq_nil_of_le (by rw [list_size]; omega)]; rfl
    have hj : ∀ (c : Bool), c = false → R4.brackenref1_Ends.j1 (k + 1) s acc (i : Int) c = some (strOfNums (acc ++ numsOf ((if s.get! i = 13 then 10 else s.get! i) :: endsL (s.data.toList.drop (i + 1))))) := by
      intro c hc
      subst hc
      rw [R4.brackenref1_Ends.j1, if_neg (by simp), if_pos (by omega), if_pos (by omega), hB, ew]
      have h13 : ((B s i : Int) = 13) ↔ s.get! i = 13 := B_eq s i 13
      by_cases h : s.get! i = 13
      · rw [if_pos (h13.2 h), if_pos (by omega), ih (i + 1) k _ (by omega) (by omega) (by omega) (by simp; omega), if_pos h]
        simp [numsOf]
      · rw [if_neg (fun h' => h (h13.1 h')), if_pos (by omega), ih (i + 1) k _ (by omega) (by omega) (by omega) (by simp; omega), if_neg h]
        simp [numsOf, B]
    have h13 : ((B s i : Int) = 13) ↔ s.get! i = 13 := B_eq s i 13
    by_cases h : s.get! i = 13
    · rw [if_pos (h13.2 h), if_pos h, hh]
      by_cases h2 : i + 1 < s.size
      · have h10 : ((B s (i + 1) : Int) = 10) ↔ s.get! (i + 1) = 10 := B_eq s (i + 1) 10
        rw [if_pos (by omega), if_pos (by omega), if_pos h2, bt_B s (i + 1) h2]
        by_cases h3 : s.get! (i + 1) = 10
        · have e3 : ((B s (i + 1) : Int) == 10) = true := by rw [beq_iff_eq]; exact h10.2 h3
          rw [e3, h3, if_pos rfl, R4.brackenref1_Ends.j1, if_pos rfl, ew]
          exact ih (i + 1) k acc (by omega) (by omega) (by omega) (by omega)
        · have e3 : ((B s (i + 1) : Int) == 10) = false := by rw [beq_eq_false_iff_ne]; exact fun h' => h3 (h10.1 h')
          rw [e3, hj false rfl, if_pos h, if_neg (by simpa using h3)]
      · rw [if_neg (by omega), if_neg h2, hj false rfl, if_pos h, if_neg (by simp)]
    · rw [if_neg (fun h' => h (h13.1 h')), if_neg h, hj false rfl, if_neg h]
theorem REnds_f (s : ByteArray) (hs : s.size < 1000000000) (k : Nat) (hk : 2 * s.size + 1 < k) : R4.brackenref1_Ends.f k s = some (endsB s) := by
  unfold R4.brackenref1_Ends.f
  rw [if_pos (by omega), if_pos (by omega)]
  have := ends_loop s hs s.size 0 k [] (by omega) (by omega) hk (Nat.le_refl _)
  rw [List.drop_zero, List.nil_append, str_nums] at this
  exact this
def brackenref1_Ends.f (a0 : ByteArray) : Option ByteArray := if a0.size < 1000000000 then some (endsB a0) else none
theorem brackenref1_Ends.calls (a0 : ByteArray) (r : ByteArray) (w : World) (h : brackenref1_Ends.f a0 = some r) :
    Calls Tryd.prog 39 #[.string a0] w fun e w' => e = .returned (.string r) ∧ Below w.heap.size w w' := by
  unfold brackenref1_Ends.f at h
  by_cases hs : a0.size < 1000000000
  · rw [if_pos hs] at h; exact R4.brackenref1_Ends.calls _ a0 r w ((REnds_f a0 hs (2 * a0.size + 2) (by omega)).trans h)
  · rw [if_neg hs] at h; cases h

end Go.Proofs.YtiddhaakbcnbiaaDoor.TGiv
