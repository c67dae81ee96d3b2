/- What ValueNested's 18 cases come to: reckoned. -/
import Derived.Test.YtmjdjpelhhibgaaGreatDoorVNestP
namespace Go.Proofs.YtmjdjpelhhibgaaGreatDoor.Val
open Go Go.Proofs.YtmjdjpelhhibgaaGreatDoor.Rf Go.Proofs.YtmjdjpelhhibgaaGreatDoor.Spec
set_option linter.unusedVariables false
/-- k references to one name. -/
def refs (k : Nat) (c : UInt8) : List UInt8 := (List.replicate k [38, c, 59]).flatten
def nmC (i : Nat) : UInt8 := UInt8.ofNat (97 + i)
/-- The entities: each but the first holds the one ahead of it, k times. -/
def nestE (k : Nat) : Nat → List Ent
  | 0 => [⟨⟨#[97]⟩, ⟨#[120]⟩, false⟩]
  | i + 1 => nestE k i ++ [⟨⟨#[nmC (i + 1)]⟩, ⟨(refs k (nmC i)).toArray⟩, false⟩]
def nestT (k : Nat) : Nat → List UInt8
  | 0 => [120]
  | i + 1 => (List.replicate k (nestT k i)).flatten
def nestC (k : Nat) : Nat → Nat
  | 0 => 1
  | i + 1 => k * nestC k i + 3 * k
theorem ok_1_1 : runT (nestE 1 0) (nestC 1 0 : Nat) 60 false [38, nmC 0, 59] ⟨[], [], 0⟩ = some (0, ⟨nestT 1 0, [], (nestC 1 0 : Nat)⟩) := by kernel_rfl
theorem no_1_1 : (runT (nestE 1 0) ((nestC 1 0 : Nat) - 1) 60 false [38, nmC 0, 59] ⟨[], [], 0⟩).map (·.1) = some 3 := by kernel_rfl
theorem ok_1_2 : runT (nestE 2 0) (nestC 2 0 : Nat) 60 false [38, nmC 0, 59] ⟨[], [], 0⟩ = some (0, ⟨nestT 2 0, [], (nestC 2 0 : Nat)⟩) := by kernel_rfl
theorem no_1_2 : (runT (nestE 2 0) ((nestC 2 0 : Nat) - 1) 60 false [38, nmC 0, 59] ⟨[], [], 0⟩).map (·.1) = some 3 := by kernel_rfl
theorem ok_1_3 : runT (nestE 3 0) (nestC 3 0 : Nat) 60 false [38, nmC 0, 59] ⟨[], [], 0⟩ = some (0, ⟨nestT 3 0, [], (nestC 3 0 : Nat)⟩) := by kernel_rfl
theorem no_1_3 : (runT (nestE 3 0) ((nestC 3 0 : Nat) - 1) 60 false [38, nmC 0, 59] ⟨[], [], 0⟩).map (·.1) = some 3 := by kernel_rfl
theorem ok_2_1 : runT (nestE 1 1) (nestC 1 1 : Nat) 60 false [38, nmC 1, 59] ⟨[], [], 0⟩ = some (0, ⟨nestT 1 1, [], (nestC 1 1 : Nat)⟩) := by kernel_rfl
theorem no_2_1 : (runT (nestE 1 1) ((nestC 1 1 : Nat) - 1) 60 false [38, nmC 1, 59] ⟨[], [], 0⟩).map (·.1) = some 3 := by kernel_rfl
theorem ok_2_2 : runT (nestE 2 1) (nestC 2 1 : Nat) 60 false [38, nmC 1, 59] ⟨[], [], 0⟩ = some (0, ⟨nestT 2 1, [], (nestC 2 1 : Nat)⟩) := by kernel_rfl
theorem no_2_2 : (runT (nestE 2 1) ((nestC 2 1 : Nat) - 1) 60 false [38, nmC 1, 59] ⟨[], [], 0⟩).map (·.1) = some 3 := by kernel_rfl
theorem ok_2_3 : runT (nestE 3 1) (nestC 3 1 : Nat) 60 false [38, nmC 1, 59] ⟨[], [], 0⟩ = some (0, ⟨nestT 3 1, [], (nestC 3 1 : Nat)⟩) := by kernel_rfl
theorem no_2_3 : (runT (nestE 3 1) ((nestC 3 1 : Nat) - 1) 60 false [38, nmC 1, 59] ⟨[], [], 0⟩).map (·.1) = some 3 := by kernel_rfl
theorem ok_3_1 : runT (nestE 1 2) (nestC 1 2 : Nat) 60 false [38, nmC 2, 59] ⟨[], [], 0⟩ = some (0, ⟨nestT 1 2, [], (nestC 1 2 : Nat)⟩) := by kernel_rfl
theorem no_3_1 : (runT (nestE 1 2) ((nestC 1 2 : Nat) - 1) 60 false [38, nmC 2, 59] ⟨[], [], 0⟩).map (·.1) = some 3 := by kernel_rfl
theorem ok_3_2 : runT (nestE 2 2) (nestC 2 2 : Nat) 60 false [38, nmC 2, 59] ⟨[], [], 0⟩ = some (0, ⟨nestT 2 2, [], (nestC 2 2 : Nat)⟩) := by kernel_rfl
theorem no_3_2 : (runT (nestE 2 2) ((nestC 2 2 : Nat) - 1) 60 false [38, nmC 2, 59] ⟨[], [], 0⟩).map (·.1) = some 3 := by kernel_rfl
theorem ok_3_3 : runT (nestE 3 2) (nestC 3 2 : Nat) 60 false [38, nmC 2, 59] ⟨[], [], 0⟩ = some (0, ⟨nestT 3 2, [], (nestC 3 2 : Nat)⟩) := by kernel_rfl
theorem no_3_3 : (runT (nestE 3 2) ((nestC 3 2 : Nat) - 1) 60 false [38, nmC 2, 59] ⟨[], [], 0⟩).map (·.1) = some 3 := by kernel_rfl
theorem ok_4_1 : runT (nestE 1 3) (nestC 1 3 : Nat) 60 false [38, nmC 3, 59] ⟨[], [], 0⟩ = some (0, ⟨nestT 1 3, [], (nestC 1 3 : Nat)⟩) := by kernel_rfl
theorem no_4_1 : (runT (nestE 1 3) ((nestC 1 3 : Nat) - 1) 60 false [38, nmC 3, 59] ⟨[], [], 0⟩).map (·.1) = some 3 := by kernel_rfl
theorem ok_4_2 : runT (nestE 2 3) (nestC 2 3 : Nat) 60 false [38, nmC 3, 59] ⟨[], [], 0⟩ = some (0, ⟨nestT 2 3, [], (nestC 2 3 : Nat)⟩) := by kernel_rfl
theorem no_4_2 : (runT (nestE 2 3) ((nestC 2 3 : Nat) - 1) 60 false [38, nmC 3, 59] ⟨[], [], 0⟩).map (·.1) = some 3 := by kernel_rfl
theorem ok_4_3 : runT (nestE 3 3) (nestC 3 3 : Nat) 60 false [38, nmC 3, 59] ⟨[], [], 0⟩ = some (0, ⟨nestT 3 3, [], (nestC 3 3 : Nat)⟩) := by kernel_rfl
theorem no_4_3 : (runT (nestE 3 3) ((nestC 3 3 : Nat) - 1) 60 false [38, nmC 3, 59] ⟨[], [], 0⟩).map (·.1) = some 3 := by kernel_rfl
theorem ok_5_1 : runT (nestE 1 4) (nestC 1 4 : Nat) 60 false [38, nmC 4, 59] ⟨[], [], 0⟩ = some (0, ⟨nestT 1 4, [], (nestC 1 4 : Nat)⟩) := by kernel_rfl
theorem no_5_1 : (runT (nestE 1 4) ((nestC 1 4 : Nat) - 1) 60 false [38, nmC 4, 59] ⟨[], [], 0⟩).map (·.1) = some 3 := by kernel_rfl
theorem ok_5_2 : runT (nestE 2 4) (nestC 2 4 : Nat) 60 false [38, nmC 4, 59] ⟨[], [], 0⟩ = some (0, ⟨nestT 2 4, [], (nestC 2 4 : Nat)⟩) := by kernel_rfl
theorem no_5_2 : (runT (nestE 2 4) ((nestC 2 4 : Nat) - 1) 60 false [38, nmC 4, 59] ⟨[], [], 0⟩).map (·.1) = some 3 := by kernel_rfl
theorem ok_5_3 : runT (nestE 3 4) (nestC 3 4 : Nat) 60 false [38, nmC 4, 59] ⟨[], [], 0⟩ = some (0, ⟨nestT 3 4, [], (nestC 3 4 : Nat)⟩) := by kernel_rfl
theorem no_5_3 : (runT (nestE 3 4) ((nestC 3 4 : Nat) - 1) 60 false [38, nmC 4, 59] ⟨[], [], 0⟩).map (·.1) = some 3 := by kernel_rfl
theorem ok_6_1 : runT (nestE 1 5) (nestC 1 5 : Nat) 60 false [38, nmC 5, 59] ⟨[], [], 0⟩ = some (0, ⟨nestT 1 5, [], (nestC 1 5 : Nat)⟩) := by kernel_rfl
theorem no_6_1 : (runT (nestE 1 5) ((nestC 1 5 : Nat) - 1) 60 false [38, nmC 5, 59] ⟨[], [], 0⟩).map (·.1) = some 3 := by kernel_rfl
theorem ok_6_2 : runT (nestE 2 5) (nestC 2 5 : Nat) 60 false [38, nmC 5, 59] ⟨[], [], 0⟩ = some (0, ⟨nestT 2 5, [], (nestC 2 5 : Nat)⟩) := by kernel_rfl
theorem no_6_2 : (runT (nestE 2 5) ((nestC 2 5 : Nat) - 1) 60 false [38, nmC 5, 59] ⟨[], [], 0⟩).map (·.1) = some 3 := by kernel_rfl
theorem ok_6_3 : runT (nestE 3 5) (nestC 3 5 : Nat) 60 false [38, nmC 5, 59] ⟨[], [], 0⟩ = some (0, ⟨nestT 3 5, [], (nestC 3 5 : Nat)⟩) := by kernel_rfl
theorem no_6_3 : (runT (nestE 3 5) ((nestC 3 5 : Nat) - 1) 60 false [38, nmC 5, 59] ⟨[], [], 0⟩).map (·.1) = some 3 := by kernel_rfl
theorem nest_ok (i k : Nat) (hi : i < 6) (hk0 : 1 ≤ k) (hk : k ≤ 3) (m : Int) (hm : (nestC k i : Int) ≤ m) : runT (nestE k i) m 60 false [38, nmC i, 59] ⟨[], [], 0⟩ = some (0, ⟨nestT k i, [], (nestC k i : Int)⟩) := by
  refine runT_ge _ m _ hm _ _ _ _ _ ?_ (by show (0 : Int) ≠ 3; decide)
  match i, k, hi, hk0, hk with
  | 0, 1, _, _, _ => exact ok_1_1
  | 0, 2, _, _, _ => exact ok_1_2
  | 0, 3, _, _, _ => exact ok_1_3
  | 1, 1, _, _, _ => exact ok_2_1
  | 1, 2, _, _, _ => exact ok_2_2
  | 1, 3, _, _, _ => exact ok_2_3
  | 2, 1, _, _, _ => exact ok_3_1
  | 2, 2, _, _, _ => exact ok_3_2
  | 2, 3, _, _, _ => exact ok_3_3
  | 3, 1, _, _, _ => exact ok_4_1
  | 3, 2, _, _, _ => exact ok_4_2
  | 3, 3, _, _, _ => exact ok_4_3
  | 4, 1, _, _, _ => exact ok_5_1
  | 4, 2, _, _, _ => exact ok_5_2
  | 4, 3, _, _, _ => exact ok_5_3
  | 5, 1, _, _, _ => exact ok_6_1
  | 5, 2, _, _, _ => exact ok_6_2
  | 5, 3, _, _, _ => exact ok_6_3
theorem nest_no (i k : Nat) (hi : i < 6) (hk0 : 1 ≤ k) (hk : k ≤ 3) (m : Int) (hm : m < (nestC k i : Int)) : ∃ st, runT (nestE k i) m 60 false [38, nmC i, 59] ⟨[], [], 0⟩ = some (3, st) := by
  have h : (runT (nestE k i) ((nestC k i : Nat) - 1) 60 false [38, nmC i, 59] ⟨[], [], 0⟩).map (·.1) = some 3 := by
    match i, k, hi, hk0, hk with
    | 0, 1, _, _, _ => exact no_1_1
    | 0, 2, _, _, _ => exact no_1_2
    | 0, 3, _, _, _ => exact no_1_3
    | 1, 1, _, _, _ => exact no_2_1
    | 1, 2, _, _, _ => exact no_2_2
    | 1, 3, _, _, _ => exact no_2_3
    | 2, 1, _, _, _ => exact no_3_1
    | 2, 2, _, _, _ => exact no_3_2
    | 2, 3, _, _, _ => exact no_3_3
    | 3, 1, _, _, _ => exact no_4_1
    | 3, 2, _, _, _ => exact no_4_2
    | 3, 3, _, _, _ => exact no_4_3
    | 4, 1, _, _, _ => exact no_5_1
    | 4, 2, _, _, _ => exact no_5_2
    | 4, 3, _, _, _ => exact no_5_3
    | 5, 1, _, _, _ => exact no_6_1
    | 5, 2, _, _, _ => exact no_6_2
    | 5, 3, _, _, _ => exact no_6_3
  cases hz : runT (nestE k i) ((nestC k i : Nat) - 1) 60 false [38, nmC i, 59] ⟨[], [], 0⟩ with
  | none => rw [hz] at h; cases h
  | some q =>
    rw [hz] at h
    obtain ⟨c, st⟩ := q
    obtain rfl : c = 3 := by simpa using h
    rcases runT_le _ m _ (by omega) _ _ _ _ _ hz with h1 | ⟨s, h1⟩
    · exact ⟨st, h1⟩
    · exact ⟨s, h1⟩
end Go.Proofs.YtmjdjpelhhibgaaGreatDoor.Val
