/- The law's own look at a few texts; a number out of a few. -/
import Derived.Test.YtmjdjpelhhibgaaDoorR3x3
namespace Go.Proofs.YtmjdjpelhhibgaaDoor.DP
open Go Go.RowKit Go.Proofs.YtmjdjpelhhibgaaDoor.Giv Go.Proofs.YtmjdjpelhhibgaaDoor.Spec Go.Proofs.YtmjdjpelhhibgaaDoor.DS Go.Proofs.YtmjdjpelhhibgaaDoor.R3 Go.Proofs.YtmjdjpelhhibgaaDoorW.PrintWords Go.Proofs.YtmjdjpelhhibgaaDoorW.PrintLast
set_option linter.unusedVariables false
set_option linter.unusedSimpArgs false
set_option maxRecDepth 100000 in
theorem told_true : brackenlaw11_told.f = some true := by decide +kernel
theorem wrap_nat (x : Int) : ∃ m : Nat, IntKind.u64.wrap x = (m : Int) ∧ m < 18446744073709551616 := by
  have hw : 0 ≤ IntKind.u64.wrap x ∧ IntKind.u64.wrap x < 18446744073709551616 := by unfold IntKind.wrap; simp [IntKind.bits, IntKind.signed]; omega
  exact ⟨(IntKind.u64.wrap x).toNat, by omega, by omega⟩
theorem wrap_small (m : Nat) (h : m < 1000) : IntKind.u64.wrap (m : Int) = (m : Int) := by unfold IntKind.wrap; simp [IntKind.bits, IntKind.signed]; omega
/-- What a law takes of a number: one of n; the number may be that one itself. -/
theorem tm (n : Nat) (hn : 0 < n) (h2 : n < 1000) (x : Int) : ∃ i : Fin n, Int.tmod (IntKind.u64.wrap x) (n : Int) = (i.val : Int) ∧ Int.tmod (IntKind.u64.wrap (i.val : Int)) (n : Int) = (i.val : Int) := by
  obtain ⟨m, hm, _⟩ := wrap_nat x
  refine ⟨⟨m % n, Nat.mod_lt _ hn⟩, ?_, ?_⟩
  · rw [hm]; rfl
  · have : m % n < n := Nat.mod_lt _ hn
    rw [wrap_small _ (by simp only; omega)]
    show ((m % n % n : Nat) : Int) = _
    rw [Nat.mod_mod]
end Go.Proofs.YtmjdjpelhhibgaaDoor.DP
