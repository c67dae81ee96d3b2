/- DeclTypes: the law over the plain functions. -/
import Derived.Test.YtmjdjpelhhibgaaDoorQTold
import Derived.Test.YtmjdjpelhhibgaaDoorR3x7
namespace Go.Proofs.YtmjdjpelhhibgaaDoor.DP
open Go Go.RowKit Go.Proofs.YtmjdjpelhhibgaaDoor.Giv Go.Proofs.YtmjdjpelhhibgaaDoor.Spec Go.Proofs.YtmjdjpelhhibgaaDoor.DS Go.Proofs.YtmjdjpelhhibgaaDoor.R3 Go.Proofs.YtmjdjpelhhibgaaDoorW.PrintWords Go.Proofs.YtmjdjpelhhibgaaDoorW.PrintLast
set_option linter.unusedVariables false
set_option linter.unusedSimpArgs false
set_option maxRecDepth 100000 in
theorem types_all : ∀ i : Fin 15, ∀ j : Fin 8, brackenlaw11_DeclTypes.f 1 (i.val : Int) (j.val : Int) = some true := by decide +kernel
theorem types_pure : brackenlaw11_DeclTypes.Pure := by
  intro a b _ _
  obtain ⟨i, h1, h2⟩ := tm 15 (by decide) (by decide) a
  obtain ⟨j, h3, h4⟩ := tm 8 (by decide) (by decide) b
  have h := types_all i j
  refine ⟨1, ?_⟩
  unfold brackenlaw11_DeclTypes.f at h ⊢
  simp only [brackenlaw11_DeclTypes.j0] at h ⊢
  simp only [Int.cast_ofNat_Int] at h1 h2 h3 h4
  simp only [h2, h4] at h
  simp only [h1, h3]
  exact h
end Go.Proofs.YtmjdjpelhhibgaaDoor.DP
