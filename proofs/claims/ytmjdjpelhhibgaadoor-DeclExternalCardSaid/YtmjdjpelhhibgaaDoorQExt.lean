/- DeclExternal: the law over the plain functions. -/
import Derived.Test.YtmjdjpelhhibgaaDoorQTold
import Derived.Test.YtmjdjpelhhibgaaDoorR3x8
namespace Go.Proofs.YtmjdjpelhhibgaaDoor.DP
open Go Go.RowKit Go.Proofs.YtmjdjpelhhibgaaDoor.Giv Go.Proofs.YtmjdjpelhhibgaaDoor.Spec Go.Proofs.YtmjdjpelhhibgaaDoor.DS Go.Proofs.YtmjdjpelhhibgaaDoor.R3 Go.Proofs.YtmjdjpelhhibgaaDoorW.PrintWords Go.Proofs.YtmjdjpelhhibgaaDoorW.PrintLast
set_option linter.unusedVariables false
set_option linter.unusedSimpArgs false
set_option maxRecDepth 100000 in
theorem ext_all : ∀ i : Fin 7, ∀ j : Fin 4, ∀ k : Fin 3, brackenlaw11_DeclExternal.f (i.val : Int) (j.val : Int) (k.val : Int) = some true := by decide +kernel
theorem external_pure : brackenlaw11_DeclExternal.Pure := by
  intro a b c _ _ _
  obtain ⟨i, h1, h2⟩ := tm 7 (by decide) (by decide) a
  obtain ⟨j, h3, h4⟩ := tm 4 (by decide) (by decide) b
  obtain ⟨k, h5, h6⟩ := tm 3 (by decide) (by decide) c
  have h := ext_all i j k
  unfold brackenlaw11_DeclExternal.f at h ⊢
  simp only [Int.cast_ofNat_Int] at h1 h2 h3 h4 h5 h6
  rw [h2, h4, h6] at h
  rw [h1, h3, h5]
  exact h
end Go.Proofs.YtmjdjpelhhibgaaDoor.DP
