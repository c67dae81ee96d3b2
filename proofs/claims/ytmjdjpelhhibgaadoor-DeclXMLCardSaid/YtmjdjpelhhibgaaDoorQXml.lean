/- DeclXML: the law over the plain functions. -/
import Derived.Test.YtmjdjpelhhibgaaDoorQTold
import Derived.Test.YtmjdjpelhhibgaaDoorR3x4
namespace Go.Proofs.YtmjdjpelhhibgaaDoor.DP
open Go Go.RowKit Go.Proofs.YtmjdjpelhhibgaaDoor.Giv Go.Proofs.YtmjdjpelhhibgaaDoor.Spec Go.Proofs.YtmjdjpelhhibgaaDoor.DS Go.Proofs.YtmjdjpelhhibgaaDoor.R3 Go.Proofs.YtmjdjpelhhibgaaDoorW.PrintWords Go.Proofs.YtmjdjpelhhibgaaDoorW.PrintLast
set_option linter.unusedVariables false
set_option linter.unusedSimpArgs false
set_option maxRecDepth 100000 in
theorem xml_all : ∀ i : Fin 5, ∀ j : Fin 4, ∀ k : Fin 4, ∀ l : Fin 4, brackenlaw11_DeclXML.f 2 (i.val : Int) (j.val : Int) (k.val : Int) (l.val : Int) = some true := by decide +kernel
theorem xml_pure : brackenlaw11_DeclXML.Pure := by
  intro a b c d _ _ _ _
  obtain ⟨i, h1, h2⟩ := tm 5 (by decide) (by decide) a
  obtain ⟨j, h3, h4⟩ := tm 4 (by decide) (by decide) b
  obtain ⟨k, h5, h6⟩ := tm 4 (by decide) (by decide) c
  obtain ⟨l, h7, h8⟩ := tm 4 (by decide) (by decide) d
  have h := xml_all i j k l
  refine ⟨2, ?_⟩
  unfold brackenlaw11_DeclXML.f at h ⊢
  simp only [brackenlaw11_DeclXML.j0, brackenlaw11_DeclXML.j1] at h ⊢
  simp only [Int.cast_ofNat_Int] at h1 h2 h3 h4 h5 h6 h7 h8
  simp only [h2, h4, h6, h8] at h
  simp only [h1, h3, h5, h7]
  exact h
end Go.Proofs.YtmjdjpelhhibgaaDoor.DP
