/- The walk of ScopeTwice. -/
import Derived.Test.YtfohbgcpdpnndaaScTold
namespace Go.Proofs.Ytfohbgcpdpnndaa.Sc
open Go.RowKit Go.Proofs.Ytfohbgcpdpnndaa.Ow
set_option linter.unusedVariables false
theorem box_own {W : World} {a : At} {n : Nat} (h : W.heap[n]? = some (.cells #[.string a.pf, .string a.lc, .string a.ur, .string a.vl] 35 (0, 0))) : W.ownsRow 0 35 4 (.slice (some ⟨n, 0, none⟩) 1 1) 1 (cellsA [a]) :=
  ⟨rfl, .inr ⟨n, 1, _, rfl, Nat.zero_le _, h, Nat.le_refl 1, by decide, rfl, rfl⟩⟩
theorem box_last {W : World} {n : Nat} {o : Obj} (h : W.heap.size = n) : (W.alloc o).drew.heap[n]? = some o := by
  subst h
  show (W.heap.push o)[W.heap.size]? = _
  simp
theorem box_two {W : World} {n : Nat} {o o' : Obj} (h : W.heap.size = n) : ((W.alloc o).alloc o').drew.heap[n]? = some o := by
  subst h
  show ((W.heap.push o).push o')[W.heap.size]? = _
  simp [Array.getElem?_push]
theorem box_cells {W : World} {a : At} {n : Nat} (h : W.ownsRow 0 35 4 (.slice (some ⟨n, 0, none⟩) 1 1) 1 (cellsA [a])) :
    W.cell? ⟨n, 0, none⟩ = some (.string a.pf) ∧ W.cell? ⟨n, 1, none⟩ = some (.string a.lc) ∧ W.cell? ⟨n, 2, none⟩ = some (.string a.ur) ∧ W.cell? ⟨n, 3, none⟩ = some (.string a.vl) ∧ n < W.heap.size := by
  obtain ⟨A, cap, hA, hC, -⟩ := cellsAt_of_own h rfl
  cases hA
  obtain ⟨g, o, hg, hl, c0, c1, c2, c3⟩ := hC 0 (by simp)
  cases hg
  exact ⟨c0, c1, c2, c3, hl⟩
end Go.Proofs.Ytfohbgcpdpnndaa.Sc
