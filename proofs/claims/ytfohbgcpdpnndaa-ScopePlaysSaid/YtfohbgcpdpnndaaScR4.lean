/- The document's SameAttrs over two rows that are the same. -/
import Derived.Test.YtfohbgcpdpnndaaScR3
namespace Go.Proofs.Ytfohbgcpdpnndaa.Sc
open Go.RowKit Go.Proofs.Ytfohbgcpdpnndaa.Ow Go.Sort
set_option linter.unusedVariables false
set_option maxRecDepth 100000 in
set_option maxHeartbeats 4000000 in
theorem same_any (A A' : Option Addr) (cap cap' : Nat) (l : List At) (w : World) (hA : CellsAt w A l) (hA' : CellsAt w A' l) (hl : l.length ≤ 1000000) :
    Calls Try.prog 22 #[.slice A l.length cap, .slice A' l.length cap'] w fun e w' => e = .returned (.bool true) ∧ Below w.heap.size w w' := by
  obtain ⟨n, hn⟩ : ∃ n, l.length = n := ⟨_, rfl⟩
  rw [hn] at hl ⊢
  have HN := Lib.hid hn
  clear hn
  go_enter Try.func22, Try.ntmps22
  go_wp2_with fail
  go_loopw [5] (fun x wr => ∃ j : Nat, j ≤ n ∧ x = .int .i64 j ∧ Below w.heap.size w wr) (fun x _ => n - (intOf x).toNat)
  case atStart => exact ⟨0, by omega, rfl, Below.refl _ _⟩
  case round =>
    obtain ⟨j, hj, rfl, hB⟩ := hrel
    by_cases hlt : j < n
    · have hjl : j < l.length := by rw [HN.out]; exact hlt
      obtain ⟨a, ha⟩ : ∃ a, l.getD j zA = a := ⟨_, rfl⟩
      obtain ⟨g, o, rfl, hg, e0, e1, e2, e3⟩ := (hA.below hB) j hjl
      obtain ⟨g', o', rfl, hg', d0, d1, d2, d3⟩ := (hA'.below hB) j hjl
      rw [ha] at e0 e1 e2 e3 d0 d1 d2 d3
      clear ha hA hA'
      have h0 : (a.pf.toList == a.pf.toList) = true := by simp
      have h1 : (a.lc.toList == a.lc.toList) = true := by simp
      have h2 : (a.ur.toList == a.ur.toList) = true := by simp
      have h3 : (a.vl.toList == a.vl.toList) = true := by simp
      go_wp2_with fail
      go_quiet (fail)
      go_wp2_with fail
      go_roundw
      case rel => exact ⟨j + 1, by omega, by go_num, below_drewN hB⟩
      case measure => simp [intOf]; omega
    · obtain rfl : j = n := by omega
      go_wp2_with fail
      go_ret
      exact ⟨rfl, hB⟩
end Go.Proofs.Ytfohbgcpdpnndaa.Sc
