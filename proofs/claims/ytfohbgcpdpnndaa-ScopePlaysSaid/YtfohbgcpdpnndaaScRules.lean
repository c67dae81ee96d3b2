/- The walk of ScopeRules. -/
import Derived.Test.YtfohbgcpdpnndaaScTold
namespace Go.Proofs.Ytfohbgcpdpnndaa.Sc
open Go.RowKit Go.Proofs.Ytfohbgcpdpnndaa.Ow
set_option linter.unusedVariables false
theorem box_at {W0 w1 : World} {cs : Array Value} {T : TypeId} (hb : Below (W0.alloc (.cells cs T)).heap.size (W0.alloc (.cells cs T)) w1) (n : Nat) (hn : W0.heap.size = n) : (∀ j, w1.cell? ⟨n, j, none⟩ = cs[j]?) ∧ n < w1.heap.size := by
  subst hn
  have hs := hb.size
  simp at hs
  exact ⟨fun j => (hb.cell (p := ⟨W0.heap.size, j, none⟩) (by simp)).trans (cell_of (heap_alloc_new _ _) j), by omega⟩
theorem rem_cases (x : Int) (n : Nat) (hn : 0 < n) : ∃ k : Nat, k < n ∧ (IntKind.u64.wrap x).tmod (n : Int) = (k : Int) := by
  have hw : 0 ≤ IntKind.u64.wrap x := by unfold IntKind.wrap; simp [IntKind.bits, IntKind.signed]; omega
  have h0 : 0 ≤ Int.tmod (IntKind.u64.wrap x) (n : Int) := Int.tmod_nonneg _ hw
  have h1 : Int.tmod (IntKind.u64.wrap x) (n : Int) < (n : Int) := Int.tmod_lt_of_pos _ (by omega)
  exact ⟨((IntKind.u64.wrap x).tmod n).toNat, by omega, by omega⟩

set_option maxRecDepth 100000 in
set_option maxHeartbeats 4000000 in
theorem rules_00 (p u : Int) (w : World) (h1 : (IntKind.u64.wrap p).tmod 4 = 0) (h2 : (IntKind.u64.wrap u).tmod 4 = 0) : Calls Try.prog 6 #[.int .i64 p, .int .i64 u] w fun e w' => e = .returned (.bool true) ∧ Below w.heap.size w w' := by
  go_enter Try.func6, Try.ntmps6
  go_wp2_with fail
  refine (SS.new _).mono ?_
  rintro e w1 ⟨p, rfl, hS⟩
  obtain ⟨k, hz⟩ := box_at hS.bel (w.heap.size + 1 + 1) (by simp)
  have k0 : w1.cell? ⟨w.heap.size + 1 + 1, 0, none⟩ = some (.string ⟨#[120, 109, 108, 110, 115]⟩) := k 0
  have k1 : w1.cell? ⟨w.heap.size + 1 + 1, 1, none⟩ = some (.string ⟨#[120, 109, 108]⟩) := k 1
  have k2 : w1.cell? ⟨w.heap.size + 1 + 1, 2, none⟩ = some (.string ⟨#[104, 116, 116, 112, 58, 47, 47, 119, 119, 119, 46, 119, 51, 46, 111, 114, 103, 47, 50, 48, 48, 48, 47, 120, 109, 108, 110, 115, 47]⟩) := k 2
  have k3 : w1.cell? ⟨w.heap.size + 1 + 1, 3, none⟩ = some (.string ⟨#[104, 116, 116, 112, 58, 47, 47, 119, 119, 119, 46, 119, 51, 46, 111, 114, 103, 47, 88, 77, 76, 47, 49, 57, 57, 56, 47, 110, 97, 109, 101, 115, 112, 97, 99, 101]⟩) := k 3
  clear k
  go_wp2_with fail
  refine ((hS.alloc _).push _ _ [⟨⟨#[120, 109, 108, 110, 115]⟩, ⟨#[120, 109, 108]⟩, ⟨#[104, 116, 116, 112, 58, 47, 47, 119, 119, 119, 46, 119, 51, 46, 111, 114, 103, 47, 50, 48, 48, 48, 47, 120, 109, 108, 110, 115, 47]⟩, ⟨#[104, 116, 116, 112, 58, 47, 47, 119, 119, 119, 46, 119, 51, 46, 111, 114, 103, 47, 88, 77, 76, 47, 49, 57, 57, 56, 47, 110, 97, 109, 101, 115, 112, 97, 99, 101]⟩⟩] (cellsAt_block (heap_alloc_new _ _)) 1 rfl (by omega) (by decide) 0 [[⟨⟨#[120, 109, 108, 110, 115]⟩, ⟨#[120, 109, 108]⟩, ⟨#[104, 116, 116, 112, 58, 47, 47, 119, 119, 119, 46, 119, 51, 46, 111, 114, 103, 47, 50, 48, 48, 48, 47, 120, 109, 108, 110, 115, 47]⟩, ⟨#[104, 116, 116, 112, 58, 47, 47, 119, 119, 119, 46, 119, 51, 46, 111, 114, 103, 47, 88, 77, 76, 47, 49, 57, 57, 56, 47, 110, 97, 109, 101, 115, 112, 97, 99, 101]⟩⟩]] (by decide +kernel) (by decide +kernel)).mono ?_
  clear hS k0 k1 k2 k3 hz
  rintro e w2 ⟨rfl, hS, -⟩
  go_wp2_with fail
  refine hS.depth.mono ?_
  rintro e w3 ⟨rfl, rfl⟩
  go_wp2_with fail
  refine (hS.uri ⟨#[120, 109, 108]⟩ (by decide) (by decide) ⟨#[104, 116, 116, 112, 58, 47, 47, 119, 119, 119, 46, 119, 51, 46, 111, 114, 103, 47, 88, 77, 76, 47, 49, 57, 57, 56, 47, 110, 97, 109, 101, 115, 112, 97, 99, 101]⟩ true (by decide +kernel)).mono ?_
  rintro e w3 ⟨rfl, hb⟩
  replace hS := hS.below hb
  clear hb
  go_wp2_with fail
  refine (told_calls _).mono ?_
  rintro e w4 ⟨rfl, hb⟩
  replace hS := hS.below hb
  clear hb
  go_wp2_with fail
  go_ret
  exact ⟨rfl, ((((Below.refl _ _).alloc (Nat.le_refl _) _).alloc (by simp) _).alloc (by simp; omega) _).trans (hS.bel.mono (by simp; omega))⟩
set_option maxRecDepth 100000 in
set_option maxHeartbeats 4000000 in
theorem rules_01 (p u : Int) (w : World) (h1 : (IntKind.u64.wrap p).tmod 4 = 0) (h2 : (IntKind.u64.wrap u).tmod 4 = 1) : Calls Try.prog 6 #[.int .i64 p, .int .i64 u] w fun e w' => e = .returned (.bool true) ∧ Below w.heap.size w w' := by
  go_enter Try.func6, Try.ntmps6
  go_wp2_with fail
  refine (SS.new _).mono ?_
  rintro e w1 ⟨p, rfl, hS⟩
  obtain ⟨k, hz⟩ := box_at hS.bel (w.heap.size + 1 + 1) (by simp)
  have k0 : w1.cell? ⟨w.heap.size + 1 + 1, 0, none⟩ = some (.string ⟨#[120, 109, 108, 110, 115]⟩) := k 0
  have k1 : w1.cell? ⟨w.heap.size + 1 + 1, 1, none⟩ = some (.string ⟨#[120, 109, 108]⟩) := k 1
  have k2 : w1.cell? ⟨w.heap.size + 1 + 1, 2, none⟩ = some (.string ⟨#[104, 116, 116, 112, 58, 47, 47, 119, 119, 119, 46, 119, 51, 46, 111, 114, 103, 47, 50, 48, 48, 48, 47, 120, 109, 108, 110, 115, 47]⟩) := k 2
  have k3 : w1.cell? ⟨w.heap.size + 1 + 1, 3, none⟩ = some (.string ⟨#[104, 116, 116, 112, 58, 47, 47, 119, 119, 119, 46, 119, 51, 46, 111, 114, 103, 47, 50, 48, 48, 48, 47, 120, 109, 108, 110, 115, 47]⟩) := k 3
  clear k
  go_wp2_with fail
  refine ((hS.alloc _).push _ _ [⟨⟨#[120, 109, 108, 110, 115]⟩, ⟨#[120, 109, 108]⟩, ⟨#[104, 116, 116, 112, 58, 47, 47, 119, 119, 119, 46, 119, 51, 46, 111, 114, 103, 47, 50, 48, 48, 48, 47, 120, 109, 108, 110, 115, 47]⟩, ⟨#[104, 116, 116, 112, 58, 47, 47, 119, 119, 119, 46, 119, 51, 46, 111, 114, 103, 47, 50, 48, 48, 48, 47, 120, 109, 108, 110, 115, 47]⟩⟩] (cellsAt_block (heap_alloc_new _ _)) 1 rfl (by omega) (by decide) 2 [] (by decide +kernel) (by decide +kernel)).mono ?_
  clear hS k0 k1 k2 k3 hz
  rintro e w2 ⟨rfl, hS, -⟩
  go_wp2_with fail
  refine hS.depth.mono ?_
  rintro e w3 ⟨rfl, rfl⟩
  go_wp2_with fail
  refine (hS.uri ⟨#[120, 109, 108]⟩ (by decide) (by decide) ⟨#[104, 116, 116, 112, 58, 47, 47, 119, 119, 119, 46, 119, 51, 46, 111, 114, 103, 47, 88, 77, 76, 47, 49, 57, 57, 56, 47, 110, 97, 109, 101, 115, 112, 97, 99, 101]⟩ true (by decide +kernel)).mono ?_
  rintro e w3 ⟨rfl, hb⟩
  replace hS := hS.below hb
  clear hb
  go_wp2_with fail
  refine (told_calls _).mono ?_
  rintro e w4 ⟨rfl, hb⟩
  replace hS := hS.below hb
  clear hb
  go_wp2_with fail
  go_ret
  exact ⟨rfl, ((((Below.refl _ _).alloc (Nat.le_refl _) _).alloc (by simp) _).alloc (by simp; omega) _).trans (hS.bel.mono (by simp; omega))⟩
set_option maxRecDepth 100000 in
set_option maxHeartbeats 4000000 in
theorem rules_02 (p u : Int) (w : World) (h1 : (IntKind.u64.wrap p).tmod 4 = 0) (h2 : (IntKind.u64.wrap u).tmod 4 = 2) : Calls Try.prog 6 #[.int .i64 p, .int .i64 u] w fun e w' => e = .returned (.bool true) ∧ Below w.heap.size w w' := by
  go_enter Try.func6, Try.ntmps6
  go_wp2_with fail
  refine (SS.new _).mono ?_
  rintro e w1 ⟨p, rfl, hS⟩
  obtain ⟨k, hz⟩ := box_at hS.bel (w.heap.size + 1 + 1) (by simp)
  have k0 : w1.cell? ⟨w.heap.size + 1 + 1, 0, none⟩ = some (.string ⟨#[120, 109, 108, 110, 115]⟩) := k 0
  have k1 : w1.cell? ⟨w.heap.size + 1 + 1, 1, none⟩ = some (.string ⟨#[120, 109, 108]⟩) := k 1
  have k2 : w1.cell? ⟨w.heap.size + 1 + 1, 2, none⟩ = some (.string ⟨#[104, 116, 116, 112, 58, 47, 47, 119, 119, 119, 46, 119, 51, 46, 111, 114, 103, 47, 50, 48, 48, 48, 47, 120, 109, 108, 110, 115, 47]⟩) := k 2
  have k3 : w1.cell? ⟨w.heap.size + 1 + 1, 3, none⟩ = some (.string ⟨#[117]⟩) := k 3
  clear k
  go_wp2_with fail
  refine ((hS.alloc _).push _ _ [⟨⟨#[120, 109, 108, 110, 115]⟩, ⟨#[120, 109, 108]⟩, ⟨#[104, 116, 116, 112, 58, 47, 47, 119, 119, 119, 46, 119, 51, 46, 111, 114, 103, 47, 50, 48, 48, 48, 47, 120, 109, 108, 110, 115, 47]⟩, ⟨#[117]⟩⟩] (cellsAt_block (heap_alloc_new _ _)) 1 rfl (by omega) (by decide) 2 [] (by decide +kernel) (by decide +kernel)).mono ?_
  clear hS k0 k1 k2 k3 hz
  rintro e w2 ⟨rfl, hS, -⟩
  go_wp2_with fail
  refine hS.depth.mono ?_
  rintro e w3 ⟨rfl, rfl⟩
  go_wp2_with fail
  refine (hS.uri ⟨#[120, 109, 108]⟩ (by decide) (by decide) ⟨#[104, 116, 116, 112, 58, 47, 47, 119, 119, 119, 46, 119, 51, 46, 111, 114, 103, 47, 88, 77, 76, 47, 49, 57, 57, 56, 47, 110, 97, 109, 101, 115, 112, 97, 99, 101]⟩ true (by decide +kernel)).mono ?_
  rintro e w3 ⟨rfl, hb⟩
  replace hS := hS.below hb
  clear hb
  go_wp2_with fail
  refine (told_calls _).mono ?_
  rintro e w4 ⟨rfl, hb⟩
  replace hS := hS.below hb
  clear hb
  go_wp2_with fail
  go_ret
  exact ⟨rfl, ((((Below.refl _ _).alloc (Nat.le_refl _) _).alloc (by simp) _).alloc (by simp; omega) _).trans (hS.bel.mono (by simp; omega))⟩
set_option maxRecDepth 100000 in
set_option maxHeartbeats 4000000 in
theorem rules_03 (p u : Int) (w : World) (h1 : (IntKind.u64.wrap p).tmod 4 = 0) (h2 : (IntKind.u64.wrap u).tmod 4 = 3) : Calls Try.prog 6 #[.int .i64 p, .int .i64 u] w fun e w' => e = .returned (.bool true) ∧ Below w.heap.size w w' := by
  go_enter Try.func6, Try.ntmps6
  go_wp2_with fail
  refine (SS.new _).mono ?_
  rintro e w1 ⟨p, rfl, hS⟩
  obtain ⟨k, hz⟩ := box_at hS.bel (w.heap.size + 1 + 1) (by simp)
  have k0 : w1.cell? ⟨w.heap.size + 1 + 1, 0, none⟩ = some (.string ⟨#[120, 109, 108, 110, 115]⟩) := k 0
  have k1 : w1.cell? ⟨w.heap.size + 1 + 1, 1, none⟩ = some (.string ⟨#[120, 109, 108]⟩) := k 1
  have k2 : w1.cell? ⟨w.heap.size + 1 + 1, 2, none⟩ = some (.string ⟨#[104, 116, 116, 112, 58, 47, 47, 119, 119, 119, 46, 119, 51, 46, 111, 114, 103, 47, 50, 48, 48, 48, 47, 120, 109, 108, 110, 115, 47]⟩) := k 2
  have k3 : w1.cell? ⟨w.heap.size + 1 + 1, 3, none⟩ = some (.string ⟨#[]⟩) := k 3
  clear k
  go_wp2_with fail
  refine ((hS.alloc _).push _ _ [⟨⟨#[120, 109, 108, 110, 115]⟩, ⟨#[120, 109, 108]⟩, ⟨#[104, 116, 116, 112, 58, 47, 47, 119, 119, 119, 46, 119, 51, 46, 111, 114, 103, 47, 50, 48, 48, 48, 47, 120, 109, 108, 110, 115, 47]⟩, ⟨#[]⟩⟩] (cellsAt_block (heap_alloc_new _ _)) 1 rfl (by omega) (by decide) 2 [] (by decide +kernel) (by decide +kernel)).mono ?_
  clear hS k0 k1 k2 k3 hz
  rintro e w2 ⟨rfl, hS, -⟩
  go_wp2_with fail
  refine hS.depth.mono ?_
  rintro e w3 ⟨rfl, rfl⟩
  go_wp2_with fail
  refine (hS.uri ⟨#[120, 109, 108]⟩ (by decide) (by decide) ⟨#[104, 116, 116, 112, 58, 47, 47, 119, 119, 119, 46, 119, 51, 46, 111, 114, 103, 47, 88, 77, 76, 47, 49, 57, 57, 56, 47, 110, 97, 109, 101, 115, 112, 97, 99, 101]⟩ true (by decide +kernel)).mono ?_
  rintro e w3 ⟨rfl, hb⟩
  replace hS := hS.below hb
  clear hb
  go_wp2_with fail
  refine (told_calls _).mono ?_
  rintro e w4 ⟨rfl, hb⟩
  replace hS := hS.below hb
  clear hb
  go_wp2_with fail
  go_ret
  exact ⟨rfl, ((((Below.refl _ _).alloc (Nat.le_refl _) _).alloc (by simp) _).alloc (by simp; omega) _).trans (hS.bel.mono (by simp; omega))⟩
set_option maxRecDepth 100000 in
set_option maxHeartbeats 4000000 in
theorem rules_10 (p u : Int) (w : World) (h1 : (IntKind.u64.wrap p).tmod 4 = 1) (h2 : (IntKind.u64.wrap u).tmod 4 = 0) : Calls Try.prog 6 #[.int .i64 p, .int .i64 u] w fun e w' => e = .returned (.bool true) ∧ Below w.heap.size w w' := by
  go_enter Try.func6, Try.ntmps6
  go_wp2_with fail
  refine (SS.new _).mono ?_
  rintro e w1 ⟨p, rfl, hS⟩
  obtain ⟨k, hz⟩ := box_at hS.bel (w.heap.size + 1 + 1) (by simp)
  have k0 : w1.cell? ⟨w.heap.size + 1 + 1, 0, none⟩ = some (.string ⟨#[120, 109, 108, 110, 115]⟩) := k 0
  have k1 : w1.cell? ⟨w.heap.size + 1 + 1, 1, none⟩ = some (.string ⟨#[120, 109, 108, 110, 115]⟩) := k 1
  have k2 : w1.cell? ⟨w.heap.size + 1 + 1, 2, none⟩ = some (.string ⟨#[104, 116, 116, 112, 58, 47, 47, 119, 119, 119, 46, 119, 51, 46, 111, 114, 103, 47, 50, 48, 48, 48, 47, 120, 109, 108, 110, 115, 47]⟩) := k 2
  have k3 : w1.cell? ⟨w.heap.size + 1 + 1, 3, none⟩ = some (.string ⟨#[104, 116, 116, 112, 58, 47, 47, 119, 119, 119, 46, 119, 51, 46, 111, 114, 103, 47, 88, 77, 76, 47, 49, 57, 57, 56, 47, 110, 97, 109, 101, 115, 112, 97, 99, 101]⟩) := k 3
  clear k
  go_wp2_with fail
  refine ((hS.alloc _).push _ _ [⟨⟨#[120, 109, 108, 110, 115]⟩, ⟨#[120, 109, 108, 110, 115]⟩, ⟨#[104, 116, 116, 112, 58, 47, 47, 119, 119, 119, 46, 119, 51, 46, 111, 114, 103, 47, 50, 48, 48, 48, 47, 120, 109, 108, 110, 115, 47]⟩, ⟨#[104, 116, 116, 112, 58, 47, 47, 119, 119, 119, 46, 119, 51, 46, 111, 114, 103, 47, 88, 77, 76, 47, 49, 57, 57, 56, 47, 110, 97, 109, 101, 115, 112, 97, 99, 101]⟩⟩] (cellsAt_block (heap_alloc_new _ _)) 1 rfl (by omega) (by decide) 2 [] (by decide +kernel) (by decide +kernel)).mono ?_
  clear hS k0 k1 k2 k3 hz
  rintro e w2 ⟨rfl, hS, -⟩
  go_wp2_with fail
  refine hS.depth.mono ?_
  rintro e w3 ⟨rfl, rfl⟩
  go_wp2_with fail
  refine (hS.uri ⟨#[120, 109, 108, 110, 115]⟩ (by decide) (by decide) ⟨#[]⟩ false (by decide +kernel)).mono ?_
  rintro e w3 ⟨rfl, hb⟩
  replace hS := hS.below hb
  clear hb
  go_wp2_with fail
  refine (told_calls _).mono ?_
  rintro e w4 ⟨rfl, hb⟩
  replace hS := hS.below hb
  clear hb
  go_wp2_with fail
  go_ret
  exact ⟨rfl, ((((Below.refl _ _).alloc (Nat.le_refl _) _).alloc (by simp) _).alloc (by simp; omega) _).trans (hS.bel.mono (by simp; omega))⟩
set_option maxRecDepth 100000 in
set_option maxHeartbeats 4000000 in
theorem rules_11 (p u : Int) (w : World) (h1 : (IntKind.u64.wrap p).tmod 4 = 1) (h2 : (IntKind.u64.wrap u).tmod 4 = 1) : Calls Try.prog 6 #[.int .i64 p, .int .i64 u] w fun e w' => e = .returned (.bool true) ∧ Below w.heap.size w w' := by
  go_enter Try.func6, Try.ntmps6
  go_wp2_with fail
  refine (SS.new _).mono ?_
  rintro e w1 ⟨p, rfl, hS⟩
  obtain ⟨k, hz⟩ := box_at hS.bel (w.heap.size + 1 + 1) (by simp)
  have k0 : w1.cell? ⟨w.heap.size + 1 + 1, 0, none⟩ = some (.string ⟨#[120, 109, 108, 110, 115]⟩) := k 0
  have k1 : w1.cell? ⟨w.heap.size + 1 + 1, 1, none⟩ = some (.string ⟨#[120, 109, 108, 110, 115]⟩) := k 1
  have k2 : w1.cell? ⟨w.heap.size + 1 + 1, 2, none⟩ = some (.string ⟨#[104, 116, 116, 112, 58, 47, 47, 119, 119, 119, 46, 119, 51, 46, 111, 114, 103, 47, 50, 48, 48, 48, 47, 120, 109, 108, 110, 115, 47]⟩) := k 2
  have k3 : w1.cell? ⟨w.heap.size + 1 + 1, 3, none⟩ = some (.string ⟨#[104, 116, 116, 112, 58, 47, 47, 119, 119, 119, 46, 119, 51, 46, 111, 114, 103, 47, 50, 48, 48, 48, 47, 120, 109, 108, 110, 115, 47]⟩) := k 3
  clear k
  go_wp2_with fail
  refine ((hS.alloc _).push _ _ [⟨⟨#[120, 109, 108, 110, 115]⟩, ⟨#[120, 109, 108, 110, 115]⟩, ⟨#[104, 116, 116, 112, 58, 47, 47, 119, 119, 119, 46, 119, 51, 46, 111, 114, 103, 47, 50, 48, 48, 48, 47, 120, 109, 108, 110, 115, 47]⟩, ⟨#[104, 116, 116, 112, 58, 47, 47, 119, 119, 119, 46, 119, 51, 46, 111, 114, 103, 47, 50, 48, 48, 48, 47, 120, 109, 108, 110, 115, 47]⟩⟩] (cellsAt_block (heap_alloc_new _ _)) 1 rfl (by omega) (by decide) 2 [] (by decide +kernel) (by decide +kernel)).mono ?_
  clear hS k0 k1 k2 k3 hz
  rintro e w2 ⟨rfl, hS, -⟩
  go_wp2_with fail
  refine hS.depth.mono ?_
  rintro e w3 ⟨rfl, rfl⟩
  go_wp2_with fail
  refine (hS.uri ⟨#[120, 109, 108, 110, 115]⟩ (by decide) (by decide) ⟨#[]⟩ false (by decide +kernel)).mono ?_
  rintro e w3 ⟨rfl, hb⟩
  replace hS := hS.below hb
  clear hb
  go_wp2_with fail
  refine (told_calls _).mono ?_
  rintro e w4 ⟨rfl, hb⟩
  replace hS := hS.below hb
  clear hb
  go_wp2_with fail
  go_ret
  exact ⟨rfl, ((((Below.refl _ _).alloc (Nat.le_refl _) _).alloc (by simp) _).alloc (by simp; omega) _).trans (hS.bel.mono (by simp; omega))⟩
set_option maxRecDepth 100000 in
set_option maxHeartbeats 4000000 in
theorem rules_12 (p u : Int) (w : World) (h1 : (IntKind.u64.wrap p).tmod 4 = 1) (h2 : (IntKind.u64.wrap u).tmod 4 = 2) : Calls Try.prog 6 #[.int .i64 p, .int .i64 u] w fun e w' => e = .returned (.bool true) ∧ Below w.heap.size w w' := by
  go_enter Try.func6, Try.ntmps6
  go_wp2_with fail
  refine (SS.new _).mono ?_
  rintro e w1 ⟨p, rfl, hS⟩
  obtain ⟨k, hz⟩ := box_at hS.bel (w.heap.size + 1 + 1) (by simp)
  have k0 : w1.cell? ⟨w.heap.size + 1 + 1, 0, none⟩ = some (.string ⟨#[120, 109, 108, 110, 115]⟩) := k 0
  have k1 : w1.cell? ⟨w.heap.size + 1 + 1, 1, none⟩ = some (.string ⟨#[120, 109, 108, 110, 115]⟩) := k 1
  have k2 : w1.cell? ⟨w.heap.size + 1 + 1, 2, none⟩ = some (.string ⟨#[104, 116, 116, 112, 58, 47, 47, 119, 119, 119, 46, 119, 51, 46, 111, 114, 103, 47, 50, 48, 48, 48, 47, 120, 109, 108, 110, 115, 47]⟩) := k 2
  have k3 : w1.cell? ⟨w.heap.size + 1 + 1, 3, none⟩ = some (.string ⟨#[117]⟩) := k 3
  clear k
  go_wp2_with fail
  refine ((hS.alloc _).push _ _ [⟨⟨#[120, 109, 108, 110, 115]⟩, ⟨#[120, 109, 108, 110, 115]⟩, ⟨#[104, 116, 116, 112, 58, 47, 47, 119, 119, 119, 46, 119, 51, 46, 111, 114, 103, 47, 50, 48, 48, 48, 47, 120, 109, 108, 110, 115, 47]⟩, ⟨#[117]⟩⟩] (cellsAt_block (heap_alloc_new _ _)) 1 rfl (by omega) (by decide) 2 [] (by decide +kernel) (by decide +kernel)).mono ?_
  clear hS k0 k1 k2 k3 hz
  rintro e w2 ⟨rfl, hS, -⟩
  go_wp2_with fail
  refine hS.depth.mono ?_
  rintro e w3 ⟨rfl, rfl⟩
  go_wp2_with fail
  refine (hS.uri ⟨#[120, 109, 108, 110, 115]⟩ (by decide) (by decide) ⟨#[]⟩ false (by decide +kernel)).mono ?_
  rintro e w3 ⟨rfl, hb⟩
  replace hS := hS.below hb
  clear hb
  go_wp2_with fail
  refine (told_calls _).mono ?_
  rintro e w4 ⟨rfl, hb⟩
  replace hS := hS.below hb
  clear hb
  go_wp2_with fail
  go_ret
  exact ⟨rfl, ((((Below.refl _ _).alloc (Nat.le_refl _) _).alloc (by simp) _).alloc (by simp; omega) _).trans (hS.bel.mono (by simp; omega))⟩
set_option maxRecDepth 100000 in
set_option maxHeartbeats 4000000 in
theorem rules_13 (p u : Int) (w : World) (h1 : (IntKind.u64.wrap p).tmod 4 = 1) (h2 : (IntKind.u64.wrap u).tmod 4 = 3) : Calls Try.prog 6 #[.int .i64 p, .int .i64 u] w fun e w' => e = .returned (.bool true) ∧ Below w.heap.size w w' := by
  go_enter Try.func6, Try.ntmps6
  go_wp2_with fail
  refine (SS.new _).mono ?_
  rintro e w1 ⟨p, rfl, hS⟩
  obtain ⟨k, hz⟩ := box_at hS.bel (w.heap.size + 1 + 1) (by simp)
  have k0 : w1.cell? ⟨w.heap.size + 1 + 1, 0, none⟩ = some (.string ⟨#[120, 109, 108, 110, 115]⟩) := k 0
  have k1 : w1.cell? ⟨w.heap.size + 1 + 1, 1, none⟩ = some (.string ⟨#[120, 109, 108, 110, 115]⟩) := k 1
  have k2 : w1.cell? ⟨w.heap.size + 1 + 1, 2, none⟩ = some (.string ⟨#[104, 116, 116, 112, 58, 47, 47, 119, 119, 119, 46, 119, 51, 46, 111, 114, 103, 47, 50, 48, 48, 48, 47, 120, 109, 108, 110, 115, 47]⟩) := k 2
  have k3 : w1.cell? ⟨w.heap.size + 1 + 1, 3, none⟩ = some (.string ⟨#[]⟩) := k 3
  clear k
  go_wp2_with fail
  refine ((hS.alloc _).push _ _ [⟨⟨#[120, 109, 108, 110, 115]⟩, ⟨#[120, 109, 108, 110, 115]⟩, ⟨#[104, 116, 116, 112, 58, 47, 47, 119, 119, 119, 46, 119, 51, 46, 111, 114, 103, 47, 50, 48, 48, 48, 47, 120, 109, 108, 110, 115, 47]⟩, ⟨#[]⟩⟩] (cellsAt_block (heap_alloc_new _ _)) 1 rfl (by omega) (by decide) 2 [] (by decide +kernel) (by decide +kernel)).mono ?_
  clear hS k0 k1 k2 k3 hz
  rintro e w2 ⟨rfl, hS, -⟩
  go_wp2_with fail
  refine hS.depth.mono ?_
  rintro e w3 ⟨rfl, rfl⟩
  go_wp2_with fail
  refine (hS.uri ⟨#[120, 109, 108, 110, 115]⟩ (by decide) (by decide) ⟨#[]⟩ false (by decide +kernel)).mono ?_
  rintro e w3 ⟨rfl, hb⟩
  replace hS := hS.below hb
  clear hb
  go_wp2_with fail
  refine (told_calls _).mono ?_
  rintro e w4 ⟨rfl, hb⟩
  replace hS := hS.below hb
  clear hb
  go_wp2_with fail
  go_ret
  exact ⟨rfl, ((((Below.refl _ _).alloc (Nat.le_refl _) _).alloc (by simp) _).alloc (by simp; omega) _).trans (hS.bel.mono (by simp; omega))⟩
set_option maxRecDepth 100000 in
set_option maxHeartbeats 4000000 in
theorem rules_20 (p u : Int) (w : World) (h1 : (IntKind.u64.wrap p).tmod 4 = 2) (h2 : (IntKind.u64.wrap u).tmod 4 = 0) : Calls Try.prog 6 #[.int .i64 p, .int .i64 u] w fun e w' => e = .returned (.bool true) ∧ Below w.heap.size w w' := by
  go_enter Try.func6, Try.ntmps6
  go_wp2_with fail
  refine (SS.new _).mono ?_
  rintro e w1 ⟨p, rfl, hS⟩
  obtain ⟨k, hz⟩ := box_at hS.bel (w.heap.size + 1 + 1) (by simp)
  have k0 : w1.cell? ⟨w.heap.size + 1 + 1, 0, none⟩ = some (.string ⟨#[120, 109, 108, 110, 115]⟩) := k 0
  have k1 : w1.cell? ⟨w.heap.size + 1 + 1, 1, none⟩ = some (.string ⟨#[112]⟩) := k 1
  have k2 : w1.cell? ⟨w.heap.size + 1 + 1, 2, none⟩ = some (.string ⟨#[104, 116, 116, 112, 58, 47, 47, 119, 119, 119, 46, 119, 51, 46, 111, 114, 103, 47, 50, 48, 48, 48, 47, 120, 109, 108, 110, 115, 47]⟩) := k 2
  have k3 : w1.cell? ⟨w.heap.size + 1 + 1, 3, none⟩ = some (.string ⟨#[104, 116, 116, 112, 58, 47, 47, 119, 119, 119, 46, 119, 51, 46, 111, 114, 103, 47, 88, 77, 76, 47, 49, 57, 57, 56, 47, 110, 97, 109, 101, 115, 112, 97, 99, 101]⟩) := k 3
  clear k
  go_wp2_with fail
  refine ((hS.alloc _).push _ _ [⟨⟨#[120, 109, 108, 110, 115]⟩, ⟨#[112]⟩, ⟨#[104, 116, 116, 112, 58, 47, 47, 119, 119, 119, 46, 119, 51, 46, 111, 114, 103, 47, 50, 48, 48, 48, 47, 120, 109, 108, 110, 115, 47]⟩, ⟨#[104, 116, 116, 112, 58, 47, 47, 119, 119, 119, 46, 119, 51, 46, 111, 114, 103, 47, 88, 77, 76, 47, 49, 57, 57, 56, 47, 110, 97, 109, 101, 115, 112, 97, 99, 101]⟩⟩] (cellsAt_block (heap_alloc_new _ _)) 1 rfl (by omega) (by decide) 2 [] (by decide +kernel) (by decide +kernel)).mono ?_
  clear hS k0 k1 k2 k3 hz
  rintro e w2 ⟨rfl, hS, -⟩
  go_wp2_with fail
  refine hS.depth.mono ?_
  rintro e w3 ⟨rfl, rfl⟩
  go_wp2_with fail
  refine (hS.uri ⟨#[112]⟩ (by decide) (by decide) ⟨#[]⟩ false (by decide +kernel)).mono ?_
  rintro e w3 ⟨rfl, hb⟩
  replace hS := hS.below hb
  clear hb
  go_wp2_with fail
  refine (told_calls _).mono ?_
  rintro e w4 ⟨rfl, hb⟩
  replace hS := hS.below hb
  clear hb
  go_wp2_with fail
  go_ret
  exact ⟨rfl, ((((Below.refl _ _).alloc (Nat.le_refl _) _).alloc (by simp) _).alloc (by simp; omega) _).trans (hS.bel.mono (by simp; omega))⟩
set_option maxRecDepth 100000 in
set_option maxHeartbeats 4000000 in
theorem rules_21 (p u : Int) (w : World) (h1 : (IntKind.u64.wrap p).tmod 4 = 2) (h2 : (IntKind.u64.wrap u).tmod 4 = 1) : Calls Try.prog 6 #[.int .i64 p, .int .i64 u] w fun e w' => e = .returned (.bool true) ∧ Below w.heap.size w w' := by
  go_enter Try.func6, Try.ntmps6
  go_wp2_with fail
  refine (SS.new _).mono ?_
  rintro e w1 ⟨p, rfl, hS⟩
  obtain ⟨k, hz⟩ := box_at hS.bel (w.heap.size + 1 + 1) (by simp)
  have k0 : w1.cell? ⟨w.heap.size + 1 + 1, 0, none⟩ = some (.string ⟨#[120, 109, 108, 110, 115]⟩) := k 0
  have k1 : w1.cell? ⟨w.heap.size + 1 + 1, 1, none⟩ = some (.string ⟨#[112]⟩) := k 1
  have k2 : w1.cell? ⟨w.heap.size + 1 + 1, 2, none⟩ = some (.string ⟨#[104, 116, 116, 112, 58, 47, 47, 119, 119, 119, 46, 119, 51, 46, 111, 114, 103, 47, 50, 48, 48, 48, 47, 120, 109, 108, 110, 115, 47]⟩) := k 2
  have k3 : w1.cell? ⟨w.heap.size + 1 + 1, 3, none⟩ = some (.string ⟨#[104, 116, 116, 112, 58, 47, 47, 119, 119, 119, 46, 119, 51, 46, 111, 114, 103, 47, 50, 48, 48, 48, 47, 120, 109, 108, 110, 115, 47]⟩) := k 3
  clear k
  go_wp2_with fail
  refine ((hS.alloc _).push _ _ [⟨⟨#[120, 109, 108, 110, 115]⟩, ⟨#[112]⟩, ⟨#[104, 116, 116, 112, 58, 47, 47, 119, 119, 119, 46, 119, 51, 46, 111, 114, 103, 47, 50, 48, 48, 48, 47, 120, 109, 108, 110, 115, 47]⟩, ⟨#[104, 116, 116, 112, 58, 47, 47, 119, 119, 119, 46, 119, 51, 46, 111, 114, 103, 47, 50, 48, 48, 48, 47, 120, 109, 108, 110, 115, 47]⟩⟩] (cellsAt_block (heap_alloc_new _ _)) 1 rfl (by omega) (by decide) 2 [] (by decide +kernel) (by decide +kernel)).mono ?_
  clear hS k0 k1 k2 k3 hz
  rintro e w2 ⟨rfl, hS, -⟩
  go_wp2_with fail
  refine hS.depth.mono ?_
  rintro e w3 ⟨rfl, rfl⟩
  go_wp2_with fail
  refine (hS.uri ⟨#[112]⟩ (by decide) (by decide) ⟨#[]⟩ false (by decide +kernel)).mono ?_
  rintro e w3 ⟨rfl, hb⟩
  replace hS := hS.below hb
  clear hb
  go_wp2_with fail
  refine (told_calls _).mono ?_
  rintro e w4 ⟨rfl, hb⟩
  replace hS := hS.below hb
  clear hb
  go_wp2_with fail
  go_ret
  exact ⟨rfl, ((((Below.refl _ _).alloc (Nat.le_refl _) _).alloc (by simp) _).alloc (by simp; omega) _).trans (hS.bel.mono (by simp; omega))⟩
set_option maxRecDepth 100000 in
set_option maxHeartbeats 4000000 in
theorem rules_22 (p u : Int) (w : World) (h1 : (IntKind.u64.wrap p).tmod 4 = 2) (h2 : (IntKind.u64.wrap u).tmod 4 = 2) : Calls Try.prog 6 #[.int .i64 p, .int .i64 u] w fun e w' => e = .returned (.bool true) ∧ Below w.heap.size w w' := by
  go_enter Try.func6, Try.ntmps6
  go_wp2_with fail
  refine (SS.new _).mono ?_
  rintro e w1 ⟨p, rfl, hS⟩
  obtain ⟨k, hz⟩ := box_at hS.bel (w.heap.size + 1 + 1) (by simp)
  have k0 : w1.cell? ⟨w.heap.size + 1 + 1, 0, none⟩ = some (.string ⟨#[120, 109, 108, 110, 115]⟩) := k 0
  have k1 : w1.cell? ⟨w.heap.size + 1 + 1, 1, none⟩ = some (.string ⟨#[112]⟩) := k 1
  have k2 : w1.cell? ⟨w.heap.size + 1 + 1, 2, none⟩ = some (.string ⟨#[104, 116, 116, 112, 58, 47, 47, 119, 119, 119, 46, 119, 51, 46, 111, 114, 103, 47, 50, 48, 48, 48, 47, 120, 109, 108, 110, 115, 47]⟩) := k 2
  have k3 : w1.cell? ⟨w.heap.size + 1 + 1, 3, none⟩ = some (.string ⟨#[117]⟩) := k 3
  clear k
  go_wp2_with fail
  refine ((hS.alloc _).push _ _ [⟨⟨#[120, 109, 108, 110, 115]⟩, ⟨#[112]⟩, ⟨#[104, 116, 116, 112, 58, 47, 47, 119, 119, 119, 46, 119, 51, 46, 111, 114, 103, 47, 50, 48, 48, 48, 47, 120, 109, 108, 110, 115, 47]⟩, ⟨#[117]⟩⟩] (cellsAt_block (heap_alloc_new _ _)) 1 rfl (by omega) (by decide) 0 [[⟨⟨#[120, 109, 108, 110, 115]⟩, ⟨#[112]⟩, ⟨#[104, 116, 116, 112, 58, 47, 47, 119, 119, 119, 46, 119, 51, 46, 111, 114, 103, 47, 50, 48, 48, 48, 47, 120, 109, 108, 110, 115, 47]⟩, ⟨#[117]⟩⟩]] (by decide +kernel) (by decide +kernel)).mono ?_
  clear hS k0 k1 k2 k3 hz
  rintro e w2 ⟨rfl, hS, -⟩
  go_wp2_with fail
  refine hS.depth.mono ?_
  rintro e w3 ⟨rfl, rfl⟩
  go_wp2_with fail
  refine (hS.uri ⟨#[112]⟩ (by decide) (by decide) ⟨#[117]⟩ true (by decide +kernel)).mono ?_
  rintro e w3 ⟨rfl, hb⟩
  replace hS := hS.below hb
  clear hb
  go_wp2_with fail
  refine (told_calls _).mono ?_
  rintro e w4 ⟨rfl, hb⟩
  replace hS := hS.below hb
  clear hb
  go_wp2_with fail
  go_ret
  exact ⟨rfl, ((((Below.refl _ _).alloc (Nat.le_refl _) _).alloc (by simp) _).alloc (by simp; omega) _).trans (hS.bel.mono (by simp; omega))⟩
set_option maxRecDepth 100000 in
set_option maxHeartbeats 4000000 in
theorem rules_23 (p u : Int) (w : World) (h1 : (IntKind.u64.wrap p).tmod 4 = 2) (h2 : (IntKind.u64.wrap u).tmod 4 = 3) : Calls Try.prog 6 #[.int .i64 p, .int .i64 u] w fun e w' => e = .returned (.bool true) ∧ Below w.heap.size w w' := by
  go_enter Try.func6, Try.ntmps6
  go_wp2_with fail
  refine (SS.new _).mono ?_
  rintro e w1 ⟨p, rfl, hS⟩
  obtain ⟨k, hz⟩ := box_at hS.bel (w.heap.size + 1 + 1) (by simp)
  have k0 : w1.cell? ⟨w.heap.size + 1 + 1, 0, none⟩ = some (.string ⟨#[120, 109, 108, 110, 115]⟩) := k 0
  have k1 : w1.cell? ⟨w.heap.size + 1 + 1, 1, none⟩ = some (.string ⟨#[112]⟩) := k 1
  have k2 : w1.cell? ⟨w.heap.size + 1 + 1, 2, none⟩ = some (.string ⟨#[104, 116, 116, 112, 58, 47, 47, 119, 119, 119, 46, 119, 51, 46, 111, 114, 103, 47, 50, 48, 48, 48, 47, 120, 109, 108, 110, 115, 47]⟩) := k 2
  have k3 : w1.cell? ⟨w.heap.size + 1 + 1, 3, none⟩ = some (.string ⟨#[]⟩) := k 3
  clear k
  go_wp2_with fail
  refine ((hS.alloc _).push _ _ [⟨⟨#[120, 109, 108, 110, 115]⟩, ⟨#[112]⟩, ⟨#[104, 116, 116, 112, 58, 47, 47, 119, 119, 119, 46, 119, 51, 46, 111, 114, 103, 47, 50, 48, 48, 48, 47, 120, 109, 108, 110, 115, 47]⟩, ⟨#[]⟩⟩] (cellsAt_block (heap_alloc_new _ _)) 1 rfl (by omega) (by decide) 2 [] (by decide +kernel) (by decide +kernel)).mono ?_
  clear hS k0 k1 k2 k3 hz
  rintro e w2 ⟨rfl, hS, -⟩
  go_wp2_with fail
  refine hS.depth.mono ?_
  rintro e w3 ⟨rfl, rfl⟩
  go_wp2_with fail
  refine (hS.uri ⟨#[112]⟩ (by decide) (by decide) ⟨#[]⟩ false (by decide +kernel)).mono ?_
  rintro e w3 ⟨rfl, hb⟩
  replace hS := hS.below hb
  clear hb
  go_wp2_with fail
  refine (told_calls _).mono ?_
  rintro e w4 ⟨rfl, hb⟩
  replace hS := hS.below hb
  clear hb
  go_wp2_with fail
  go_ret
  exact ⟨rfl, ((((Below.refl _ _).alloc (Nat.le_refl _) _).alloc (by simp) _).alloc (by simp; omega) _).trans (hS.bel.mono (by simp; omega))⟩
set_option maxRecDepth 100000 in
set_option maxHeartbeats 4000000 in
theorem rules_30 (p u : Int) (w : World) (h1 : (IntKind.u64.wrap p).tmod 4 = 3) (h2 : (IntKind.u64.wrap u).tmod 4 = 0) : Calls Try.prog 6 #[.int .i64 p, .int .i64 u] w fun e w' => e = .returned (.bool true) ∧ Below w.heap.size w w' := by
  go_enter Try.func6, Try.ntmps6
  go_wp2_with fail
  refine (SS.new _).mono ?_
  rintro e w1 ⟨p, rfl, hS⟩
  obtain ⟨k, hz⟩ := box_at hS.bel (w.heap.size + 1 + 1) (by simp)
  have k0 : w1.cell? ⟨w.heap.size + 1 + 1, 0, none⟩ = some (.string ⟨#[]⟩) := k 0
  have k1 : w1.cell? ⟨w.heap.size + 1 + 1, 1, none⟩ = some (.string ⟨#[120, 109, 108, 110, 115]⟩) := k 1
  have k2 : w1.cell? ⟨w.heap.size + 1 + 1, 2, none⟩ = some (.string ⟨#[104, 116, 116, 112, 58, 47, 47, 119, 119, 119, 46, 119, 51, 46, 111, 114, 103, 47, 50, 48, 48, 48, 47, 120, 109, 108, 110, 115, 47]⟩) := k 2
  have k3 : w1.cell? ⟨w.heap.size + 1 + 1, 3, none⟩ = some (.string ⟨#[104, 116, 116, 112, 58, 47, 47, 119, 119, 119, 46, 119, 51, 46, 111, 114, 103, 47, 88, 77, 76, 47, 49, 57, 57, 56, 47, 110, 97, 109, 101, 115, 112, 97, 99, 101]⟩) := k 3
  clear k
  go_wp2_with fail
  refine ((hS.alloc _).push _ _ [⟨⟨#[]⟩, ⟨#[120, 109, 108, 110, 115]⟩, ⟨#[104, 116, 116, 112, 58, 47, 47, 119, 119, 119, 46, 119, 51, 46, 111, 114, 103, 47, 50, 48, 48, 48, 47, 120, 109, 108, 110, 115, 47]⟩, ⟨#[104, 116, 116, 112, 58, 47, 47, 119, 119, 119, 46, 119, 51, 46, 111, 114, 103, 47, 88, 77, 76, 47, 49, 57, 57, 56, 47, 110, 97, 109, 101, 115, 112, 97, 99, 101]⟩⟩] (cellsAt_block (heap_alloc_new _ _)) 1 rfl (by omega) (by decide) 2 [] (by decide +kernel) (by decide +kernel)).mono ?_
  clear hS k0 k1 k2 k3 hz
  rintro e w2 ⟨rfl, hS, -⟩
  go_wp2_with fail
  refine hS.depth.mono ?_
  rintro e w3 ⟨rfl, rfl⟩
  go_wp2_with fail
  refine (hS.uri ⟨#[]⟩ (by decide) (by decide) ⟨#[]⟩ true (by decide +kernel)).mono ?_
  rintro e w3 ⟨rfl, hb⟩
  replace hS := hS.below hb
  clear hb
  go_wp2_with fail
  refine (told_calls _).mono ?_
  rintro e w4 ⟨rfl, hb⟩
  replace hS := hS.below hb
  clear hb
  go_wp2_with fail
  go_ret
  exact ⟨rfl, ((((Below.refl _ _).alloc (Nat.le_refl _) _).alloc (by simp) _).alloc (by simp; omega) _).trans (hS.bel.mono (by simp; omega))⟩
set_option maxRecDepth 100000 in
set_option maxHeartbeats 4000000 in
theorem rules_31 (p u : Int) (w : World) (h1 : (IntKind.u64.wrap p).tmod 4 = 3) (h2 : (IntKind.u64.wrap u).tmod 4 = 1) : Calls Try.prog 6 #[.int .i64 p, .int .i64 u] w fun e w' => e = .returned (.bool true) ∧ Below w.heap.size w w' := by
  go_enter Try.func6, Try.ntmps6
  go_wp2_with fail
  refine (SS.new _).mono ?_
  rintro e w1 ⟨p, rfl, hS⟩
  obtain ⟨k, hz⟩ := box_at hS.bel (w.heap.size + 1 + 1) (by simp)
  have k0 : w1.cell? ⟨w.heap.size + 1 + 1, 0, none⟩ = some (.string ⟨#[]⟩) := k 0
  have k1 : w1.cell? ⟨w.heap.size + 1 + 1, 1, none⟩ = some (.string ⟨#[120, 109, 108, 110, 115]⟩) := k 1
  have k2 : w1.cell? ⟨w.heap.size + 1 + 1, 2, none⟩ = some (.string ⟨#[104, 116, 116, 112, 58, 47, 47, 119, 119, 119, 46, 119, 51, 46, 111, 114, 103, 47, 50, 48, 48, 48, 47, 120, 109, 108, 110, 115, 47]⟩) := k 2
  have k3 : w1.cell? ⟨w.heap.size + 1 + 1, 3, none⟩ = some (.string ⟨#[104, 116, 116, 112, 58, 47, 47, 119, 119, 119, 46, 119, 51, 46, 111, 114, 103, 47, 50, 48, 48, 48, 47, 120, 109, 108, 110, 115, 47]⟩) := k 3
  clear k
  go_wp2_with fail
  refine ((hS.alloc _).push _ _ [⟨⟨#[]⟩, ⟨#[120, 109, 108, 110, 115]⟩, ⟨#[104, 116, 116, 112, 58, 47, 47, 119, 119, 119, 46, 119, 51, 46, 111, 114, 103, 47, 50, 48, 48, 48, 47, 120, 109, 108, 110, 115, 47]⟩, ⟨#[104, 116, 116, 112, 58, 47, 47, 119, 119, 119, 46, 119, 51, 46, 111, 114, 103, 47, 50, 48, 48, 48, 47, 120, 109, 108, 110, 115, 47]⟩⟩] (cellsAt_block (heap_alloc_new _ _)) 1 rfl (by omega) (by decide) 2 [] (by decide +kernel) (by decide +kernel)).mono ?_
  clear hS k0 k1 k2 k3 hz
  rintro e w2 ⟨rfl, hS, -⟩
  go_wp2_with fail
  refine hS.depth.mono ?_
  rintro e w3 ⟨rfl, rfl⟩
  go_wp2_with fail
  refine (hS.uri ⟨#[]⟩ (by decide) (by decide) ⟨#[]⟩ true (by decide +kernel)).mono ?_
  rintro e w3 ⟨rfl, hb⟩
  replace hS := hS.below hb
  clear hb
  go_wp2_with fail
  refine (told_calls _).mono ?_
  rintro e w4 ⟨rfl, hb⟩
  replace hS := hS.below hb
  clear hb
  go_wp2_with fail
  go_ret
  exact ⟨rfl, ((((Below.refl _ _).alloc (Nat.le_refl _) _).alloc (by simp) _).alloc (by simp; omega) _).trans (hS.bel.mono (by simp; omega))⟩
set_option maxRecDepth 100000 in
set_option maxHeartbeats 4000000 in
theorem rules_32 (p u : Int) (w : World) (h1 : (IntKind.u64.wrap p).tmod 4 = 3) (h2 : (IntKind.u64.wrap u).tmod 4 = 2) : Calls Try.prog 6 #[.int .i64 p, .int .i64 u] w fun e w' => e = .returned (.bool true) ∧ Below w.heap.size w w' := by
  go_enter Try.func6, Try.ntmps6
  go_wp2_with fail
  refine (SS.new _).mono ?_
  rintro e w1 ⟨p, rfl, hS⟩
  obtain ⟨k, hz⟩ := box_at hS.bel (w.heap.size + 1 + 1) (by simp)
  have k0 : w1.cell? ⟨w.heap.size + 1 + 1, 0, none⟩ = some (.string ⟨#[]⟩) := k 0
  have k1 : w1.cell? ⟨w.heap.size + 1 + 1, 1, none⟩ = some (.string ⟨#[120, 109, 108, 110, 115]⟩) := k 1
  have k2 : w1.cell? ⟨w.heap.size + 1 + 1, 2, none⟩ = some (.string ⟨#[104, 116, 116, 112, 58, 47, 47, 119, 119, 119, 46, 119, 51, 46, 111, 114, 103, 47, 50, 48, 48, 48, 47, 120, 109, 108, 110, 115, 47]⟩) := k 2
  have k3 : w1.cell? ⟨w.heap.size + 1 + 1, 3, none⟩ = some (.string ⟨#[117]⟩) := k 3
  clear k
  go_wp2_with fail
  refine ((hS.alloc _).push _ _ [⟨⟨#[]⟩, ⟨#[120, 109, 108, 110, 115]⟩, ⟨#[104, 116, 116, 112, 58, 47, 47, 119, 119, 119, 46, 119, 51, 46, 111, 114, 103, 47, 50, 48, 48, 48, 47, 120, 109, 108, 110, 115, 47]⟩, ⟨#[117]⟩⟩] (cellsAt_block (heap_alloc_new _ _)) 1 rfl (by omega) (by decide) 0 [[⟨⟨#[]⟩, ⟨#[120, 109, 108, 110, 115]⟩, ⟨#[104, 116, 116, 112, 58, 47, 47, 119, 119, 119, 46, 119, 51, 46, 111, 114, 103, 47, 50, 48, 48, 48, 47, 120, 109, 108, 110, 115, 47]⟩, ⟨#[117]⟩⟩]] (by decide +kernel) (by decide +kernel)).mono ?_
  clear hS k0 k1 k2 k3 hz
  rintro e w2 ⟨rfl, hS, -⟩
  go_wp2_with fail
  refine hS.depth.mono ?_
  rintro e w3 ⟨rfl, rfl⟩
  go_wp2_with fail
  refine (hS.uri ⟨#[]⟩ (by decide) (by decide) ⟨#[117]⟩ true (by decide +kernel)).mono ?_
  rintro e w3 ⟨rfl, hb⟩
  replace hS := hS.below hb
  clear hb
  go_wp2_with fail
  refine (told_calls _).mono ?_
  rintro e w4 ⟨rfl, hb⟩
  replace hS := hS.below hb
  clear hb
  go_wp2_with fail
  go_ret
  exact ⟨rfl, ((((Below.refl _ _).alloc (Nat.le_refl _) _).alloc (by simp) _).alloc (by simp; omega) _).trans (hS.bel.mono (by simp; omega))⟩
set_option maxRecDepth 100000 in
set_option maxHeartbeats 4000000 in
theorem rules_33 (p u : Int) (w : World) (h1 : (IntKind.u64.wrap p).tmod 4 = 3) (h2 : (IntKind.u64.wrap u).tmod 4 = 3) : Calls Try.prog 6 #[.int .i64 p, .int .i64 u] w fun e w' => e = .returned (.bool true) ∧ Below w.heap.size w w' := by
  go_enter Try.func6, Try.ntmps6
  go_wp2_with fail
  refine (SS.new _).mono ?_
  rintro e w1 ⟨p, rfl, hS⟩
  obtain ⟨k, hz⟩ := box_at hS.bel (w.heap.size + 1 + 1) (by simp)
  have k0 : w1.cell? ⟨w.heap.size + 1 + 1, 0, none⟩ = some (.string ⟨#[]⟩) := k 0
  have k1 : w1.cell? ⟨w.heap.size + 1 + 1, 1, none⟩ = some (.string ⟨#[120, 109, 108, 110, 115]⟩) := k 1
  have k2 : w1.cell? ⟨w.heap.size + 1 + 1, 2, none⟩ = some (.string ⟨#[104, 116, 116, 112, 58, 47, 47, 119, 119, 119, 46, 119, 51, 46, 111, 114, 103, 47, 50, 48, 48, 48, 47, 120, 109, 108, 110, 115, 47]⟩) := k 2
  have k3 : w1.cell? ⟨w.heap.size + 1 + 1, 3, none⟩ = some (.string ⟨#[]⟩) := k 3
  clear k
  go_wp2_with fail
  refine ((hS.alloc _).push _ _ [⟨⟨#[]⟩, ⟨#[120, 109, 108, 110, 115]⟩, ⟨#[104, 116, 116, 112, 58, 47, 47, 119, 119, 119, 46, 119, 51, 46, 111, 114, 103, 47, 50, 48, 48, 48, 47, 120, 109, 108, 110, 115, 47]⟩, ⟨#[]⟩⟩] (cellsAt_block (heap_alloc_new _ _)) 1 rfl (by omega) (by decide) 0 [[⟨⟨#[]⟩, ⟨#[120, 109, 108, 110, 115]⟩, ⟨#[104, 116, 116, 112, 58, 47, 47, 119, 119, 119, 46, 119, 51, 46, 111, 114, 103, 47, 50, 48, 48, 48, 47, 120, 109, 108, 110, 115, 47]⟩, ⟨#[]⟩⟩]] (by decide +kernel) (by decide +kernel)).mono ?_
  clear hS k0 k1 k2 k3 hz
  rintro e w2 ⟨rfl, hS, -⟩
  go_wp2_with fail
  refine hS.depth.mono ?_
  rintro e w3 ⟨rfl, rfl⟩
  go_wp2_with fail
  refine (hS.uri ⟨#[]⟩ (by decide) (by decide) ⟨#[]⟩ true (by decide +kernel)).mono ?_
  rintro e w3 ⟨rfl, hb⟩
  replace hS := hS.below hb
  clear hb
  go_wp2_with fail
  refine (told_calls _).mono ?_
  rintro e w4 ⟨rfl, hb⟩
  replace hS := hS.below hb
  clear hb
  go_wp2_with fail
  go_ret
  exact ⟨rfl, ((((Below.refl _ _).alloc (Nat.le_refl _) _).alloc (by simp) _).alloc (by simp; omega) _).trans (hS.bel.mono (by simp; omega))⟩
theorem rules_walk (p u : Int) (w : World) (w0 : (Lit.int .i64 p).wf = true) (w1 : (Lit.int .i64 u).wf = true) : Calls Try.prog 6 #[.int .i64 p, .int .i64 u] w fun e w' => e = .returned (.bool true) ∧ Below w.heap.size w w' := by
  obtain ⟨a, ha, h1⟩ := rem_cases p 4 (by decide)
  obtain ⟨b, hb, h2⟩ := rem_cases u 4 (by decide)
  match a, b, ha, hb, h1, h2 with
  | 0, 0, _, _, h1, h2 => exact rules_00 p u w h1 h2
  | 0, 1, _, _, h1, h2 => exact rules_01 p u w h1 h2
  | 0, 2, _, _, h1, h2 => exact rules_02 p u w h1 h2
  | 0, 3, _, _, h1, h2 => exact rules_03 p u w h1 h2
  | 1, 0, _, _, h1, h2 => exact rules_10 p u w h1 h2
  | 1, 1, _, _, h1, h2 => exact rules_11 p u w h1 h2
  | 1, 2, _, _, h1, h2 => exact rules_12 p u w h1 h2
  | 1, 3, _, _, h1, h2 => exact rules_13 p u w h1 h2
  | 2, 0, _, _, h1, h2 => exact rules_20 p u w h1 h2
  | 2, 1, _, _, h1, h2 => exact rules_21 p u w h1 h2
  | 2, 2, _, _, h1, h2 => exact rules_22 p u w h1 h2
  | 2, 3, _, _, h1, h2 => exact rules_23 p u w h1 h2
  | 3, 0, _, _, h1, h2 => exact rules_30 p u w h1 h2
  | 3, 1, _, _, h1, h2 => exact rules_31 p u w h1 h2
  | 3, 2, _, _, h1, h2 => exact rules_32 p u w h1 h2
  | 3, 3, _, _, h1, h2 => exact rules_33 p u w h1 h2
end Go.Proofs.Ytfohbgcpdpnndaa.Sc
