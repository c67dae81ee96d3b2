/- What the law of references tells of a few: told. -/
import Derived.Test.YtiddhaakbcnbiaaRfSteps
namespace Go.Proofs.Ytiddhaakbcnbiaa.Rf
open Go.RowKit
set_option linter.unusedVariables false
abbrev toldE : List Ent := [⟨⟨#[101]⟩, ⟨#[97, 98, 99]⟩, false⟩, ⟨⟨#[120]⟩, ⟨#[]⟩, true⟩]
theorem told_row (w : World) (o : Nat) (h : ∀ i, i < 6 → w.cell? ⟨o, i, none⟩ = some ([Value.string ⟨#[101]⟩, .string ⟨#[97, 98, 99]⟩, .bool false, .string ⟨#[120]⟩, .string ⟨#[]⟩, .bool true].getD i (.bool false))) (hb : o < w.heap.size) : RowE w (some ⟨o, 0, none⟩) toldE := by
  intro i hi
  match i, hi with
  | 0, _ => exact ⟨o, 0, rfl, hb, h 0 (by omega), h 1 (by omega), h 2 (by omega)⟩
  | 1, _ => exact ⟨o, 0, rfl, hb, h 3 (by omega), h 4 (by omega), h 5 (by omega)⟩
set_option maxRecDepth 100000 in
set_option maxHeartbeats 4000000 in
theorem told_calls (w : World) : Calls Try.prog 11 #[] w fun e w' => e = .returned (.bool true) ∧ Below w.heap.size w w' := by
  go_enter Try.func11, Try.ntmps11
  go_wp2_with fail
  refine (new_RS _ _ 2 _ _ toldE _ (told_row _ w.heap.size (by intro i hi; match i, hi with | 0, _ | 1, _ | 2, _ | 3, _ | 4, _ | 5, _ => rw [cell_of (heap_alloc_new w _)]; rfl) (by simp)) rfl (by omega)).mono ?_
  rintro e w1 ⟨p, rfl, h1⟩
  go_wp2_with fail
  refine (h1.get ⟨#[108, 116]⟩ ⟨#[60]⟩ true 0 (by decide +kernel)).mono ?_
  clear h1
  rintro e w2 ⟨rfl, h2⟩
  go_wp2_with fail
  refine (h2.get ⟨#[101]⟩ ⟨#[97, 98, 99]⟩ false 0 (by decide +kernel)).mono ?_
  clear h2
  rintro e w3 ⟨rfl, h3⟩
  go_wp2_with fail
  refine (h3.get ⟨#[120]⟩ ⟨#[]⟩ false 5 (by decide +kernel)).mono ?_
  clear h3
  rintro e w4 ⟨rfl, h4⟩
  go_wp2_with fail
  refine (h4.get ⟨#[121]⟩ ⟨#[]⟩ false 6 (by decide +kernel)).mono ?_
  clear h4
  rintro e w5 ⟨rfl, h5⟩
  go_wp2_with fail
  refine (h5.opens ⟨#[101]⟩ 5 (by decide) (by decide) (by decide) (by decide) (by decide) (by decide +kernel) ⟨#[97, 98, 99]⟩ 0 [⟨#[101]⟩] 3 (by decide +kernel)).mono ?_
  clear h5
  rintro e w6 ⟨rfl, h6⟩
  go_wp2_with fail
  refine (h6.opens ⟨#[101]⟩ 50 (by decide) (by decide) (by decide) (by decide) (by decide) (by decide +kernel) ⟨#[]⟩ 1 [⟨#[101]⟩] 3 (by decide +kernel)).mono ?_
  clear h6
  rintro e w7 ⟨rfl, h7⟩
  go_wp2_with fail
  refine (h7.opens ⟨#[108, 116]⟩ 50 (by decide) (by decide) (by decide) (by decide) (by decide) (by decide +kernel) ⟨#[]⟩ 6 [⟨#[101]⟩] 3 (by decide +kernel)).mono ?_
  clear h7
  rintro e w8 ⟨rfl, h8⟩
  go_wp2_with fail
  refine (h8.closes ⟨#[120]⟩ (by decide) false [⟨#[101]⟩] (by decide +kernel)).mono ?_
  clear h8
  rintro e w9 ⟨rfl, h9⟩
  go_wp2_with fail
  refine (h9.closes ⟨#[101]⟩ (by decide) true [] (by decide +kernel)).mono ?_
  clear h9
  rintro e w10 ⟨rfl, h10⟩
  go_wp2_with fail
  refine (h10.opens ⟨#[101]⟩ 5 (by decide) (by decide) (by decide) (by decide) (by decide) (by decide +kernel) ⟨#[]⟩ 3 [] 3 (by decide +kernel)).mono ?_
  clear h10
  rintro e w11 ⟨rfl, h11⟩
  go_wp2_with fail
  refine (h11.spends 2 5 (by decide) (by decide) (by decide) (by decide) (by decide) (by decide) 0 5 (by decide +kernel)).mono ?_
  clear h11
  rintro e w12 ⟨rfl, h12⟩
  go_wp2_with fail
  refine (h12.spends 1 5 (by decide) (by decide) (by decide) (by decide) (by decide) (by decide) 3 5 (by decide +kernel)).mono ?_
  clear h12
  rintro e w13 ⟨rfl, h13⟩
  go_wp2_with fail
  refine (open_nil _ _ _).mono ?_
  rintro e w14 ⟨rfl, hb⟩
  replace h13 := h13.below hb
  clear hb
  go_wp2_with fail
  refine h13.spent.mono ?_
  rintro e w' ⟨rfl, rfl⟩
  go_wp2_with fail
  refine h13.depth.mono ?_
  rintro e w' ⟨rfl, rfl⟩
  go_wp2_with fail
  refine (spent_nil _).mono ?_
  rintro e w' ⟨rfl, rfl⟩
  go_wp2_with fail
  go_ret
  exact ⟨rfl, ((Below.refl _ _).alloc (Nat.le_refl _) _).trans (h13.bel.mono (by simp))⟩
end Go.Proofs.Ytiddhaakbcnbiaa.Rf
