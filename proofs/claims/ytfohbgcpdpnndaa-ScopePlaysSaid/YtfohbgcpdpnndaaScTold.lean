/- What the law of namespaces tells of a few: told. -/
import Derived.Test.YtfohbgcpdpnndaaScS
namespace Go.Proofs.Ytfohbgcpdpnndaa.Sc
open Go.RowKit Go.Proofs.Ytfohbgcpdpnndaa.Ow
set_option linter.unusedVariables false
set_option maxRecDepth 100000 in
set_option maxHeartbeats 8000000 in
theorem told_calls (w : World) : Calls Try.prog 15 #[] w fun e w' => e = .returned (.bool true) ∧ Below w.heap.size w w' := by
  go_enter Try.func15, Try.ntmps15
  go_wp2_with fail
  refine (SS.new _).mono ?_
  rintro e w1 ⟨p, rfl, h1⟩
  go_wp2_with fail
  refine ((h1.alloc _).push _ _ [⟨⟨#[]⟩, ⟨#[120, 109, 108, 110, 115]⟩, ⟨#[104, 116, 116, 112, 58, 47, 47, 119, 119, 119, 46, 119, 51, 46, 111, 114, 103, 47, 50, 48, 48, 48, 47, 120, 109, 108, 110, 115, 47]⟩, ⟨#[100]⟩⟩, ⟨⟨#[120, 109, 108, 110, 115]⟩, ⟨#[112]⟩, ⟨#[104, 116, 116, 112, 58, 47, 47, 119, 119, 119, 46, 119, 51, 46, 111, 114, 103, 47, 50, 48, 48, 48, 47, 120, 109, 108, 110, 115, 47]⟩, ⟨#[117]⟩⟩, ⟨⟨#[]⟩, ⟨#[120]⟩, ⟨#[]⟩, ⟨#[121]⟩⟩] (cellsAt_block (heap_alloc_new _ _)) 3 rfl (by omega) (by decide) 0 [[⟨⟨#[]⟩, ⟨#[120, 109, 108, 110, 115]⟩, ⟨#[104, 116, 116, 112, 58, 47, 47, 119, 119, 119, 46, 119, 51, 46, 111, 114, 103, 47, 50, 48, 48, 48, 47, 120, 109, 108, 110, 115, 47]⟩, ⟨#[100]⟩⟩, ⟨⟨#[120, 109, 108, 110, 115]⟩, ⟨#[112]⟩, ⟨#[104, 116, 116, 112, 58, 47, 47, 119, 119, 119, 46, 119, 51, 46, 111, 114, 103, 47, 50, 48, 48, 48, 47, 120, 109, 108, 110, 115, 47]⟩, ⟨#[117]⟩⟩]] (by decide +kernel) (by decide +kernel)).mono ?_
  clear h1
  rintro e w2 ⟨rfl, h2, -⟩
  go_wp2_with fail
  refine ((h2.alloc _).push _ _ [⟨⟨#[]⟩, ⟨#[120, 109, 108, 110, 115]⟩, ⟨#[104, 116, 116, 112, 58, 47, 47, 119, 119, 119, 46, 119, 51, 46, 111, 114, 103, 47, 50, 48, 48, 48, 47, 120, 109, 108, 110, 115, 47]⟩, ⟨#[]⟩⟩, ⟨⟨#[120, 109, 108, 110, 115]⟩, ⟨#[97]⟩, ⟨#[104, 116, 116, 112, 58, 47, 47, 119, 119, 119, 46, 119, 51, 46, 111, 114, 103, 47, 50, 48, 48, 48, 47, 120, 109, 108, 110, 115, 47]⟩, ⟨#[117]⟩⟩] (cellsAt_block (heap_alloc_new _ _)) 2 rfl (by omega) (by decide) 0 [[⟨⟨#[]⟩, ⟨#[120, 109, 108, 110, 115]⟩, ⟨#[104, 116, 116, 112, 58, 47, 47, 119, 119, 119, 46, 119, 51, 46, 111, 114, 103, 47, 50, 48, 48, 48, 47, 120, 109, 108, 110, 115, 47]⟩, ⟨#[100]⟩⟩, ⟨⟨#[120, 109, 108, 110, 115]⟩, ⟨#[112]⟩, ⟨#[104, 116, 116, 112, 58, 47, 47, 119, 119, 119, 46, 119, 51, 46, 111, 114, 103, 47, 50, 48, 48, 48, 47, 120, 109, 108, 110, 115, 47]⟩, ⟨#[117]⟩⟩], [⟨⟨#[]⟩, ⟨#[120, 109, 108, 110, 115]⟩, ⟨#[104, 116, 116, 112, 58, 47, 47, 119, 119, 119, 46, 119, 51, 46, 111, 114, 103, 47, 50, 48, 48, 48, 47, 120, 109, 108, 110, 115, 47]⟩, ⟨#[]⟩⟩, ⟨⟨#[120, 109, 108, 110, 115]⟩, ⟨#[97]⟩, ⟨#[104, 116, 116, 112, 58, 47, 47, 119, 119, 119, 46, 119, 51, 46, 111, 114, 103, 47, 50, 48, 48, 48, 47, 120, 109, 108, 110, 115, 47]⟩, ⟨#[117]⟩⟩]] (by decide +kernel) (by decide +kernel)).mono ?_
  clear h2
  rintro e w3 ⟨rfl, h3, -⟩
  go_wp2_with fail
  refine ((h3.alloc _).push _ _ [⟨⟨#[120, 109, 108, 110, 115]⟩, ⟨#[112]⟩, ⟨#[104, 116, 116, 112, 58, 47, 47, 119, 119, 119, 46, 119, 51, 46, 111, 114, 103, 47, 50, 48, 48, 48, 47, 120, 109, 108, 110, 115, 47]⟩, ⟨#[]⟩⟩] (cellsAt_block (heap_alloc_new _ _)) 1 rfl (by omega) (by decide) 2 [[⟨⟨#[]⟩, ⟨#[120, 109, 108, 110, 115]⟩, ⟨#[104, 116, 116, 112, 58, 47, 47, 119, 119, 119, 46, 119, 51, 46, 111, 114, 103, 47, 50, 48, 48, 48, 47, 120, 109, 108, 110, 115, 47]⟩, ⟨#[100]⟩⟩, ⟨⟨#[120, 109, 108, 110, 115]⟩, ⟨#[112]⟩, ⟨#[104, 116, 116, 112, 58, 47, 47, 119, 119, 119, 46, 119, 51, 46, 111, 114, 103, 47, 50, 48, 48, 48, 47, 120, 109, 108, 110, 115, 47]⟩, ⟨#[117]⟩⟩], [⟨⟨#[]⟩, ⟨#[120, 109, 108, 110, 115]⟩, ⟨#[104, 116, 116, 112, 58, 47, 47, 119, 119, 119, 46, 119, 51, 46, 111, 114, 103, 47, 50, 48, 48, 48, 47, 120, 109, 108, 110, 115, 47]⟩, ⟨#[]⟩⟩, ⟨⟨#[120, 109, 108, 110, 115]⟩, ⟨#[97]⟩, ⟨#[104, 116, 116, 112, 58, 47, 47, 119, 119, 119, 46, 119, 51, 46, 111, 114, 103, 47, 50, 48, 48, 48, 47, 120, 109, 108, 110, 115, 47]⟩, ⟨#[117]⟩⟩]] (by decide +kernel) (by decide +kernel)).mono ?_
  clear h3
  rintro e w4 ⟨rfl, h4, -⟩
  go_wp2_with fail
  refine (h4.uri ⟨#[112]⟩ (by decide) (by decide) ⟨#[117]⟩ true (by decide +kernel)).mono ?_
  rintro e w5 ⟨rfl, hb⟩
  have h5 := h4.below hb
  clear h4 hb
  go_wp2_with fail
  refine (h5.uri ⟨#[]⟩ (by decide) (by decide) ⟨#[]⟩ true (by decide +kernel)).mono ?_
  rintro e w6 ⟨rfl, hb⟩
  have h6 := h5.below hb
  clear h5 hb
  go_wp2_with fail
  refine (h6.uri ⟨#[113]⟩ (by decide) (by decide) ⟨#[]⟩ false (by decide +kernel)).mono ?_
  rintro e w7 ⟨rfl, hb⟩
  have h7 := h6.below hb
  clear h6 hb
  go_wp2_with fail
  refine (h7.prefixes ⟨#[117]⟩ (by decide) (by decide) ⟨#[97]⟩ true (by decide +kernel)).mono ?_
  rintro e w8 ⟨rfl, hb⟩
  have h8 := h7.below hb
  clear h7 hb
  go_wp2_with fail
  refine (h8.prefixes ⟨#[]⟩ (by decide) (by decide) ⟨#[]⟩ false (by decide +kernel)).mono ?_
  rintro e w9 ⟨rfl, hb⟩
  have h9 := h8.below hb
  clear h8 hb
  go_wp2_with fail
  refine (h9.all (by decide) (by decide) [⟨⟨#[120, 109, 108, 110, 115]⟩, ⟨#[97]⟩, ⟨#[104, 116, 116, 112, 58, 47, 47, 119, 119, 119, 46, 119, 51, 46, 111, 114, 103, 47, 50, 48, 48, 48, 47, 120, 109, 108, 110, 115, 47]⟩, ⟨#[117]⟩⟩, ⟨⟨#[120, 109, 108, 110, 115]⟩, ⟨#[112]⟩, ⟨#[104, 116, 116, 112, 58, 47, 47, 119, 119, 119, 46, 119, 51, 46, 111, 114, 103, 47, 50, 48, 48, 48, 47, 120, 109, 108, 110, 115, 47]⟩, ⟨#[117]⟩⟩, ⟨⟨#[120, 109, 108, 110, 115]⟩, ⟨#[120, 109, 108]⟩, ⟨#[104, 116, 116, 112, 58, 47, 47, 119, 119, 119, 46, 119, 51, 46, 111, 114, 103, 47, 50, 48, 48, 48, 47, 120, 109, 108, 110, 115, 47]⟩, ⟨#[104, 116, 116, 112, 58, 47, 47, 119, 119, 119, 46, 119, 51, 46, 111, 114, 103, 47, 88, 77, 76, 47, 49, 57, 57, 56, 47, 110, 97, 109, 101, 115, 112, 97, 99, 101]⟩⟩] (by decide +kernel)).mono ?_
  rintro e w10 ⟨A, cap, rfl, ho, hb⟩
  have h10 := h9.below hb
  clear h9 hb
  go_wp2_with fail
  refine h10.depth.mono ?_
  rintro e w' ⟨rfl, rfl⟩
  go_wp2_with fail
  refine (h10.pop (by decide) true [[⟨⟨#[]⟩, ⟨#[120, 109, 108, 110, 115]⟩, ⟨#[104, 116, 116, 112, 58, 47, 47, 119, 119, 119, 46, 119, 51, 46, 111, 114, 103, 47, 50, 48, 48, 48, 47, 120, 109, 108, 110, 115, 47]⟩, ⟨#[100]⟩⟩, ⟨⟨#[120, 109, 108, 110, 115]⟩, ⟨#[112]⟩, ⟨#[104, 116, 116, 112, 58, 47, 47, 119, 119, 119, 46, 119, 51, 46, 111, 114, 103, 47, 50, 48, 48, 48, 47, 120, 109, 108, 110, 115, 47]⟩, ⟨#[117]⟩⟩]] (by rfl) (by rfl)).mono ?_
  clear h10
  rintro e w11 ⟨rfl, h11, hk⟩
  replace ho := hk.2 _ _ _ _ _ _ (by decide) (by decide) ho
  clear hk
  go_wp2_with fail
  refine (h11.pop (by decide) true [] (by rfl) (by rfl)).mono ?_
  clear h11
  rintro e w12 ⟨rfl, h12, hk⟩
  replace ho := hk.2 _ _ _ _ _ _ (by decide) (by decide) ho
  clear hk
  go_wp2_with fail
  refine (h12.pop (by decide) false [] (by rfl) (by rfl)).mono ?_
  clear h12
  rintro e w13 ⟨rfl, h13, hk⟩
  replace ho := hk.2 _ _ _ _ _ _ (by decide) (by decide) ho
  clear hk
  obtain ⟨A', cap', hA', hC, -⟩ := cellsAt_of_own ho rfl
  cases hA'
  obtain ⟨g, o, rfl, hg, -, c01, -, -⟩ := hC 0 (by decide)
  obtain ⟨g', o', hgg, -, -, c21, -, -⟩ := hC 2 (by decide)
  cases hgg
  have d01 : Hid (_ = some (Value.string ⟨#[97]⟩)) := Lib.hid c01
  have d21 : Hid (_ = some (Value.string ⟨#[120, 109, 108]⟩)) := Lib.hid c21
  clear c01 c21 hC ho
  go_wp2_with fail
  refine (h13.uri ⟨#[120, 109, 108]⟩ (by decide) (by decide) ⟨#[104, 116, 116, 112, 58, 47, 47, 119, 119, 119, 46, 119, 51, 46, 111, 114, 103, 47, 88, 77, 76, 47, 49, 57, 57, 56, 47, 110, 97, 109, 101, 115, 112, 97, 99, 101]⟩ true (by decide +kernel)).mono ?_
  rintro e wz ⟨rfl, hb⟩
  have k01 := (hb.cell (p := ⟨g, o + 0 * 4 + 1, none⟩) hg).trans d01.out
  have k21 := (hb.cell (p := ⟨g, o + 2 * 4 + 1, none⟩) hg).trans d21.out
  have hgz : g < wz.heap.size := Nat.lt_of_lt_of_le hg hb.size
  have hz := h13.below hb
  clear h13 hb d01 d21 hg
  have k01' : wz.cell? ⟨g, o + 1, none⟩ = some (.string ⟨#[97]⟩) := by simpa using k01
  have k21' : wz.cell? ⟨g, o + 8 + 1, none⟩ = some (.string ⟨#[120, 109, 108]⟩) := by simpa using k21
  clear k01 k21
  go_wp2_with fail
  go_ret
  exact ⟨rfl, hz.bel⟩
end Go.Proofs.Ytfohbgcpdpnndaa.Sc
