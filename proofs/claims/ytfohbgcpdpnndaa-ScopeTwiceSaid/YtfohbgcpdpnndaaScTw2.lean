/- The walk of ScopeTwice. -/
import Derived.Test.YtfohbgcpdpnndaaScTwo
namespace Go.Proofs.Ytfohbgcpdpnndaa.Sc
open Go.RowKit Go.Proofs.Ytfohbgcpdpnndaa.Ow
set_option linter.unusedVariables false
set_option maxRecDepth 100000 in
set_option maxHeartbeats 8000000 in
theorem twice_200 (p a b : Int) (w : World) (h1 : (IntKind.u64.wrap p).tmod 4 = 2) (h2 : (IntKind.u64.wrap a).tmod 3 = 0) (h3 : (IntKind.u64.wrap b).tmod 3 = 0) : Calls Try.prog 7 #[.int .i64 p, .int .i64 a, .int .i64 b] w fun e w' => e = .returned (.bool true) ∧ Below w.heap.size w w' := by
  go_enter Try.func7, Try.ntmps7
  go_wp2
  go_region
  all_goals
    skip
    go_wp2_with fail
    refine (SS.new _).mono ?_
    rintro e w1 ⟨s, rfl, hS⟩
    have hm := own_kept_below (box_own (a := ⟨⟨#[120, 109, 108, 110, 115]⟩, ⟨#[113]⟩, ⟨#[104, 116, 116, 112, 58, 47, 47, 119, 119, 119, 46, 119, 51, 46, 111, 114, 103, 47, 50, 48, 48, 48, 47, 120, 109, 108, 110, 115, 47]⟩, ⟨#[117]⟩⟩) (n := w.heap.size + 1 + 1 + 1) (box_two (by simp))) hS.bel
    have hn := own_kept_below (box_own (a := ⟨⟨#[120, 109, 108, 110, 115]⟩, ⟨#[113]⟩, ⟨#[104, 116, 116, 112, 58, 47, 47, 119, 119, 119, 46, 119, 51, 46, 111, 114, 103, 47, 50, 48, 48, 48, 47, 120, 109, 108, 110, 115, 47]⟩, ⟨#[117]⟩⟩) (n := w.heap.size + 1 + 1 + 1 + 1) (box_last (by simp))) hS.bel
    obtain ⟨m0, m1, m2, m3, ml⟩ := box_cells hm
    obtain ⟨n0, n1, n2, n3, nl⟩ := box_cells hn
    go_wp2_with fail
    refine ((hS.alloc _).push _ _ [⟨⟨#[120, 109, 108, 110, 115]⟩, ⟨#[113]⟩, ⟨#[104, 116, 116, 112, 58, 47, 47, 119, 119, 119, 46, 119, 51, 46, 111, 114, 103, 47, 50, 48, 48, 48, 47, 120, 109, 108, 110, 115, 47]⟩, ⟨#[117]⟩⟩, ⟨⟨#[120, 109, 108, 110, 115]⟩, ⟨#[113]⟩, ⟨#[104, 116, 116, 112, 58, 47, 47, 119, 119, 119, 46, 119, 51, 46, 111, 114, 103, 47, 50, 48, 48, 48, 47, 120, 109, 108, 110, 115, 47]⟩, ⟨#[117]⟩⟩] (cellsAt_block (heap_alloc_new _ _)) 2 rfl (by omega) (by decide) 2 [] (by decide +kernel) (by decide +kernel)).mono ?_
    rintro e w2 ⟨rfl, hS2, hk⟩
    have hm2 := hk.2 _ _ _ _ _ _ (by decide) (by decide) (own_kept_below hm ((Below.refl _ _).alloc (Nat.le_refl _) _))
    have hn2 := hk.2 _ _ _ _ _ _ (by decide) (by decide) (own_kept_below hn ((Below.refl _ _).alloc (Nat.le_refl _) _))
    clear hS hm hn m0 m1 m2 m3 ml n0 n1 n2 n3 nl hk
    obtain ⟨m0, m1, m2, m3, ml⟩ := box_cells hm2
    obtain ⟨n0, n1, n2, n3, nl⟩ := box_cells hn2
    go_wp2_with fail
    refine hS2.depth.mono ?_
    rintro e w3 ⟨rfl, rfl⟩
    go_wp2_with fail
    refine ((hS2.alloc _).push _ _ [⟨⟨#[120, 109, 108, 110, 115]⟩, ⟨#[113]⟩, ⟨#[104, 116, 116, 112, 58, 47, 47, 119, 119, 119, 46, 119, 51, 46, 111, 114, 103, 47, 50, 48, 48, 48, 47, 120, 109, 108, 110, 115, 47]⟩, ⟨#[117]⟩⟩] (cellsAt_block (heap_alloc_new _ _)) 1 rfl (by omega) (by decide) 0 [[⟨⟨#[120, 109, 108, 110, 115]⟩, ⟨#[113]⟩, ⟨#[104, 116, 116, 112, 58, 47, 47, 119, 119, 119, 46, 119, 51, 46, 111, 114, 103, 47, 50, 48, 48, 48, 47, 120, 109, 108, 110, 115, 47]⟩, ⟨#[117]⟩⟩]] (by decide +kernel) (by decide +kernel)).mono ?_
    rintro e w3 ⟨rfl, hS3, hk⟩
    have hn3 := hk.2 _ _ _ _ _ _ (by decide) (by decide) (own_kept_below hn2 ((Below.refl _ _).alloc (Nat.le_refl _) _))
    clear hS2 hm2 hn2 m0 m1 m2 m3 ml n0 n1 n2 n3 nl hk
    obtain ⟨n0, n1, n2, n3, nl⟩ := box_cells hn3
    go_wp2_with fail
    refine ((hS3.alloc _).push _ _ [⟨⟨#[120, 109, 108, 110, 115]⟩, ⟨#[113]⟩, ⟨#[104, 116, 116, 112, 58, 47, 47, 119, 119, 119, 46, 119, 51, 46, 111, 114, 103, 47, 50, 48, 48, 48, 47, 120, 109, 108, 110, 115, 47]⟩, ⟨#[117]⟩⟩] (cellsAt_block (heap_alloc_new _ _)) 1 rfl (by omega) (by decide) 0 [[⟨⟨#[120, 109, 108, 110, 115]⟩, ⟨#[113]⟩, ⟨#[104, 116, 116, 112, 58, 47, 47, 119, 119, 119, 46, 119, 51, 46, 111, 114, 103, 47, 50, 48, 48, 48, 47, 120, 109, 108, 110, 115, 47]⟩, ⟨#[117]⟩⟩], [⟨⟨#[120, 109, 108, 110, 115]⟩, ⟨#[113]⟩, ⟨#[104, 116, 116, 112, 58, 47, 47, 119, 119, 119, 46, 119, 51, 46, 111, 114, 103, 47, 50, 48, 48, 48, 47, 120, 109, 108, 110, 115, 47]⟩, ⟨#[117]⟩⟩]] (by decide +kernel) (by decide +kernel)).mono ?_
    rintro e w4 ⟨rfl, hS4, -⟩
    clear hS3 hn3 n0 n1 n2 n3 nl
    have hW := hS4.bel.mono (B' := w.heap.size) (by simp; omega)
    have hW2 := ((((((Below.refl _ _).alloc (Nat.le_refl w.heap.size) _).alloc (by simp) _).alloc (by simp; omega) _).alloc (by simp; omega) _).alloc (by simp; omega) _).drew.trans hW
    clear hW
    go_wp2_with fail
    refine (hS4.uri ⟨#[113]⟩ (by decide) (by decide) ⟨#[117]⟩ true (by decide +kernel)).mono ?_
    rintro e w5 ⟨rfl, hb⟩
    have hS5 := hS4.below hb
    have hW3 := hW2.trans (hb.mono hW2.size)
    clear hb hS4 hW2
    go_wp2_with fail
    refine (hS5.all (by decide) (by decide) [⟨⟨#[120, 109, 108, 110, 115]⟩, ⟨#[113]⟩, ⟨#[104, 116, 116, 112, 58, 47, 47, 119, 119, 119, 46, 119, 51, 46, 111, 114, 103, 47, 50, 48, 48, 48, 47, 120, 109, 108, 110, 115, 47]⟩, ⟨#[117]⟩⟩, ⟨⟨#[120, 109, 108, 110, 115]⟩, ⟨#[120, 109, 108]⟩, ⟨#[104, 116, 116, 112, 58, 47, 47, 119, 119, 119, 46, 119, 51, 46, 111, 114, 103, 47, 50, 48, 48, 48, 47, 120, 109, 108, 110, 115, 47]⟩, ⟨#[104, 116, 116, 112, 58, 47, 47, 119, 119, 119, 46, 119, 51, 46, 111, 114, 103, 47, 88, 77, 76, 47, 49, 57, 57, 56, 47, 110, 97, 109, 101, 115, 112, 97, 99, 101]⟩⟩] (by decide +kernel)).mono ?_
    rintro e w6 ⟨A, cap, rfl, ho, hb⟩
    have hS6 := hS5.below hb
    have hW4 := hW3.trans (hb.mono hW3.size)
    clear hb hS5 hW3
    obtain ⟨A', cap', hA', hC, -⟩ := cellsAt_of_own ho rfl
    cases hA'
    obtain ⟨g, o, rfl, hg, -, -, -, c03⟩ := hC 0 (by decide)
    have d03 : Hid (_ = some (Value.string ⟨#[117]⟩)) := Lib.hid c03
    clear c03 hC ho
    go_wp2_with fail
    refine (hS6.prefixes ⟨#[117]⟩ (by decide) (by decide) ⟨#[113]⟩ true (by decide +kernel)).mono ?_
    rintro e w7 ⟨rfl, hb7⟩
    have hS7 := hS6.below hb7
    go_wp2_with fail
    refine (hS7.prefixes ⟨#[117]⟩ (by decide) (by decide) ⟨#[113]⟩ true (by decide +kernel)).mono ?_
    rintro e w8 ⟨rfl, hb8⟩
    go_wp2_with fail
    refine (told_calls _).mono ?_
    rintro e w9 ⟨rfl, hb9⟩
    have hz := (hb7.trans (hb8.mono hb7.size)).trans (hb9.mono (Nat.le_trans hb7.size hb8.size))
    have hgz : g < w9.heap.size := Nat.lt_of_lt_of_le hg hz.size
    have k03 := (hz.cell (p := ⟨g, o + 0 * 4 + 3, none⟩) hg).trans d03.out
    have k03' : w9.cell? ⟨g, o + 3, none⟩ = some (.string ⟨#[117]⟩) := by simpa using k03
    have hW5 := hW4.trans (hz.mono hW4.size)
    clear hb7 hb8 hb9 hz hS7 hS6 d03 k03 hg hW4
    go_wp2_with fail
    go_ret
    exact ⟨rfl, hW5⟩
set_option maxRecDepth 100000 in
set_option maxHeartbeats 8000000 in
theorem twice_201 (p a b : Int) (w : World) (h1 : (IntKind.u64.wrap p).tmod 4 = 2) (h2 : (IntKind.u64.wrap a).tmod 3 = 0) (h3 : (IntKind.u64.wrap b).tmod 3 = 1) : Calls Try.prog 7 #[.int .i64 p, .int .i64 a, .int .i64 b] w fun e w' => e = .returned (.bool true) ∧ Below w.heap.size w w' := by
  go_enter Try.func7, Try.ntmps7
  go_wp2
  go_region
  all_goals
    skip
    go_wp2_with fail
    refine (SS.new _).mono ?_
    rintro e w1 ⟨s, rfl, hS⟩
    have hm := own_kept_below (box_own (a := ⟨⟨#[120, 109, 108, 110, 115]⟩, ⟨#[113]⟩, ⟨#[104, 116, 116, 112, 58, 47, 47, 119, 119, 119, 46, 119, 51, 46, 111, 114, 103, 47, 50, 48, 48, 48, 47, 120, 109, 108, 110, 115, 47]⟩, ⟨#[117]⟩⟩) (n := w.heap.size + 1 + 1 + 1) (box_two (by simp))) hS.bel
    have hn := own_kept_below (box_own (a := ⟨⟨#[120, 109, 108, 110, 115]⟩, ⟨#[113]⟩, ⟨#[104, 116, 116, 112, 58, 47, 47, 119, 119, 119, 46, 119, 51, 46, 111, 114, 103, 47, 50, 48, 48, 48, 47, 120, 109, 108, 110, 115, 47]⟩, ⟨#[118]⟩⟩) (n := w.heap.size + 1 + 1 + 1 + 1) (box_last (by simp))) hS.bel
    obtain ⟨m0, m1, m2, m3, ml⟩ := box_cells hm
    obtain ⟨n0, n1, n2, n3, nl⟩ := box_cells hn
    go_wp2_with fail
    refine ((hS.alloc _).push _ _ [⟨⟨#[120, 109, 108, 110, 115]⟩, ⟨#[113]⟩, ⟨#[104, 116, 116, 112, 58, 47, 47, 119, 119, 119, 46, 119, 51, 46, 111, 114, 103, 47, 50, 48, 48, 48, 47, 120, 109, 108, 110, 115, 47]⟩, ⟨#[117]⟩⟩, ⟨⟨#[120, 109, 108, 110, 115]⟩, ⟨#[113]⟩, ⟨#[104, 116, 116, 112, 58, 47, 47, 119, 119, 119, 46, 119, 51, 46, 111, 114, 103, 47, 50, 48, 48, 48, 47, 120, 109, 108, 110, 115, 47]⟩, ⟨#[118]⟩⟩] (cellsAt_block (heap_alloc_new _ _)) 2 rfl (by omega) (by decide) 2 [] (by decide +kernel) (by decide +kernel)).mono ?_
    rintro e w2 ⟨rfl, hS2, hk⟩
    have hm2 := hk.2 _ _ _ _ _ _ (by decide) (by decide) (own_kept_below hm ((Below.refl _ _).alloc (Nat.le_refl _) _))
    have hn2 := hk.2 _ _ _ _ _ _ (by decide) (by decide) (own_kept_below hn ((Below.refl _ _).alloc (Nat.le_refl _) _))
    clear hS hm hn m0 m1 m2 m3 ml n0 n1 n2 n3 nl hk
    obtain ⟨m0, m1, m2, m3, ml⟩ := box_cells hm2
    obtain ⟨n0, n1, n2, n3, nl⟩ := box_cells hn2
    go_wp2_with fail
    refine hS2.depth.mono ?_
    rintro e w3 ⟨rfl, rfl⟩
    go_wp2_with fail
    refine ((hS2.alloc _).push _ _ [⟨⟨#[120, 109, 108, 110, 115]⟩, ⟨#[113]⟩, ⟨#[104, 116, 116, 112, 58, 47, 47, 119, 119, 119, 46, 119, 51, 46, 111, 114, 103, 47, 50, 48, 48, 48, 47, 120, 109, 108, 110, 115, 47]⟩, ⟨#[117]⟩⟩] (cellsAt_block (heap_alloc_new _ _)) 1 rfl (by omega) (by decide) 0 [[⟨⟨#[120, 109, 108, 110, 115]⟩, ⟨#[113]⟩, ⟨#[104, 116, 116, 112, 58, 47, 47, 119, 119, 119, 46, 119, 51, 46, 111, 114, 103, 47, 50, 48, 48, 48, 47, 120, 109, 108, 110, 115, 47]⟩, ⟨#[117]⟩⟩]] (by decide +kernel) (by decide +kernel)).mono ?_
    rintro e w3 ⟨rfl, hS3, hk⟩
    have hn3 := hk.2 _ _ _ _ _ _ (by decide) (by decide) (own_kept_below hn2 ((Below.refl _ _).alloc (Nat.le_refl _) _))
    clear hS2 hm2 hn2 m0 m1 m2 m3 ml n0 n1 n2 n3 nl hk
    obtain ⟨n0, n1, n2, n3, nl⟩ := box_cells hn3
    go_wp2_with fail
    refine ((hS3.alloc _).push _ _ [⟨⟨#[120, 109, 108, 110, 115]⟩, ⟨#[113]⟩, ⟨#[104, 116, 116, 112, 58, 47, 47, 119, 119, 119, 46, 119, 51, 46, 111, 114, 103, 47, 50, 48, 48, 48, 47, 120, 109, 108, 110, 115, 47]⟩, ⟨#[118]⟩⟩] (cellsAt_block (heap_alloc_new _ _)) 1 rfl (by omega) (by decide) 0 [[⟨⟨#[120, 109, 108, 110, 115]⟩, ⟨#[113]⟩, ⟨#[104, 116, 116, 112, 58, 47, 47, 119, 119, 119, 46, 119, 51, 46, 111, 114, 103, 47, 50, 48, 48, 48, 47, 120, 109, 108, 110, 115, 47]⟩, ⟨#[117]⟩⟩], [⟨⟨#[120, 109, 108, 110, 115]⟩, ⟨#[113]⟩, ⟨#[104, 116, 116, 112, 58, 47, 47, 119, 119, 119, 46, 119, 51, 46, 111, 114, 103, 47, 50, 48, 48, 48, 47, 120, 109, 108, 110, 115, 47]⟩, ⟨#[118]⟩⟩]] (by decide +kernel) (by decide +kernel)).mono ?_
    rintro e w4 ⟨rfl, hS4, -⟩
    clear hS3 hn3 n0 n1 n2 n3 nl
    have hW := hS4.bel.mono (B' := w.heap.size) (by simp; omega)
    have hW2 := ((((((Below.refl _ _).alloc (Nat.le_refl w.heap.size) _).alloc (by simp) _).alloc (by simp; omega) _).alloc (by simp; omega) _).alloc (by simp; omega) _).drew.trans hW
    clear hW
    go_wp2_with fail
    refine (hS4.uri ⟨#[113]⟩ (by decide) (by decide) ⟨#[118]⟩ true (by decide +kernel)).mono ?_
    rintro e w5 ⟨rfl, hb⟩
    have hS5 := hS4.below hb
    have hW3 := hW2.trans (hb.mono hW2.size)
    clear hb hS4 hW2
    go_wp2_with fail
    refine (hS5.all (by decide) (by decide) [⟨⟨#[120, 109, 108, 110, 115]⟩, ⟨#[113]⟩, ⟨#[104, 116, 116, 112, 58, 47, 47, 119, 119, 119, 46, 119, 51, 46, 111, 114, 103, 47, 50, 48, 48, 48, 47, 120, 109, 108, 110, 115, 47]⟩, ⟨#[118]⟩⟩, ⟨⟨#[120, 109, 108, 110, 115]⟩, ⟨#[120, 109, 108]⟩, ⟨#[104, 116, 116, 112, 58, 47, 47, 119, 119, 119, 46, 119, 51, 46, 111, 114, 103, 47, 50, 48, 48, 48, 47, 120, 109, 108, 110, 115, 47]⟩, ⟨#[104, 116, 116, 112, 58, 47, 47, 119, 119, 119, 46, 119, 51, 46, 111, 114, 103, 47, 88, 77, 76, 47, 49, 57, 57, 56, 47, 110, 97, 109, 101, 115, 112, 97, 99, 101]⟩⟩] (by decide +kernel)).mono ?_
    rintro e w6 ⟨A, cap, rfl, ho, hb⟩
    have hS6 := hS5.below hb
    have hW4 := hW3.trans (hb.mono hW3.size)
    clear hb hS5 hW3
    obtain ⟨A', cap', hA', hC, -⟩ := cellsAt_of_own ho rfl
    cases hA'
    obtain ⟨g, o, rfl, hg, -, -, -, c03⟩ := hC 0 (by decide)
    have d03 : Hid (_ = some (Value.string ⟨#[118]⟩)) := Lib.hid c03
    clear c03 hC ho
    go_wp2_with fail
    refine (hS6.prefixes ⟨#[118]⟩ (by decide) (by decide) ⟨#[113]⟩ true (by decide +kernel)).mono ?_
    rintro e w7 ⟨rfl, hb7⟩
    have hS7 := hS6.below hb7
    go_wp2_with fail
    refine (hS7.prefixes ⟨#[117]⟩ (by decide) (by decide) ⟨#[]⟩ false (by decide +kernel)).mono ?_
    rintro e w8 ⟨rfl, hb8⟩
    go_wp2_with fail
    refine (told_calls _).mono ?_
    rintro e w9 ⟨rfl, hb9⟩
    have hz := (hb7.trans (hb8.mono hb7.size)).trans (hb9.mono (Nat.le_trans hb7.size hb8.size))
    have hgz : g < w9.heap.size := Nat.lt_of_lt_of_le hg hz.size
    have k03 := (hz.cell (p := ⟨g, o + 0 * 4 + 3, none⟩) hg).trans d03.out
    have k03' : w9.cell? ⟨g, o + 3, none⟩ = some (.string ⟨#[118]⟩) := by simpa using k03
    have hW5 := hW4.trans (hz.mono hW4.size)
    clear hb7 hb8 hb9 hz hS7 hS6 d03 k03 hg hW4
    go_wp2_with fail
    go_ret
    exact ⟨rfl, hW5⟩
set_option maxRecDepth 100000 in
set_option maxHeartbeats 8000000 in
theorem twice_202 (p a b : Int) (w : World) (h1 : (IntKind.u64.wrap p).tmod 4 = 2) (h2 : (IntKind.u64.wrap a).tmod 3 = 0) (h3 : (IntKind.u64.wrap b).tmod 3 = 2) : Calls Try.prog 7 #[.int .i64 p, .int .i64 a, .int .i64 b] w fun e w' => e = .returned (.bool true) ∧ Below w.heap.size w w' := by
  go_enter Try.func7, Try.ntmps7
  go_wp2
  go_region
  all_goals
    skip
    go_wp2_with fail
    refine (SS.new _).mono ?_
    rintro e w1 ⟨s, rfl, hS⟩
    have hm := own_kept_below (box_own (a := ⟨⟨#[120, 109, 108, 110, 115]⟩, ⟨#[113]⟩, ⟨#[104, 116, 116, 112, 58, 47, 47, 119, 119, 119, 46, 119, 51, 46, 111, 114, 103, 47, 50, 48, 48, 48, 47, 120, 109, 108, 110, 115, 47]⟩, ⟨#[117]⟩⟩) (n := w.heap.size + 1 + 1 + 1) (box_two (by simp))) hS.bel
    have hn := own_kept_below (box_own (a := ⟨⟨#[120, 109, 108, 110, 115]⟩, ⟨#[113]⟩, ⟨#[104, 116, 116, 112, 58, 47, 47, 119, 119, 119, 46, 119, 51, 46, 111, 114, 103, 47, 50, 48, 48, 48, 47, 120, 109, 108, 110, 115, 47]⟩, ⟨#[119]⟩⟩) (n := w.heap.size + 1 + 1 + 1 + 1) (box_last (by simp))) hS.bel
    obtain ⟨m0, m1, m2, m3, ml⟩ := box_cells hm
    obtain ⟨n0, n1, n2, n3, nl⟩ := box_cells hn
    go_wp2_with fail
    refine ((hS.alloc _).push _ _ [⟨⟨#[120, 109, 108, 110, 115]⟩, ⟨#[113]⟩, ⟨#[104, 116, 116, 112, 58, 47, 47, 119, 119, 119, 46, 119, 51, 46, 111, 114, 103, 47, 50, 48, 48, 48, 47, 120, 109, 108, 110, 115, 47]⟩, ⟨#[117]⟩⟩, ⟨⟨#[120, 109, 108, 110, 115]⟩, ⟨#[113]⟩, ⟨#[104, 116, 116, 112, 58, 47, 47, 119, 119, 119, 46, 119, 51, 46, 111, 114, 103, 47, 50, 48, 48, 48, 47, 120, 109, 108, 110, 115, 47]⟩, ⟨#[119]⟩⟩] (cellsAt_block (heap_alloc_new _ _)) 2 rfl (by omega) (by decide) 2 [] (by decide +kernel) (by decide +kernel)).mono ?_
    rintro e w2 ⟨rfl, hS2, hk⟩
    have hm2 := hk.2 _ _ _ _ _ _ (by decide) (by decide) (own_kept_below hm ((Below.refl _ _).alloc (Nat.le_refl _) _))
    have hn2 := hk.2 _ _ _ _ _ _ (by decide) (by decide) (own_kept_below hn ((Below.refl _ _).alloc (Nat.le_refl _) _))
    clear hS hm hn m0 m1 m2 m3 ml n0 n1 n2 n3 nl hk
    obtain ⟨m0, m1, m2, m3, ml⟩ := box_cells hm2
    obtain ⟨n0, n1, n2, n3, nl⟩ := box_cells hn2
    go_wp2_with fail
    refine hS2.depth.mono ?_
    rintro e w3 ⟨rfl, rfl⟩
    go_wp2_with fail
    refine ((hS2.alloc _).push _ _ [⟨⟨#[120, 109, 108, 110, 115]⟩, ⟨#[113]⟩, ⟨#[104, 116, 116, 112, 58, 47, 47, 119, 119, 119, 46, 119, 51, 46, 111, 114, 103, 47, 50, 48, 48, 48, 47, 120, 109, 108, 110, 115, 47]⟩, ⟨#[117]⟩⟩] (cellsAt_block (heap_alloc_new _ _)) 1 rfl (by omega) (by decide) 0 [[⟨⟨#[120, 109, 108, 110, 115]⟩, ⟨#[113]⟩, ⟨#[104, 116, 116, 112, 58, 47, 47, 119, 119, 119, 46, 119, 51, 46, 111, 114, 103, 47, 50, 48, 48, 48, 47, 120, 109, 108, 110, 115, 47]⟩, ⟨#[117]⟩⟩]] (by decide +kernel) (by decide +kernel)).mono ?_
    rintro e w3 ⟨rfl, hS3, hk⟩
    have hn3 := hk.2 _ _ _ _ _ _ (by decide) (by decide) (own_kept_below hn2 ((Below.refl _ _).alloc (Nat.le_refl _) _))
    clear hS2 hm2 hn2 m0 m1 m2 m3 ml n0 n1 n2 n3 nl hk
    obtain ⟨n0, n1, n2, n3, nl⟩ := box_cells hn3
    go_wp2_with fail
    refine ((hS3.alloc _).push _ _ [⟨⟨#[120, 109, 108, 110, 115]⟩, ⟨#[113]⟩, ⟨#[104, 116, 116, 112, 58, 47, 47, 119, 119, 119, 46, 119, 51, 46, 111, 114, 103, 47, 50, 48, 48, 48, 47, 120, 109, 108, 110, 115, 47]⟩, ⟨#[119]⟩⟩] (cellsAt_block (heap_alloc_new _ _)) 1 rfl (by omega) (by decide) 0 [[⟨⟨#[120, 109, 108, 110, 115]⟩, ⟨#[113]⟩, ⟨#[104, 116, 116, 112, 58, 47, 47, 119, 119, 119, 46, 119, 51, 46, 111, 114, 103, 47, 50, 48, 48, 48, 47, 120, 109, 108, 110, 115, 47]⟩, ⟨#[117]⟩⟩], [⟨⟨#[120, 109, 108, 110, 115]⟩, ⟨#[113]⟩, ⟨#[104, 116, 116, 112, 58, 47, 47, 119, 119, 119, 46, 119, 51, 46, 111, 114, 103, 47, 50, 48, 48, 48, 47, 120, 109, 108, 110, 115, 47]⟩, ⟨#[119]⟩⟩]] (by decide +kernel) (by decide +kernel)).mono ?_
    rintro e w4 ⟨rfl, hS4, -⟩
    clear hS3 hn3 n0 n1 n2 n3 nl
    have hW := hS4.bel.mono (B' := w.heap.size) (by simp; omega)
    have hW2 := ((((((Below.refl _ _).alloc (Nat.le_refl w.heap.size) _).alloc (by simp) _).alloc (by simp; omega) _).alloc (by simp; omega) _).alloc (by simp; omega) _).drew.trans hW
    clear hW
    go_wp2_with fail
    refine (hS4.uri ⟨#[113]⟩ (by decide) (by decide) ⟨#[119]⟩ true (by decide +kernel)).mono ?_
    rintro e w5 ⟨rfl, hb⟩
    have hS5 := hS4.below hb
    have hW3 := hW2.trans (hb.mono hW2.size)
    clear hb hS4 hW2
    go_wp2_with fail
    refine (hS5.all (by decide) (by decide) [⟨⟨#[120, 109, 108, 110, 115]⟩, ⟨#[113]⟩, ⟨#[104, 116, 116, 112, 58, 47, 47, 119, 119, 119, 46, 119, 51, 46, 111, 114, 103, 47, 50, 48, 48, 48, 47, 120, 109, 108, 110, 115, 47]⟩, ⟨#[119]⟩⟩, ⟨⟨#[120, 109, 108, 110, 115]⟩, ⟨#[120, 109, 108]⟩, ⟨#[104, 116, 116, 112, 58, 47, 47, 119, 119, 119, 46, 119, 51, 46, 111, 114, 103, 47, 50, 48, 48, 48, 47, 120, 109, 108, 110, 115, 47]⟩, ⟨#[104, 116, 116, 112, 58, 47, 47, 119, 119, 119, 46, 119, 51, 46, 111, 114, 103, 47, 88, 77, 76, 47, 49, 57, 57, 56, 47, 110, 97, 109, 101, 115, 112, 97, 99, 101]⟩⟩] (by decide +kernel)).mono ?_
    rintro e w6 ⟨A, cap, rfl, ho, hb⟩
    have hS6 := hS5.below hb
    have hW4 := hW3.trans (hb.mono hW3.size)
    clear hb hS5 hW3
    obtain ⟨A', cap', hA', hC, -⟩ := cellsAt_of_own ho rfl
    cases hA'
    obtain ⟨g, o, rfl, hg, -, -, -, c03⟩ := hC 0 (by decide)
    have d03 : Hid (_ = some (Value.string ⟨#[119]⟩)) := Lib.hid c03
    clear c03 hC ho
    go_wp2_with fail
    refine (hS6.prefixes ⟨#[119]⟩ (by decide) (by decide) ⟨#[113]⟩ true (by decide +kernel)).mono ?_
    rintro e w7 ⟨rfl, hb7⟩
    have hS7 := hS6.below hb7
    go_wp2_with fail
    refine (hS7.prefixes ⟨#[117]⟩ (by decide) (by decide) ⟨#[]⟩ false (by decide +kernel)).mono ?_
    rintro e w8 ⟨rfl, hb8⟩
    go_wp2_with fail
    refine (told_calls _).mono ?_
    rintro e w9 ⟨rfl, hb9⟩
    have hz := (hb7.trans (hb8.mono hb7.size)).trans (hb9.mono (Nat.le_trans hb7.size hb8.size))
    have hgz : g < w9.heap.size := Nat.lt_of_lt_of_le hg hz.size
    have k03 := (hz.cell (p := ⟨g, o + 0 * 4 + 3, none⟩) hg).trans d03.out
    have k03' : w9.cell? ⟨g, o + 3, none⟩ = some (.string ⟨#[119]⟩) := by simpa using k03
    have hW5 := hW4.trans (hz.mono hW4.size)
    clear hb7 hb8 hb9 hz hS7 hS6 d03 k03 hg hW4
    go_wp2_with fail
    go_ret
    exact ⟨rfl, hW5⟩
set_option maxRecDepth 100000 in
set_option maxHeartbeats 8000000 in
theorem twice_210 (p a b : Int) (w : World) (h1 : (IntKind.u64.wrap p).tmod 4 = 2) (h2 : (IntKind.u64.wrap a).tmod 3 = 1) (h3 : (IntKind.u64.wrap b).tmod 3 = 0) : Calls Try.prog 7 #[.int .i64 p, .int .i64 a, .int .i64 b] w fun e w' => e = .returned (.bool true) ∧ Below w.heap.size w w' := by
  go_enter Try.func7, Try.ntmps7
  go_wp2
  go_region
  all_goals
    skip
    go_wp2_with fail
    refine (SS.new _).mono ?_
    rintro e w1 ⟨s, rfl, hS⟩
    have hm := own_kept_below (box_own (a := ⟨⟨#[120, 109, 108, 110, 115]⟩, ⟨#[113]⟩, ⟨#[104, 116, 116, 112, 58, 47, 47, 119, 119, 119, 46, 119, 51, 46, 111, 114, 103, 47, 50, 48, 48, 48, 47, 120, 109, 108, 110, 115, 47]⟩, ⟨#[118]⟩⟩) (n := w.heap.size + 1 + 1 + 1) (box_two (by simp))) hS.bel
    have hn := own_kept_below (box_own (a := ⟨⟨#[120, 109, 108, 110, 115]⟩, ⟨#[113]⟩, ⟨#[104, 116, 116, 112, 58, 47, 47, 119, 119, 119, 46, 119, 51, 46, 111, 114, 103, 47, 50, 48, 48, 48, 47, 120, 109, 108, 110, 115, 47]⟩, ⟨#[117]⟩⟩) (n := w.heap.size + 1 + 1 + 1 + 1) (box_last (by simp))) hS.bel
    obtain ⟨m0, m1, m2, m3, ml⟩ := box_cells hm
    obtain ⟨n0, n1, n2, n3, nl⟩ := box_cells hn
    go_wp2_with fail
    refine ((hS.alloc _).push _ _ [⟨⟨#[120, 109, 108, 110, 115]⟩, ⟨#[113]⟩, ⟨#[104, 116, 116, 112, 58, 47, 47, 119, 119, 119, 46, 119, 51, 46, 111, 114, 103, 47, 50, 48, 48, 48, 47, 120, 109, 108, 110, 115, 47]⟩, ⟨#[118]⟩⟩, ⟨⟨#[120, 109, 108, 110, 115]⟩, ⟨#[113]⟩, ⟨#[104, 116, 116, 112, 58, 47, 47, 119, 119, 119, 46, 119, 51, 46, 111, 114, 103, 47, 50, 48, 48, 48, 47, 120, 109, 108, 110, 115, 47]⟩, ⟨#[117]⟩⟩] (cellsAt_block (heap_alloc_new _ _)) 2 rfl (by omega) (by decide) 2 [] (by decide +kernel) (by decide +kernel)).mono ?_
    rintro e w2 ⟨rfl, hS2, hk⟩
    have hm2 := hk.2 _ _ _ _ _ _ (by decide) (by decide) (own_kept_below hm ((Below.refl _ _).alloc (Nat.le_refl _) _))
    have hn2 := hk.2 _ _ _ _ _ _ (by decide) (by decide) (own_kept_below hn ((Below.refl _ _).alloc (Nat.le_refl _) _))
    clear hS hm hn m0 m1 m2 m3 ml n0 n1 n2 n3 nl hk
    obtain ⟨m0, m1, m2, m3, ml⟩ := box_cells hm2
    obtain ⟨n0, n1, n2, n3, nl⟩ := box_cells hn2
    go_wp2_with fail
    refine hS2.depth.mono ?_
    rintro e w3 ⟨rfl, rfl⟩
    go_wp2_with fail
    refine ((hS2.alloc _).push _ _ [⟨⟨#[120, 109, 108, 110, 115]⟩, ⟨#[113]⟩, ⟨#[104, 116, 116, 112, 58, 47, 47, 119, 119, 119, 46, 119, 51, 46, 111, 114, 103, 47, 50, 48, 48, 48, 47, 120, 109, 108, 110, 115, 47]⟩, ⟨#[118]⟩⟩] (cellsAt_block (heap_alloc_new _ _)) 1 rfl (by omega) (by decide) 0 [[⟨⟨#[120, 109, 108, 110, 115]⟩, ⟨#[113]⟩, ⟨#[104, 116, 116, 112, 58, 47, 47, 119, 119, 119, 46, 119, 51, 46, 111, 114, 103, 47, 50, 48, 48, 48, 47, 120, 109, 108, 110, 115, 47]⟩, ⟨#[118]⟩⟩]] (by decide +kernel) (by decide +kernel)).mono ?_
    rintro e w3 ⟨rfl, hS3, hk⟩
    have hn3 := hk.2 _ _ _ _ _ _ (by decide) (by decide) (own_kept_below hn2 ((Below.refl _ _).alloc (Nat.le_refl _) _))
    clear hS2 hm2 hn2 m0 m1 m2 m3 ml n0 n1 n2 n3 nl hk
    obtain ⟨n0, n1, n2, n3, nl⟩ := box_cells hn3
    go_wp2_with fail
    refine ((hS3.alloc _).push _ _ [⟨⟨#[120, 109, 108, 110, 115]⟩, ⟨#[113]⟩, ⟨#[104, 116, 116, 112, 58, 47, 47, 119, 119, 119, 46, 119, 51, 46, 111, 114, 103, 47, 50, 48, 48, 48, 47, 120, 109, 108, 110, 115, 47]⟩, ⟨#[117]⟩⟩] (cellsAt_block (heap_alloc_new _ _)) 1 rfl (by omega) (by decide) 0 [[⟨⟨#[120, 109, 108, 110, 115]⟩, ⟨#[113]⟩, ⟨#[104, 116, 116, 112, 58, 47, 47, 119, 119, 119, 46, 119, 51, 46, 111, 114, 103, 47, 50, 48, 48, 48, 47, 120, 109, 108, 110, 115, 47]⟩, ⟨#[118]⟩⟩], [⟨⟨#[120, 109, 108, 110, 115]⟩, ⟨#[113]⟩, ⟨#[104, 116, 116, 112, 58, 47, 47, 119, 119, 119, 46, 119, 51, 46, 111, 114, 103, 47, 50, 48, 48, 48, 47, 120, 109, 108, 110, 115, 47]⟩, ⟨#[117]⟩⟩]] (by decide +kernel) (by decide +kernel)).mono ?_
    rintro e w4 ⟨rfl, hS4, -⟩
    clear hS3 hn3 n0 n1 n2 n3 nl
    have hW := hS4.bel.mono (B' := w.heap.size) (by simp; omega)
    have hW2 := ((((((Below.refl _ _).alloc (Nat.le_refl w.heap.size) _).alloc (by simp) _).alloc (by simp; omega) _).alloc (by simp; omega) _).alloc (by simp; omega) _).drew.trans hW
    clear hW
    go_wp2_with fail
    refine (hS4.uri ⟨#[113]⟩ (by decide) (by decide) ⟨#[117]⟩ true (by decide +kernel)).mono ?_
    rintro e w5 ⟨rfl, hb⟩
    have hS5 := hS4.below hb
    have hW3 := hW2.trans (hb.mono hW2.size)
    clear hb hS4 hW2
    go_wp2_with fail
    refine (hS5.all (by decide) (by decide) [⟨⟨#[120, 109, 108, 110, 115]⟩, ⟨#[113]⟩, ⟨#[104, 116, 116, 112, 58, 47, 47, 119, 119, 119, 46, 119, 51, 46, 111, 114, 103, 47, 50, 48, 48, 48, 47, 120, 109, 108, 110, 115, 47]⟩, ⟨#[117]⟩⟩, ⟨⟨#[120, 109, 108, 110, 115]⟩, ⟨#[120, 109, 108]⟩, ⟨#[104, 116, 116, 112, 58, 47, 47, 119, 119, 119, 46, 119, 51, 46, 111, 114, 103, 47, 50, 48, 48, 48, 47, 120, 109, 108, 110, 115, 47]⟩, ⟨#[104, 116, 116, 112, 58, 47, 47, 119, 119, 119, 46, 119, 51, 46, 111, 114, 103, 47, 88, 77, 76, 47, 49, 57, 57, 56, 47, 110, 97, 109, 101, 115, 112, 97, 99, 101]⟩⟩] (by decide +kernel)).mono ?_
    rintro e w6 ⟨A, cap, rfl, ho, hb⟩
    have hS6 := hS5.below hb
    have hW4 := hW3.trans (hb.mono hW3.size)
    clear hb hS5 hW3
    obtain ⟨A', cap', hA', hC, -⟩ := cellsAt_of_own ho rfl
    cases hA'
    obtain ⟨g, o, rfl, hg, -, -, -, c03⟩ := hC 0 (by decide)
    have d03 : Hid (_ = some (Value.string ⟨#[117]⟩)) := Lib.hid c03
    clear c03 hC ho
    go_wp2_with fail
    refine (hS6.prefixes ⟨#[117]⟩ (by decide) (by decide) ⟨#[113]⟩ true (by decide +kernel)).mono ?_
    rintro e w7 ⟨rfl, hb7⟩
    have hS7 := hS6.below hb7
    go_wp2_with fail
    refine (hS7.prefixes ⟨#[118]⟩ (by decide) (by decide) ⟨#[]⟩ false (by decide +kernel)).mono ?_
    rintro e w8 ⟨rfl, hb8⟩
    go_wp2_with fail
    refine (told_calls _).mono ?_
    rintro e w9 ⟨rfl, hb9⟩
    have hz := (hb7.trans (hb8.mono hb7.size)).trans (hb9.mono (Nat.le_trans hb7.size hb8.size))
    have hgz : g < w9.heap.size := Nat.lt_of_lt_of_le hg hz.size
    have k03 := (hz.cell (p := ⟨g, o + 0 * 4 + 3, none⟩) hg).trans d03.out
    have k03' : w9.cell? ⟨g, o + 3, none⟩ = some (.string ⟨#[117]⟩) := by simpa using k03
    have hW5 := hW4.trans (hz.mono hW4.size)
    clear hb7 hb8 hb9 hz hS7 hS6 d03 k03 hg hW4
    go_wp2_with fail
    go_ret
    exact ⟨rfl, hW5⟩
set_option maxRecDepth 100000 in
set_option maxHeartbeats 8000000 in
theorem twice_211 (p a b : Int) (w : World) (h1 : (IntKind.u64.wrap p).tmod 4 = 2) (h2 : (IntKind.u64.wrap a).tmod 3 = 1) (h3 : (IntKind.u64.wrap b).tmod 3 = 1) : Calls Try.prog 7 #[.int .i64 p, .int .i64 a, .int .i64 b] w fun e w' => e = .returned (.bool true) ∧ Below w.heap.size w w' := by
  go_enter Try.func7, Try.ntmps7
  go_wp2
  go_region
  all_goals
    skip
    go_wp2_with fail
    refine (SS.new _).mono ?_
    rintro e w1 ⟨s, rfl, hS⟩
    have hm := own_kept_below (box_own (a := ⟨⟨#[120, 109, 108, 110, 115]⟩, ⟨#[113]⟩, ⟨#[104, 116, 116, 112, 58, 47, 47, 119, 119, 119, 46, 119, 51, 46, 111, 114, 103, 47, 50, 48, 48, 48, 47, 120, 109, 108, 110, 115, 47]⟩, ⟨#[118]⟩⟩) (n := w.heap.size + 1 + 1 + 1) (box_two (by simp))) hS.bel
    have hn := own_kept_below (box_own (a := ⟨⟨#[120, 109, 108, 110, 115]⟩, ⟨#[113]⟩, ⟨#[104, 116, 116, 112, 58, 47, 47, 119, 119, 119, 46, 119, 51, 46, 111, 114, 103, 47, 50, 48, 48, 48, 47, 120, 109, 108, 110, 115, 47]⟩, ⟨#[118]⟩⟩) (n := w.heap.size + 1 + 1 + 1 + 1) (box_last (by simp))) hS.bel
    obtain ⟨m0, m1, m2, m3, ml⟩ := box_cells hm
    obtain ⟨n0, n1, n2, n3, nl⟩ := box_cells hn
    go_wp2_with fail
    refine ((hS.alloc _).push _ _ [⟨⟨#[120, 109, 108, 110, 115]⟩, ⟨#[113]⟩, ⟨#[104, 116, 116, 112, 58, 47, 47, 119, 119, 119, 46, 119, 51, 46, 111, 114, 103, 47, 50, 48, 48, 48, 47, 120, 109, 108, 110, 115, 47]⟩, ⟨#[118]⟩⟩, ⟨⟨#[120, 109, 108, 110, 115]⟩, ⟨#[113]⟩, ⟨#[104, 116, 116, 112, 58, 47, 47, 119, 119, 119, 46, 119, 51, 46, 111, 114, 103, 47, 50, 48, 48, 48, 47, 120, 109, 108, 110, 115, 47]⟩, ⟨#[118]⟩⟩] (cellsAt_block (heap_alloc_new _ _)) 2 rfl (by omega) (by decide) 2 [] (by decide +kernel) (by decide +kernel)).mono ?_
    rintro e w2 ⟨rfl, hS2, hk⟩
    have hm2 := hk.2 _ _ _ _ _ _ (by decide) (by decide) (own_kept_below hm ((Below.refl _ _).alloc (Nat.le_refl _) _))
    have hn2 := hk.2 _ _ _ _ _ _ (by decide) (by decide) (own_kept_below hn ((Below.refl _ _).alloc (Nat.le_refl _) _))
    clear hS hm hn m0 m1 m2 m3 ml n0 n1 n2 n3 nl hk
    obtain ⟨m0, m1, m2, m3, ml⟩ := box_cells hm2
    obtain ⟨n0, n1, n2, n3, nl⟩ := box_cells hn2
    go_wp2_with fail
    refine hS2.depth.mono ?_
    rintro e w3 ⟨rfl, rfl⟩
    go_wp2_with fail
    refine ((hS2.alloc _).push _ _ [⟨⟨#[120, 109, 108, 110, 115]⟩, ⟨#[113]⟩, ⟨#[104, 116, 116, 112, 58, 47, 47, 119, 119, 119, 46, 119, 51, 46, 111, 114, 103, 47, 50, 48, 48, 48, 47, 120, 109, 108, 110, 115, 47]⟩, ⟨#[118]⟩⟩] (cellsAt_block (heap_alloc_new _ _)) 1 rfl (by omega) (by decide) 0 [[⟨⟨#[120, 109, 108, 110, 115]⟩, ⟨#[113]⟩, ⟨#[104, 116, 116, 112, 58, 47, 47, 119, 119, 119, 46, 119, 51, 46, 111, 114, 103, 47, 50, 48, 48, 48, 47, 120, 109, 108, 110, 115, 47]⟩, ⟨#[118]⟩⟩]] (by decide +kernel) (by decide +kernel)).mono ?_
    rintro e w3 ⟨rfl, hS3, hk⟩
    have hn3 := hk.2 _ _ _ _ _ _ (by decide) (by decide) (own_kept_below hn2 ((Below.refl _ _).alloc (Nat.le_refl _) _))
    clear hS2 hm2 hn2 m0 m1 m2 m3 ml n0 n1 n2 n3 nl hk
    obtain ⟨n0, n1, n2, n3, nl⟩ := box_cells hn3
    go_wp2_with fail
    refine ((hS3.alloc _).push _ _ [⟨⟨#[120, 109, 108, 110, 115]⟩, ⟨#[113]⟩, ⟨#[104, 116, 116, 112, 58, 47, 47, 119, 119, 119, 46, 119, 51, 46, 111, 114, 103, 47, 50, 48, 48, 48, 47, 120, 109, 108, 110, 115, 47]⟩, ⟨#[118]⟩⟩] (cellsAt_block (heap_alloc_new _ _)) 1 rfl (by omega) (by decide) 0 [[⟨⟨#[120, 109, 108, 110, 115]⟩, ⟨#[113]⟩, ⟨#[104, 116, 116, 112, 58, 47, 47, 119, 119, 119, 46, 119, 51, 46, 111, 114, 103, 47, 50, 48, 48, 48, 47, 120, 109, 108, 110, 115, 47]⟩, ⟨#[118]⟩⟩], [⟨⟨#[120, 109, 108, 110, 115]⟩, ⟨#[113]⟩, ⟨#[104, 116, 116, 112, 58, 47, 47, 119, 119, 119, 46, 119, 51, 46, 111, 114, 103, 47, 50, 48, 48, 48, 47, 120, 109, 108, 110, 115, 47]⟩, ⟨#[118]⟩⟩]] (by decide +kernel) (by decide +kernel)).mono ?_
    rintro e w4 ⟨rfl, hS4, -⟩
    clear hS3 hn3 n0 n1 n2 n3 nl
    have hW := hS4.bel.mono (B' := w.heap.size) (by simp; omega)
    have hW2 := ((((((Below.refl _ _).alloc (Nat.le_refl w.heap.size) _).alloc (by simp) _).alloc (by simp; omega) _).alloc (by simp; omega) _).alloc (by simp; omega) _).drew.trans hW
    clear hW
    go_wp2_with fail
    refine (hS4.uri ⟨#[113]⟩ (by decide) (by decide) ⟨#[118]⟩ true (by decide +kernel)).mono ?_
    rintro e w5 ⟨rfl, hb⟩
    have hS5 := hS4.below hb
    have hW3 := hW2.trans (hb.mono hW2.size)
    clear hb hS4 hW2
    go_wp2_with fail
    refine (hS5.all (by decide) (by decide) [⟨⟨#[120, 109, 108, 110, 115]⟩, ⟨#[113]⟩, ⟨#[104, 116, 116, 112, 58, 47, 47, 119, 119, 119, 46, 119, 51, 46, 111, 114, 103, 47, 50, 48, 48, 48, 47, 120, 109, 108, 110, 115, 47]⟩, ⟨#[118]⟩⟩, ⟨⟨#[120, 109, 108, 110, 115]⟩, ⟨#[120, 109, 108]⟩, ⟨#[104, 116, 116, 112, 58, 47, 47, 119, 119, 119, 46, 119, 51, 46, 111, 114, 103, 47, 50, 48, 48, 48, 47, 120, 109, 108, 110, 115, 47]⟩, ⟨#[104, 116, 116, 112, 58, 47, 47, 119, 119, 119, 46, 119, 51, 46, 111, 114, 103, 47, 88, 77, 76, 47, 49, 57, 57, 56, 47, 110, 97, 109, 101, 115, 112, 97, 99, 101]⟩⟩] (by decide +kernel)).mono ?_
    rintro e w6 ⟨A, cap, rfl, ho, hb⟩
    have hS6 := hS5.below hb
    have hW4 := hW3.trans (hb.mono hW3.size)
    clear hb hS5 hW3
    obtain ⟨A', cap', hA', hC, -⟩ := cellsAt_of_own ho rfl
    cases hA'
    obtain ⟨g, o, rfl, hg, -, -, -, c03⟩ := hC 0 (by decide)
    have d03 : Hid (_ = some (Value.string ⟨#[118]⟩)) := Lib.hid c03
    clear c03 hC ho
    go_wp2_with fail
    refine (hS6.prefixes ⟨#[118]⟩ (by decide) (by decide) ⟨#[113]⟩ true (by decide +kernel)).mono ?_
    rintro e w7 ⟨rfl, hb7⟩
    have hS7 := hS6.below hb7
    go_wp2_with fail
    refine (hS7.prefixes ⟨#[118]⟩ (by decide) (by decide) ⟨#[113]⟩ true (by decide +kernel)).mono ?_
    rintro e w8 ⟨rfl, hb8⟩
    go_wp2_with fail
    refine (told_calls _).mono ?_
    rintro e w9 ⟨rfl, hb9⟩
    have hz := (hb7.trans (hb8.mono hb7.size)).trans (hb9.mono (Nat.le_trans hb7.size hb8.size))
    have hgz : g < w9.heap.size := Nat.lt_of_lt_of_le hg hz.size
    have k03 := (hz.cell (p := ⟨g, o + 0 * 4 + 3, none⟩) hg).trans d03.out
    have k03' : w9.cell? ⟨g, o + 3, none⟩ = some (.string ⟨#[118]⟩) := by simpa using k03
    have hW5 := hW4.trans (hz.mono hW4.size)
    clear hb7 hb8 hb9 hz hS7 hS6 d03 k03 hg hW4
    go_wp2_with fail
    go_ret
    exact ⟨rfl, hW5⟩
set_option maxRecDepth 100000 in
set_option maxHeartbeats 8000000 in
theorem twice_212 (p a b : Int) (w : World) (h1 : (IntKind.u64.wrap p).tmod 4 = 2) (h2 : (IntKind.u64.wrap a).tmod 3 = 1) (h3 : (IntKind.u64.wrap b).tmod 3 = 2) : Calls Try.prog 7 #[.int .i64 p, .int .i64 a, .int .i64 b] w fun e w' => e = .returned (.bool true) ∧ Below w.heap.size w w' := by
  go_enter Try.func7, Try.ntmps7
  go_wp2
  go_region
  all_goals
    skip
    go_wp2_with fail
    refine (SS.new _).mono ?_
    rintro e w1 ⟨s, rfl, hS⟩
    have hm := own_kept_below (box_own (a := ⟨⟨#[120, 109, 108, 110, 115]⟩, ⟨#[113]⟩, ⟨#[104, 116, 116, 112, 58, 47, 47, 119, 119, 119, 46, 119, 51, 46, 111, 114, 103, 47, 50, 48, 48, 48, 47, 120, 109, 108, 110, 115, 47]⟩, ⟨#[118]⟩⟩) (n := w.heap.size + 1 + 1 + 1) (box_two (by simp))) hS.bel
    have hn := own_kept_below (box_own (a := ⟨⟨#[120, 109, 108, 110, 115]⟩, ⟨#[113]⟩, ⟨#[104, 116, 116, 112, 58, 47, 47, 119, 119, 119, 46, 119, 51, 46, 111, 114, 103, 47, 50, 48, 48, 48, 47, 120, 109, 108, 110, 115, 47]⟩, ⟨#[119]⟩⟩) (n := w.heap.size + 1 + 1 + 1 + 1) (box_last (by simp))) hS.bel
    obtain ⟨m0, m1, m2, m3, ml⟩ := box_cells hm
    obtain ⟨n0, n1, n2, n3, nl⟩ := box_cells hn
    go_wp2_with fail
    refine ((hS.alloc _).push _ _ [⟨⟨#[120, 109, 108, 110, 115]⟩, ⟨#[113]⟩, ⟨#[104, 116, 116, 112, 58, 47, 47, 119, 119, 119, 46, 119, 51, 46, 111, 114, 103, 47, 50, 48, 48, 48, 47, 120, 109, 108, 110, 115, 47]⟩, ⟨#[118]⟩⟩, ⟨⟨#[120, 109, 108, 110, 115]⟩, ⟨#[113]⟩, ⟨#[104, 116, 116, 112, 58, 47, 47, 119, 119, 119, 46, 119, 51, 46, 111, 114, 103, 47, 50, 48, 48, 48, 47, 120, 109, 108, 110, 115, 47]⟩, ⟨#[119]⟩⟩] (cellsAt_block (heap_alloc_new _ _)) 2 rfl (by omega) (by decide) 2 [] (by decide +kernel) (by decide +kernel)).mono ?_
    rintro e w2 ⟨rfl, hS2, hk⟩
    have hm2 := hk.2 _ _ _ _ _ _ (by decide) (by decide) (own_kept_below hm ((Below.refl _ _).alloc (Nat.le_refl _) _))
    have hn2 := hk.2 _ _ _ _ _ _ (by decide) (by decide) (own_kept_below hn ((Below.refl _ _).alloc (Nat.le_refl _) _))
    clear hS hm hn m0 m1 m2 m3 ml n0 n1 n2 n3 nl hk
    obtain ⟨m0, m1, m2, m3, ml⟩ := box_cells hm2
    obtain ⟨n0, n1, n2, n3, nl⟩ := box_cells hn2
    go_wp2_with fail
    refine hS2.depth.mono ?_
    rintro e w3 ⟨rfl, rfl⟩
    go_wp2_with fail
    refine ((hS2.alloc _).push _ _ [⟨⟨#[120, 109, 108, 110, 115]⟩, ⟨#[113]⟩, ⟨#[104, 116, 116, 112, 58, 47, 47, 119, 119, 119, 46, 119, 51, 46, 111, 114, 103, 47, 50, 48, 48, 48, 47, 120, 109, 108, 110, 115, 47]⟩, ⟨#[118]⟩⟩] (cellsAt_block (heap_alloc_new _ _)) 1 rfl (by omega) (by decide) 0 [[⟨⟨#[120, 109, 108, 110, 115]⟩, ⟨#[113]⟩, ⟨#[104, 116, 116, 112, 58, 47, 47, 119, 119, 119, 46, 119, 51, 46, 111, 114, 103, 47, 50, 48, 48, 48, 47, 120, 109, 108, 110, 115, 47]⟩, ⟨#[118]⟩⟩]] (by decide +kernel) (by decide +kernel)).mono ?_
    rintro e w3 ⟨rfl, hS3, hk⟩
    have hn3 := hk.2 _ _ _ _ _ _ (by decide) (by decide) (own_kept_below hn2 ((Below.refl _ _).alloc (Nat.le_refl _) _))
    clear hS2 hm2 hn2 m0 m1 m2 m3 ml n0 n1 n2 n3 nl hk
    obtain ⟨n0, n1, n2, n3, nl⟩ := box_cells hn3
    go_wp2_with fail
    refine ((hS3.alloc _).push _ _ [⟨⟨#[120, 109, 108, 110, 115]⟩, ⟨#[113]⟩, ⟨#[104, 116, 116, 112, 58, 47, 47, 119, 119, 119, 46, 119, 51, 46, 111, 114, 103, 47, 50, 48, 48, 48, 47, 120, 109, 108, 110, 115, 47]⟩, ⟨#[119]⟩⟩] (cellsAt_block (heap_alloc_new _ _)) 1 rfl (by omega) (by decide) 0 [[⟨⟨#[120, 109, 108, 110, 115]⟩, ⟨#[113]⟩, ⟨#[104, 116, 116, 112, 58, 47, 47, 119, 119, 119, 46, 119, 51, 46, 111, 114, 103, 47, 50, 48, 48, 48, 47, 120, 109, 108, 110, 115, 47]⟩, ⟨#[118]⟩⟩], [⟨⟨#[120, 109, 108, 110, 115]⟩, ⟨#[113]⟩, ⟨#[104, 116, 116, 112, 58, 47, 47, 119, 119, 119, 46, 119, 51, 46, 111, 114, 103, 47, 50, 48, 48, 48, 47, 120, 109, 108, 110, 115, 47]⟩, ⟨#[119]⟩⟩]] (by decide +kernel) (by decide +kernel)).mono ?_
    rintro e w4 ⟨rfl, hS4, -⟩
    clear hS3 hn3 n0 n1 n2 n3 nl
    have hW := hS4.bel.mono (B' := w.heap.size) (by simp; omega)
    have hW2 := ((((((Below.refl _ _).alloc (Nat.le_refl w.heap.size) _).alloc (by simp) _).alloc (by simp; omega) _).alloc (by simp; omega) _).alloc (by simp; omega) _).drew.trans hW
    clear hW
    go_wp2_with fail
    refine (hS4.uri ⟨#[113]⟩ (by decide) (by decide) ⟨#[119]⟩ true (by decide +kernel)).mono ?_
    rintro e w5 ⟨rfl, hb⟩
    have hS5 := hS4.below hb
    have hW3 := hW2.trans (hb.mono hW2.size)
    clear hb hS4 hW2
    go_wp2_with fail
    refine (hS5.all (by decide) (by decide) [⟨⟨#[120, 109, 108, 110, 115]⟩, ⟨#[113]⟩, ⟨#[104, 116, 116, 112, 58, 47, 47, 119, 119, 119, 46, 119, 51, 46, 111, 114, 103, 47, 50, 48, 48, 48, 47, 120, 109, 108, 110, 115, 47]⟩, ⟨#[119]⟩⟩, ⟨⟨#[120, 109, 108, 110, 115]⟩, ⟨#[120, 109, 108]⟩, ⟨#[104, 116, 116, 112, 58, 47, 47, 119, 119, 119, 46, 119, 51, 46, 111, 114, 103, 47, 50, 48, 48, 48, 47, 120, 109, 108, 110, 115, 47]⟩, ⟨#[104, 116, 116, 112, 58, 47, 47, 119, 119, 119, 46, 119, 51, 46, 111, 114, 103, 47, 88, 77, 76, 47, 49, 57, 57, 56, 47, 110, 97, 109, 101, 115, 112, 97, 99, 101]⟩⟩] (by decide +kernel)).mono ?_
    rintro e w6 ⟨A, cap, rfl, ho, hb⟩
    have hS6 := hS5.below hb
    have hW4 := hW3.trans (hb.mono hW3.size)
    clear hb hS5 hW3
    obtain ⟨A', cap', hA', hC, -⟩ := cellsAt_of_own ho rfl
    cases hA'
    obtain ⟨g, o, rfl, hg, -, -, -, c03⟩ := hC 0 (by decide)
    have d03 : Hid (_ = some (Value.string ⟨#[119]⟩)) := Lib.hid c03
    clear c03 hC ho
    go_wp2_with fail
    refine (hS6.prefixes ⟨#[119]⟩ (by decide) (by decide) ⟨#[113]⟩ true (by decide +kernel)).mono ?_
    rintro e w7 ⟨rfl, hb7⟩
    have hS7 := hS6.below hb7
    go_wp2_with fail
    refine (hS7.prefixes ⟨#[118]⟩ (by decide) (by decide) ⟨#[]⟩ false (by decide +kernel)).mono ?_
    rintro e w8 ⟨rfl, hb8⟩
    go_wp2_with fail
    refine (told_calls _).mono ?_
    rintro e w9 ⟨rfl, hb9⟩
    have hz := (hb7.trans (hb8.mono hb7.size)).trans (hb9.mono (Nat.le_trans hb7.size hb8.size))
    have hgz : g < w9.heap.size := Nat.lt_of_lt_of_le hg hz.size
    have k03 := (hz.cell (p := ⟨g, o + 0 * 4 + 3, none⟩) hg).trans d03.out
    have k03' : w9.cell? ⟨g, o + 3, none⟩ = some (.string ⟨#[119]⟩) := by simpa using k03
    have hW5 := hW4.trans (hz.mono hW4.size)
    clear hb7 hb8 hb9 hz hS7 hS6 d03 k03 hg hW4
    go_wp2_with fail
    go_ret
    exact ⟨rfl, hW5⟩
set_option maxRecDepth 100000 in
set_option maxHeartbeats 8000000 in
theorem twice_220 (p a b : Int) (w : World) (h1 : (IntKind.u64.wrap p).tmod 4 = 2) (h2 : (IntKind.u64.wrap a).tmod 3 = 2) (h3 : (IntKind.u64.wrap b).tmod 3 = 0) : Calls Try.prog 7 #[.int .i64 p, .int .i64 a, .int .i64 b] w fun e w' => e = .returned (.bool true) ∧ Below w.heap.size w w' := by
  go_enter Try.func7, Try.ntmps7
  go_wp2
  go_region
  all_goals
    skip
    go_wp2_with fail
    refine (SS.new _).mono ?_
    rintro e w1 ⟨s, rfl, hS⟩
    have hm := own_kept_below (box_own (a := ⟨⟨#[120, 109, 108, 110, 115]⟩, ⟨#[113]⟩, ⟨#[104, 116, 116, 112, 58, 47, 47, 119, 119, 119, 46, 119, 51, 46, 111, 114, 103, 47, 50, 48, 48, 48, 47, 120, 109, 108, 110, 115, 47]⟩, ⟨#[119]⟩⟩) (n := w.heap.size + 1 + 1 + 1) (box_two (by simp))) hS.bel
    have hn := own_kept_below (box_own (a := ⟨⟨#[120, 109, 108, 110, 115]⟩, ⟨#[113]⟩, ⟨#[104, 116, 116, 112, 58, 47, 47, 119, 119, 119, 46, 119, 51, 46, 111, 114, 103, 47, 50, 48, 48, 48, 47, 120, 109, 108, 110, 115, 47]⟩, ⟨#[117]⟩⟩) (n := w.heap.size + 1 + 1 + 1 + 1) (box_last (by simp))) hS.bel
    obtain ⟨m0, m1, m2, m3, ml⟩ := box_cells hm
    obtain ⟨n0, n1, n2, n3, nl⟩ := box_cells hn
    go_wp2_with fail
    refine ((hS.alloc _).push _ _ [⟨⟨#[120, 109, 108, 110, 115]⟩, ⟨#[113]⟩, ⟨#[104, 116, 116, 112, 58, 47, 47, 119, 119, 119, 46, 119, 51, 46, 111, 114, 103, 47, 50, 48, 48, 48, 47, 120, 109, 108, 110, 115, 47]⟩, ⟨#[119]⟩⟩, ⟨⟨#[120, 109, 108, 110, 115]⟩, ⟨#[113]⟩, ⟨#[104, 116, 116, 112, 58, 47, 47, 119, 119, 119, 46, 119, 51, 46, 111, 114, 103, 47, 50, 48, 48, 48, 47, 120, 109, 108, 110, 115, 47]⟩, ⟨#[117]⟩⟩] (cellsAt_block (heap_alloc_new _ _)) 2 rfl (by omega) (by decide) 2 [] (by decide +kernel) (by decide +kernel)).mono ?_
    rintro e w2 ⟨rfl, hS2, hk⟩
    have hm2 := hk.2 _ _ _ _ _ _ (by decide) (by decide) (own_kept_below hm ((Below.refl _ _).alloc (Nat.le_refl _) _))
    have hn2 := hk.2 _ _ _ _ _ _ (by decide) (by decide) (own_kept_below hn ((Below.refl _ _).alloc (Nat.le_refl _) _))
    clear hS hm hn m0 m1 m2 m3 ml n0 n1 n2 n3 nl hk
    obtain ⟨m0, m1, m2, m3, ml⟩ := box_cells hm2
    obtain ⟨n0, n1, n2, n3, nl⟩ := box_cells hn2
    go_wp2_with fail
    refine hS2.depth.mono ?_
    rintro e w3 ⟨rfl, rfl⟩
    go_wp2_with fail
    refine ((hS2.alloc _).push _ _ [⟨⟨#[120, 109, 108, 110, 115]⟩, ⟨#[113]⟩, ⟨#[104, 116, 116, 112, 58, 47, 47, 119, 119, 119, 46, 119, 51, 46, 111, 114, 103, 47, 50, 48, 48, 48, 47, 120, 109, 108, 110, 115, 47]⟩, ⟨#[119]⟩⟩] (cellsAt_block (heap_alloc_new _ _)) 1 rfl (by omega) (by decide) 0 [[⟨⟨#[120, 109, 108, 110, 115]⟩, ⟨#[113]⟩, ⟨#[104, 116, 116, 112, 58, 47, 47, 119, 119, 119, 46, 119, 51, 46, 111, 114, 103, 47, 50, 48, 48, 48, 47, 120, 109, 108, 110, 115, 47]⟩, ⟨#[119]⟩⟩]] (by decide +kernel) (by decide +kernel)).mono ?_
    rintro e w3 ⟨rfl, hS3, hk⟩
    have hn3 := hk.2 _ _ _ _ _ _ (by decide) (by decide) (own_kept_below hn2 ((Below.refl _ _).alloc (Nat.le_refl _) _))
    clear hS2 hm2 hn2 m0 m1 m2 m3 ml n0 n1 n2 n3 nl hk
    obtain ⟨n0, n1, n2, n3, nl⟩ := box_cells hn3
    go_wp2_with fail
    refine ((hS3.alloc _).push _ _ [⟨⟨#[120, 109, 108, 110, 115]⟩, ⟨#[113]⟩, ⟨#[104, 116, 116, 112, 58, 47, 47, 119, 119, 119, 46, 119, 51, 46, 111, 114, 103, 47, 50, 48, 48, 48, 47, 120, 109, 108, 110, 115, 47]⟩, ⟨#[117]⟩⟩] (cellsAt_block (heap_alloc_new _ _)) 1 rfl (by omega) (by decide) 0 [[⟨⟨#[120, 109, 108, 110, 115]⟩, ⟨#[113]⟩, ⟨#[104, 116, 116, 112, 58, 47, 47, 119, 119, 119, 46, 119, 51, 46, 111, 114, 103, 47, 50, 48, 48, 48, 47, 120, 109, 108, 110, 115, 47]⟩, ⟨#[119]⟩⟩], [⟨⟨#[120, 109, 108, 110, 115]⟩, ⟨#[113]⟩, ⟨#[104, 116, 116, 112, 58, 47, 47, 119, 119, 119, 46, 119, 51, 46, 111, 114, 103, 47, 50, 48, 48, 48, 47, 120, 109, 108, 110, 115, 47]⟩, ⟨#[117]⟩⟩]] (by decide +kernel) (by decide +kernel)).mono ?_
    rintro e w4 ⟨rfl, hS4, -⟩
    clear hS3 hn3 n0 n1 n2 n3 nl
    have hW := hS4.bel.mono (B' := w.heap.size) (by simp; omega)
    have hW2 := ((((((Below.refl _ _).alloc (Nat.le_refl w.heap.size) _).alloc (by simp) _).alloc (by simp; omega) _).alloc (by simp; omega) _).alloc (by simp; omega) _).drew.trans hW
    clear hW
    go_wp2_with fail
    refine (hS4.uri ⟨#[113]⟩ (by decide) (by decide) ⟨#[117]⟩ true (by decide +kernel)).mono ?_
    rintro e w5 ⟨rfl, hb⟩
    have hS5 := hS4.below hb
    have hW3 := hW2.trans (hb.mono hW2.size)
    clear hb hS4 hW2
    go_wp2_with fail
    refine (hS5.all (by decide) (by decide) [⟨⟨#[120, 109, 108, 110, 115]⟩, ⟨#[113]⟩, ⟨#[104, 116, 116, 112, 58, 47, 47, 119, 119, 119, 46, 119, 51, 46, 111, 114, 103, 47, 50, 48, 48, 48, 47, 120, 109, 108, 110, 115, 47]⟩, ⟨#[117]⟩⟩, ⟨⟨#[120, 109, 108, 110, 115]⟩, ⟨#[120, 109, 108]⟩, ⟨#[104, 116, 116, 112, 58, 47, 47, 119, 119, 119, 46, 119, 51, 46, 111, 114, 103, 47, 50, 48, 48, 48, 47, 120, 109, 108, 110, 115, 47]⟩, ⟨#[104, 116, 116, 112, 58, 47, 47, 119, 119, 119, 46, 119, 51, 46, 111, 114, 103, 47, 88, 77, 76, 47, 49, 57, 57, 56, 47, 110, 97, 109, 101, 115, 112, 97, 99, 101]⟩⟩] (by decide +kernel)).mono ?_
    rintro e w6 ⟨A, cap, rfl, ho, hb⟩
    have hS6 := hS5.below hb
    have hW4 := hW3.trans (hb.mono hW3.size)
    clear hb hS5 hW3
    obtain ⟨A', cap', hA', hC, -⟩ := cellsAt_of_own ho rfl
    cases hA'
    obtain ⟨g, o, rfl, hg, -, -, -, c03⟩ := hC 0 (by decide)
    have d03 : Hid (_ = some (Value.string ⟨#[117]⟩)) := Lib.hid c03
    clear c03 hC ho
    go_wp2_with fail
    refine (hS6.prefixes ⟨#[117]⟩ (by decide) (by decide) ⟨#[113]⟩ true (by decide +kernel)).mono ?_
    rintro e w7 ⟨rfl, hb7⟩
    have hS7 := hS6.below hb7
    go_wp2_with fail
    refine (hS7.prefixes ⟨#[119]⟩ (by decide) (by decide) ⟨#[]⟩ false (by decide +kernel)).mono ?_
    rintro e w8 ⟨rfl, hb8⟩
    go_wp2_with fail
    refine (told_calls _).mono ?_
    rintro e w9 ⟨rfl, hb9⟩
    have hz := (hb7.trans (hb8.mono hb7.size)).trans (hb9.mono (Nat.le_trans hb7.size hb8.size))
    have hgz : g < w9.heap.size := Nat.lt_of_lt_of_le hg hz.size
    have k03 := (hz.cell (p := ⟨g, o + 0 * 4 + 3, none⟩) hg).trans d03.out
    have k03' : w9.cell? ⟨g, o + 3, none⟩ = some (.string ⟨#[117]⟩) := by simpa using k03
    have hW5 := hW4.trans (hz.mono hW4.size)
    clear hb7 hb8 hb9 hz hS7 hS6 d03 k03 hg hW4
    go_wp2_with fail
    go_ret
    exact ⟨rfl, hW5⟩
set_option maxRecDepth 100000 in
set_option maxHeartbeats 8000000 in
theorem twice_221 (p a b : Int) (w : World) (h1 : (IntKind.u64.wrap p).tmod 4 = 2) (h2 : (IntKind.u64.wrap a).tmod 3 = 2) (h3 : (IntKind.u64.wrap b).tmod 3 = 1) : Calls Try.prog 7 #[.int .i64 p, .int .i64 a, .int .i64 b] w fun e w' => e = .returned (.bool true) ∧ Below w.heap.size w w' := by
  go_enter Try.func7, Try.ntmps7
  go_wp2
  go_region
  all_goals
    skip
    go_wp2_with fail
    refine (SS.new _).mono ?_
    rintro e w1 ⟨s, rfl, hS⟩
    have hm := own_kept_below (box_own (a := ⟨⟨#[120, 109, 108, 110, 115]⟩, ⟨#[113]⟩, ⟨#[104, 116, 116, 112, 58, 47, 47, 119, 119, 119, 46, 119, 51, 46, 111, 114, 103, 47, 50, 48, 48, 48, 47, 120, 109, 108, 110, 115, 47]⟩, ⟨#[119]⟩⟩) (n := w.heap.size + 1 + 1 + 1) (box_two (by simp))) hS.bel
    have hn := own_kept_below (box_own (a := ⟨⟨#[120, 109, 108, 110, 115]⟩, ⟨#[113]⟩, ⟨#[104, 116, 116, 112, 58, 47, 47, 119, 119, 119, 46, 119, 51, 46, 111, 114, 103, 47, 50, 48, 48, 48, 47, 120, 109, 108, 110, 115, 47]⟩, ⟨#[118]⟩⟩) (n := w.heap.size + 1 + 1 + 1 + 1) (box_last (by simp))) hS.bel
    obtain ⟨m0, m1, m2, m3, ml⟩ := box_cells hm
    obtain ⟨n0, n1, n2, n3, nl⟩ := box_cells hn
    go_wp2_with fail
    refine ((hS.alloc _).push _ _ [⟨⟨#[120, 109, 108, 110, 115]⟩, ⟨#[113]⟩, ⟨#[104, 116, 116, 112, 58, 47, 47, 119, 119, 119, 46, 119, 51, 46, 111, 114, 103, 47, 50, 48, 48, 48, 47, 120, 109, 108, 110, 115, 47]⟩, ⟨#[119]⟩⟩, ⟨⟨#[120, 109, 108, 110, 115]⟩, ⟨#[113]⟩, ⟨#[104, 116, 116, 112, 58, 47, 47, 119, 119, 119, 46, 119, 51, 46, 111, 114, 103, 47, 50, 48, 48, 48, 47, 120, 109, 108, 110, 115, 47]⟩, ⟨#[118]⟩⟩] (cellsAt_block (heap_alloc_new _ _)) 2 rfl (by omega) (by decide) 2 [] (by decide +kernel) (by decide +kernel)).mono ?_
    rintro e w2 ⟨rfl, hS2, hk⟩
    have hm2 := hk.2 _ _ _ _ _ _ (by decide) (by decide) (own_kept_below hm ((Below.refl _ _).alloc (Nat.le_refl _) _))
    have hn2 := hk.2 _ _ _ _ _ _ (by decide) (by decide) (own_kept_below hn ((Below.refl _ _).alloc (Nat.le_refl _) _))
    clear hS hm hn m0 m1 m2 m3 ml n0 n1 n2 n3 nl hk
    obtain ⟨m0, m1, m2, m3, ml⟩ := box_cells hm2
    obtain ⟨n0, n1, n2, n3, nl⟩ := box_cells hn2
    go_wp2_with fail
    refine hS2.depth.mono ?_
    rintro e w3 ⟨rfl, rfl⟩
    go_wp2_with fail
    refine ((hS2.alloc _).push _ _ [⟨⟨#[120, 109, 108, 110, 115]⟩, ⟨#[113]⟩, ⟨#[104, 116, 116, 112, 58, 47, 47, 119, 119, 119, 46, 119, 51, 46, 111, 114, 103, 47, 50, 48, 48, 48, 47, 120, 109, 108, 110, 115, 47]⟩, ⟨#[119]⟩⟩] (cellsAt_block (heap_alloc_new _ _)) 1 rfl (by omega) (by decide) 0 [[⟨⟨#[120, 109, 108, 110, 115]⟩, ⟨#[113]⟩, ⟨#[104, 116, 116, 112, 58, 47, 47, 119, 119, 119, 46, 119, 51, 46, 111, 114, 103, 47, 50, 48, 48, 48, 47, 120, 109, 108, 110, 115, 47]⟩, ⟨#[119]⟩⟩]] (by decide +kernel) (by decide +kernel)).mono ?_
    rintro e w3 ⟨rfl, hS3, hk⟩
    have hn3 := hk.2 _ _ _ _ _ _ (by decide) (by decide) (own_kept_below hn2 ((Below.refl _ _).alloc (Nat.le_refl _) _))
    clear hS2 hm2 hn2 m0 m1 m2 m3 ml n0 n1 n2 n3 nl hk
    obtain ⟨n0, n1, n2, n3, nl⟩ := box_cells hn3
    go_wp2_with fail
    refine ((hS3.alloc _).push _ _ [⟨⟨#[120, 109, 108, 110, 115]⟩, ⟨#[113]⟩, ⟨#[104, 116, 116, 112, 58, 47, 47, 119, 119, 119, 46, 119, 51, 46, 111, 114, 103, 47, 50, 48, 48, 48, 47, 120, 109, 108, 110, 115, 47]⟩, ⟨#[118]⟩⟩] (cellsAt_block (heap_alloc_new _ _)) 1 rfl (by omega) (by decide) 0 [[⟨⟨#[120, 109, 108, 110, 115]⟩, ⟨#[113]⟩, ⟨#[104, 116, 116, 112, 58, 47, 47, 119, 119, 119, 46, 119, 51, 46, 111, 114, 103, 47, 50, 48, 48, 48, 47, 120, 109, 108, 110, 115, 47]⟩, ⟨#[119]⟩⟩], [⟨⟨#[120, 109, 108, 110, 115]⟩, ⟨#[113]⟩, ⟨#[104, 116, 116, 112, 58, 47, 47, 119, 119, 119, 46, 119, 51, 46, 111, 114, 103, 47, 50, 48, 48, 48, 47, 120, 109, 108, 110, 115, 47]⟩, ⟨#[118]⟩⟩]] (by decide +kernel) (by decide +kernel)).mono ?_
    rintro e w4 ⟨rfl, hS4, -⟩
    clear hS3 hn3 n0 n1 n2 n3 nl
    have hW := hS4.bel.mono (B' := w.heap.size) (by simp; omega)
    have hW2 := ((((((Below.refl _ _).alloc (Nat.le_refl w.heap.size) _).alloc (by simp) _).alloc (by simp; omega) _).alloc (by simp; omega) _).alloc (by simp; omega) _).drew.trans hW
    clear hW
    go_wp2_with fail
    refine (hS4.uri ⟨#[113]⟩ (by decide) (by decide) ⟨#[118]⟩ true (by decide +kernel)).mono ?_
    rintro e w5 ⟨rfl, hb⟩
    have hS5 := hS4.below hb
    have hW3 := hW2.trans (hb.mono hW2.size)
    clear hb hS4 hW2
    go_wp2_with fail
    refine (hS5.all (by decide) (by decide) [⟨⟨#[120, 109, 108, 110, 115]⟩, ⟨#[113]⟩, ⟨#[104, 116, 116, 112, 58, 47, 47, 119, 119, 119, 46, 119, 51, 46, 111, 114, 103, 47, 50, 48, 48, 48, 47, 120, 109, 108, 110, 115, 47]⟩, ⟨#[118]⟩⟩, ⟨⟨#[120, 109, 108, 110, 115]⟩, ⟨#[120, 109, 108]⟩, ⟨#[104, 116, 116, 112, 58, 47, 47, 119, 119, 119, 46, 119, 51, 46, 111, 114, 103, 47, 50, 48, 48, 48, 47, 120, 109, 108, 110, 115, 47]⟩, ⟨#[104, 116, 116, 112, 58, 47, 47, 119, 119, 119, 46, 119, 51, 46, 111, 114, 103, 47, 88, 77, 76, 47, 49, 57, 57, 56, 47, 110, 97, 109, 101, 115, 112, 97, 99, 101]⟩⟩] (by decide +kernel)).mono ?_
    rintro e w6 ⟨A, cap, rfl, ho, hb⟩
    have hS6 := hS5.below hb
    have hW4 := hW3.trans (hb.mono hW3.size)
    clear hb hS5 hW3
    obtain ⟨A', cap', hA', hC, -⟩ := cellsAt_of_own ho rfl
    cases hA'
    obtain ⟨g, o, rfl, hg, -, -, -, c03⟩ := hC 0 (by decide)
    have d03 : Hid (_ = some (Value.string ⟨#[118]⟩)) := Lib.hid c03
    clear c03 hC ho
    go_wp2_with fail
    refine (hS6.prefixes ⟨#[118]⟩ (by decide) (by decide) ⟨#[113]⟩ true (by decide +kernel)).mono ?_
    rintro e w7 ⟨rfl, hb7⟩
    have hS7 := hS6.below hb7
    go_wp2_with fail
    refine (hS7.prefixes ⟨#[119]⟩ (by decide) (by decide) ⟨#[]⟩ false (by decide +kernel)).mono ?_
    rintro e w8 ⟨rfl, hb8⟩
    go_wp2_with fail
    refine (told_calls _).mono ?_
    rintro e w9 ⟨rfl, hb9⟩
    have hz := (hb7.trans (hb8.mono hb7.size)).trans (hb9.mono (Nat.le_trans hb7.size hb8.size))
    have hgz : g < w9.heap.size := Nat.lt_of_lt_of_le hg hz.size
    have k03 := (hz.cell (p := ⟨g, o + 0 * 4 + 3, none⟩) hg).trans d03.out
    have k03' : w9.cell? ⟨g, o + 3, none⟩ = some (.string ⟨#[118]⟩) := by simpa using k03
    have hW5 := hW4.trans (hz.mono hW4.size)
    clear hb7 hb8 hb9 hz hS7 hS6 d03 k03 hg hW4
    go_wp2_with fail
    go_ret
    exact ⟨rfl, hW5⟩
set_option maxRecDepth 100000 in
set_option maxHeartbeats 8000000 in
theorem twice_222 (p a b : Int) (w : World) (h1 : (IntKind.u64.wrap p).tmod 4 = 2) (h2 : (IntKind.u64.wrap a).tmod 3 = 2) (h3 : (IntKind.u64.wrap b).tmod 3 = 2) : Calls Try.prog 7 #[.int .i64 p, .int .i64 a, .int .i64 b] w fun e w' => e = .returned (.bool true) ∧ Below w.heap.size w w' := by
  go_enter Try.func7, Try.ntmps7
  go_wp2
  go_region
  all_goals
    skip
    go_wp2_with fail
    refine (SS.new _).mono ?_
    rintro e w1 ⟨s, rfl, hS⟩
    have hm := own_kept_below (box_own (a := ⟨⟨#[120, 109, 108, 110, 115]⟩, ⟨#[113]⟩, ⟨#[104, 116, 116, 112, 58, 47, 47, 119, 119, 119, 46, 119, 51, 46, 111, 114, 103, 47, 50, 48, 48, 48, 47, 120, 109, 108, 110, 115, 47]⟩, ⟨#[119]⟩⟩) (n := w.heap.size + 1 + 1 + 1) (box_two (by simp))) hS.bel
    have hn := own_kept_below (box_own (a := ⟨⟨#[120, 109, 108, 110, 115]⟩, ⟨#[113]⟩, ⟨#[104, 116, 116, 112, 58, 47, 47, 119, 119, 119, 46, 119, 51, 46, 111, 114, 103, 47, 50, 48, 48, 48, 47, 120, 109, 108, 110, 115, 47]⟩, ⟨#[119]⟩⟩) (n := w.heap.size + 1 + 1 + 1 + 1) (box_last (by simp))) hS.bel
    obtain ⟨m0, m1, m2, m3, ml⟩ := box_cells hm
    obtain ⟨n0, n1, n2, n3, nl⟩ := box_cells hn
    go_wp2_with fail
    refine ((hS.alloc _).push _ _ [⟨⟨#[120, 109, 108, 110, 115]⟩, ⟨#[113]⟩, ⟨#[104, 116, 116, 112, 58, 47, 47, 119, 119, 119, 46, 119, 51, 46, 111, 114, 103, 47, 50, 48, 48, 48, 47, 120, 109, 108, 110, 115, 47]⟩, ⟨#[119]⟩⟩, ⟨⟨#[120, 109, 108, 110, 115]⟩, ⟨#[113]⟩, ⟨#[104, 116, 116, 112, 58, 47, 47, 119, 119, 119, 46, 119, 51, 46, 111, 114, 103, 47, 50, 48, 48, 48, 47, 120, 109, 108, 110, 115, 47]⟩, ⟨#[119]⟩⟩] (cellsAt_block (heap_alloc_new _ _)) 2 rfl (by omega) (by decide) 2 [] (by decide +kernel) (by decide +kernel)).mono ?_
    rintro e w2 ⟨rfl, hS2, hk⟩
    have hm2 := hk.2 _ _ _ _ _ _ (by decide) (by decide) (own_kept_below hm ((Below.refl _ _).alloc (Nat.le_refl _) _))
    have hn2 := hk.2 _ _ _ _ _ _ (by decide) (by decide) (own_kept_below hn ((Below.refl _ _).alloc (Nat.le_refl _) _))
    clear hS hm hn m0 m1 m2 m3 ml n0 n1 n2 n3 nl hk
    obtain ⟨m0, m1, m2, m3, ml⟩ := box_cells hm2
    obtain ⟨n0, n1, n2, n3, nl⟩ := box_cells hn2
    go_wp2_with fail
    refine hS2.depth.mono ?_
    rintro e w3 ⟨rfl, rfl⟩
    go_wp2_with fail
    refine ((hS2.alloc _).push _ _ [⟨⟨#[120, 109, 108, 110, 115]⟩, ⟨#[113]⟩, ⟨#[104, 116, 116, 112, 58, 47, 47, 119, 119, 119, 46, 119, 51, 46, 111, 114, 103, 47, 50, 48, 48, 48, 47, 120, 109, 108, 110, 115, 47]⟩, ⟨#[119]⟩⟩] (cellsAt_block (heap_alloc_new _ _)) 1 rfl (by omega) (by decide) 0 [[⟨⟨#[120, 109, 108, 110, 115]⟩, ⟨#[113]⟩, ⟨#[104, 116, 116, 112, 58, 47, 47, 119, 119, 119, 46, 119, 51, 46, 111, 114, 103, 47, 50, 48, 48, 48, 47, 120, 109, 108, 110, 115, 47]⟩, ⟨#[119]⟩⟩]] (by decide +kernel) (by decide +kernel)).mono ?_
    rintro e w3 ⟨rfl, hS3, hk⟩
    have hn3 := hk.2 _ _ _ _ _ _ (by decide) (by decide) (own_kept_below hn2 ((Below.refl _ _).alloc (Nat.le_refl _) _))
    clear hS2 hm2 hn2 m0 m1 m2 m3 ml n0 n1 n2 n3 nl hk
    obtain ⟨n0, n1, n2, n3, nl⟩ := box_cells hn3
    go_wp2_with fail
    refine ((hS3.alloc _).push _ _ [⟨⟨#[120, 109, 108, 110, 115]⟩, ⟨#[113]⟩, ⟨#[104, 116, 116, 112, 58, 47, 47, 119, 119, 119, 46, 119, 51, 46, 111, 114, 103, 47, 50, 48, 48, 48, 47, 120, 109, 108, 110, 115, 47]⟩, ⟨#[119]⟩⟩] (cellsAt_block (heap_alloc_new _ _)) 1 rfl (by omega) (by decide) 0 [[⟨⟨#[120, 109, 108, 110, 115]⟩, ⟨#[113]⟩, ⟨#[104, 116, 116, 112, 58, 47, 47, 119, 119, 119, 46, 119, 51, 46, 111, 114, 103, 47, 50, 48, 48, 48, 47, 120, 109, 108, 110, 115, 47]⟩, ⟨#[119]⟩⟩], [⟨⟨#[120, 109, 108, 110, 115]⟩, ⟨#[113]⟩, ⟨#[104, 116, 116, 112, 58, 47, 47, 119, 119, 119, 46, 119, 51, 46, 111, 114, 103, 47, 50, 48, 48, 48, 47, 120, 109, 108, 110, 115, 47]⟩, ⟨#[119]⟩⟩]] (by decide +kernel) (by decide +kernel)).mono ?_
    rintro e w4 ⟨rfl, hS4, -⟩
    clear hS3 hn3 n0 n1 n2 n3 nl
    have hW := hS4.bel.mono (B' := w.heap.size) (by simp; omega)
    have hW2 := ((((((Below.refl _ _).alloc (Nat.le_refl w.heap.size) _).alloc (by simp) _).alloc (by simp; omega) _).alloc (by simp; omega) _).alloc (by simp; omega) _).drew.trans hW
    clear hW
    go_wp2_with fail
    refine (hS4.uri ⟨#[113]⟩ (by decide) (by decide) ⟨#[119]⟩ true (by decide +kernel)).mono ?_
    rintro e w5 ⟨rfl, hb⟩
    have hS5 := hS4.below hb
    have hW3 := hW2.trans (hb.mono hW2.size)
    clear hb hS4 hW2
    go_wp2_with fail
    refine (hS5.all (by decide) (by decide) [⟨⟨#[120, 109, 108, 110, 115]⟩, ⟨#[113]⟩, ⟨#[104, 116, 116, 112, 58, 47, 47, 119, 119, 119, 46, 119, 51, 46, 111, 114, 103, 47, 50, 48, 48, 48, 47, 120, 109, 108, 110, 115, 47]⟩, ⟨#[119]⟩⟩, ⟨⟨#[120, 109, 108, 110, 115]⟩, ⟨#[120, 109, 108]⟩, ⟨#[104, 116, 116, 112, 58, 47, 47, 119, 119, 119, 46, 119, 51, 46, 111, 114, 103, 47, 50, 48, 48, 48, 47, 120, 109, 108, 110, 115, 47]⟩, ⟨#[104, 116, 116, 112, 58, 47, 47, 119, 119, 119, 46, 119, 51, 46, 111, 114, 103, 47, 88, 77, 76, 47, 49, 57, 57, 56, 47, 110, 97, 109, 101, 115, 112, 97, 99, 101]⟩⟩] (by decide +kernel)).mono ?_
    rintro e w6 ⟨A, cap, rfl, ho, hb⟩
    have hS6 := hS5.below hb
    have hW4 := hW3.trans (hb.mono hW3.size)
    clear hb hS5 hW3
    obtain ⟨A', cap', hA', hC, -⟩ := cellsAt_of_own ho rfl
    cases hA'
    obtain ⟨g, o, rfl, hg, -, -, -, c03⟩ := hC 0 (by decide)
    have d03 : Hid (_ = some (Value.string ⟨#[119]⟩)) := Lib.hid c03
    clear c03 hC ho
    go_wp2_with fail
    refine (hS6.prefixes ⟨#[119]⟩ (by decide) (by decide) ⟨#[113]⟩ true (by decide +kernel)).mono ?_
    rintro e w7 ⟨rfl, hb7⟩
    have hS7 := hS6.below hb7
    go_wp2_with fail
    refine (hS7.prefixes ⟨#[119]⟩ (by decide) (by decide) ⟨#[113]⟩ true (by decide +kernel)).mono ?_
    rintro e w8 ⟨rfl, hb8⟩
    go_wp2_with fail
    refine (told_calls _).mono ?_
    rintro e w9 ⟨rfl, hb9⟩
    have hz := (hb7.trans (hb8.mono hb7.size)).trans (hb9.mono (Nat.le_trans hb7.size hb8.size))
    have hgz : g < w9.heap.size := Nat.lt_of_lt_of_le hg hz.size
    have k03 := (hz.cell (p := ⟨g, o + 0 * 4 + 3, none⟩) hg).trans d03.out
    have k03' : w9.cell? ⟨g, o + 3, none⟩ = some (.string ⟨#[119]⟩) := by simpa using k03
    have hW5 := hW4.trans (hz.mono hW4.size)
    clear hb7 hb8 hb9 hz hS7 hS6 d03 k03 hg hW4
    go_wp2_with fail
    go_ret
    exact ⟨rfl, hW5⟩
end Go.Proofs.Ytfohbgcpdpnndaa.Sc
