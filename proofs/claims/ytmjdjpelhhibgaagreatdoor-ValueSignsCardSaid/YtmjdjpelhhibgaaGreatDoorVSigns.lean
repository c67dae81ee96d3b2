/- The law ValueSigns, walked, case by case. -/
import Derived.Test.YtmjdjpelhhibgaaGreatDoorVTold
namespace Go.Proofs.YtmjdjpelhhibgaaGreatDoor.Val
open Go Go.RowKit Go.Proofs.YtmjdjpelhhibgaaGreatDoor.Rf Go.Proofs.YtmjdjpelhhibgaaGreatDoor.Spec Go.Proofs.YtmjdjpelhhibgaaGreatDoor.Giv
set_option linter.unusedVariables false
set_option linter.unusedSimpArgs false
theorem one_row (w : World) (o : Nat) (n v : ByteArray) (x : Bool) (h : w.heap[o]? = some (.cells #[.string n, .string v, .bool x] 26 (0, 0))) : RowE w (some ⟨o, 0, none⟩) [⟨n, v, x⟩] := by
  intro i hi
  match i, hi with
  | 0, _ => exact ⟨o, 0, rfl, (Array.getElem?_eq_some_iff.1 h).1, cell_of h 0, cell_of h 1, cell_of h 2⟩
theorem rem_cases (x : Int) (n : Nat) (hn : 0 < n) : ∃ k : Nat, k < n ∧ (IntKind.u64.wrap x).tmod (n : Int) = (k : Int) := by
  have hw : 0 ≤ IntKind.u64.wrap x := by unfold IntKind.wrap; simp [IntKind.bits, IntKind.signed]; omega
  have h0 : 0 ≤ Int.tmod (IntKind.u64.wrap x) (n : Int) := Int.tmod_nonneg _ hw
  have h1 : Int.tmod (IntKind.u64.wrap x) (n : Int) < (n : Int) := Int.tmod_lt_of_pos _ (by omega)
  exact ⟨((IntKind.u64.wrap x).tmod n).toNat, by omega, by omega⟩
set_option maxRecDepth 100000 in
set_option maxHeartbeats 4000000 in
theorem signs_no (a : Int) (b : Bool) (w : World) (hE : Env w) : Calls Tryz.prog 3 #[.int .i64 a, .bool false, .bool b] w fun e w' => e = .returned (.bool true) ∧ Below w.heap.size w w' := by
  have HE := Lib.hid hE
  clear hE
  obtain ⟨k, hk, h⟩ := rem_cases a 6 (by omega)
  have h : (IntKind.u64.wrap a).tmod 6 = (k : Int) := h
  go_enter Tryz.func3, Tryz.ntmps3
  go_wp2_with fail
  rw [show ((⟨#[120]⟩ : ByteArray) ++ ⟨#[97, 98, 99, 100, 101, 102]⟩) = ⟨#[120, 97, 98, 99, 100, 101, 102]⟩ from by kernel_rfl]
  obtain ⟨w1, hW⟩ : ∃ W, W = (w.alloc (.cells #[.string ⟨#[101]⟩, .string ⟨#[97, 98, 99, 100, 101, 102]⟩, .bool false] 26)) := ⟨_, rfl⟩
  rw [← hW]
  have hr : RowE w1 (some ⟨w.heap.size, 0, none⟩) [⟨⟨#[101]⟩, ⟨#[97, 98, 99, 100, 101, 102]⟩, false⟩] := one_row _ _ _ _ _ (by rw [hW]; exact heap_alloc_new w _)
  have hb1 : Below w.heap.size w w1 := by
    have := (Below.refl w.heap.size w).alloc (Nat.le_refl _) (.cells #[.string ⟨#[101]⟩, .string ⟨#[97, 98, 99, 100, 101, 102]⟩, .bool false] 26)
    rw [hW]
    exact ⟨this.os, this.tape, this.output, this.size, this.block⟩
  clear hW
  have HE1 := Lib.hid (HE.out.below hb1)
  have HB := Lib.hid hb1
  clear hb1
  refine (new_RS _ _ 1 _ _ [⟨⟨#[101]⟩, ⟨#[97, 98, 99, 100, 101, 102]⟩, false⟩] w1 hr rfl (by omega)).mono ?_
  clear hr
  rintro e w2 ⟨p, rfl, h2⟩
  go_wp2_with fail
  refine (RS.read h2 HE1.out (entR_small _ (by decide)) (by decide) (by decide) 100 (by decide) (by decide) ⟨#[120, 38, 101, 59]⟩ (by decide) 1 40 (by decide) 0 ⟨[120, 97, 98, 99, 100, 101, 102], [], 6⟩ (by kernel_rfl) (by decide) ⟨#[120, 97, 98, 99, 100, 101, 102]⟩ (by kernel_rfl)).mono ?_
  clear h2
  rintro e w3 ⟨rfl, h3⟩
  have HB3 := Lib.hid (HB.out.trans (h3.bel.mono HB.out.size))
  clear h3
  go_wp2_with (go_at_call 11; refine (told_any _ (HE.out.below HB3.out)).mono ?_; rintro e w4 ⟨rfl, hb4⟩)
  go_ret
  exact ⟨rfl, HB3.out.trans (hb4.mono HB3.out.size)⟩
set_option maxRecDepth 100000 in
set_option maxHeartbeats 4000000 in
theorem signs_r0 (a : Int) (w : World) (hE : Env w) (h : (IntKind.u64.wrap a).tmod 6 = 0) : Calls Tryz.prog 3 #[.int .i64 a, .bool true, .bool true] w fun e w' => e = .returned (.bool true) ∧ Below w.heap.size w w' := by
  have HE := Lib.hid hE
  clear hE
  go_enter Tryz.func3, Tryz.ntmps3
  go_wp2_with fail
  go_region
  go_wp2_with fail
  go_region
  go_wp2_with fail
  rw [show (⟨#[38, 35, 54, 48, 59]⟩ ++ (⟨#[97, 98, 99, 100, 101, 102]⟩ : ByteArray).extract 0 6) = ⟨#[38, 35, 54, 48, 59, 97, 98, 99, 100, 101, 102]⟩ from by kernel_rfl, show ((⟨#[120]⟩ : ByteArray) ++ ⟨#[60]⟩ ++ (⟨#[97, 98, 99, 100, 101, 102]⟩ : ByteArray).extract 0 6) = ⟨#[120, 60, 97, 98, 99, 100, 101, 102]⟩ from by kernel_rfl]
  obtain ⟨w1, hW⟩ : ∃ W, W = (w.alloc (.cells #[.string ⟨#[101]⟩, .string ⟨#[38, 35, 54, 48, 59, 97, 98, 99, 100, 101, 102]⟩, .bool false] 26)).drew.drew := ⟨_, rfl⟩
  rw [← hW]
  have hr : RowE w1 (some ⟨w.heap.size, 0, none⟩) [⟨⟨#[101]⟩, ⟨#[38, 35, 54, 48, 59, 97, 98, 99, 100, 101, 102]⟩, false⟩] := one_row _ _ _ _ _ (by rw [hW]; exact heap_alloc_new w _)
  have hb1 : Below w.heap.size w w1 := by
    have := (Below.refl w.heap.size w).alloc (Nat.le_refl _) (.cells #[.string ⟨#[101]⟩, .string ⟨#[38, 35, 54, 48, 59, 97, 98, 99, 100, 101, 102]⟩, .bool false] 26)
    rw [hW]
    exact ⟨this.os, this.tape, this.output, this.size, this.block⟩
  clear hW
  have HE1 := Lib.hid (HE.out.below hb1)
  have HB := Lib.hid hb1
  clear hb1
  refine (new_RS _ _ 1 _ _ [⟨⟨#[101]⟩, ⟨#[38, 35, 54, 48, 59, 97, 98, 99, 100, 101, 102]⟩, false⟩] w1 hr rfl (by omega)).mono ?_
  clear hr
  rintro e w2 ⟨p, rfl, h2⟩
  go_wp2_with fail
  refine (RS.read h2 HE1.out (entR_small _ (by decide)) (by decide) (by decide) 100 (by decide) (by decide) ⟨#[120, 38, 101, 59]⟩ (by decide) 1 40 (by decide) 0 ⟨[120, 60, 97, 98, 99, 100, 101, 102], [], 11⟩ (by kernel_rfl) (by decide) ⟨#[120, 60, 97, 98, 99, 100, 101, 102]⟩ (by kernel_rfl)).mono ?_
  clear h2
  rintro e w3 ⟨rfl, h3⟩
  have HB3 := Lib.hid (HB.out.trans (h3.bel.mono HB.out.size))
  clear h3
  go_wp2_with (go_at_call 11; refine (told_any _ (HE.out.below HB3.out)).mono ?_; rintro e w4 ⟨rfl, hb4⟩)
  go_ret
  exact ⟨rfl, HB3.out.trans (hb4.mono HB3.out.size)⟩
set_option maxRecDepth 100000 in
set_option maxHeartbeats 4000000 in
theorem signs_s0 (a : Int) (w : World) (hE : Env w) (h : (IntKind.u64.wrap a).tmod 6 = 0) : Calls Tryz.prog 3 #[.int .i64 a, .bool true, .bool false] w fun e w' => e = .returned (.bool true) ∧ Below w.heap.size w w' := by
  have HE := Lib.hid hE
  clear hE
  go_enter Tryz.func3, Tryz.ntmps3
  go_wp2_with fail
  go_region
  go_wp2_with fail
  go_region
  go_wp2_with fail
  rw [show (⟨#[60]⟩ ++ (⟨#[97, 98, 99, 100, 101, 102]⟩ : ByteArray).extract 0 6) = ⟨#[60, 97, 98, 99, 100, 101, 102]⟩ from by kernel_rfl, show ((⟨#[120]⟩ : ByteArray) ++ ⟨#[60]⟩ ++ (⟨#[97, 98, 99, 100, 101, 102]⟩ : ByteArray).extract 0 6) = ⟨#[120, 60, 97, 98, 99, 100, 101, 102]⟩ from by kernel_rfl]
  obtain ⟨w1, hW⟩ : ∃ W, W = (w.alloc (.cells #[.string ⟨#[101]⟩, .string ⟨#[60, 97, 98, 99, 100, 101, 102]⟩, .bool false] 26)).drew.drew := ⟨_, rfl⟩
  rw [← hW]
  have hr : RowE w1 (some ⟨w.heap.size, 0, none⟩) [⟨⟨#[101]⟩, ⟨#[60, 97, 98, 99, 100, 101, 102]⟩, false⟩] := one_row _ _ _ _ _ (by rw [hW]; exact heap_alloc_new w _)
  have hb1 : Below w.heap.size w w1 := by
    have := (Below.refl w.heap.size w).alloc (Nat.le_refl _) (.cells #[.string ⟨#[101]⟩, .string ⟨#[60, 97, 98, 99, 100, 101, 102]⟩, .bool false] 26)
    rw [hW]
    exact ⟨this.os, this.tape, this.output, this.size, this.block⟩
  clear hW
  have HE1 := Lib.hid (HE.out.below hb1)
  have HB := Lib.hid hb1
  clear hb1
  refine (new_RS _ _ 1 _ _ [⟨⟨#[101]⟩, ⟨#[60, 97, 98, 99, 100, 101, 102]⟩, false⟩] w1 hr rfl (by omega)).mono ?_
  clear hr
  rintro e w2 ⟨p, rfl, h2⟩
  go_wp2_with fail
  refine (RS.read h2 HE1.out (entR_small _ (by decide)) (by decide) (by decide) 100 (by decide) (by decide) ⟨#[120, 38, 101, 59]⟩ (by decide) 1 40 (by decide) 2 ⟨[120], [⟨#[101]⟩], 7⟩ (by kernel_rfl) (by decide) ⟨#[]⟩ (by kernel_rfl)).mono ?_
  clear h2
  rintro e w3 ⟨rfl, h3⟩
  have HB3 := Lib.hid (HB.out.trans (h3.bel.mono HB.out.size))
  clear h3
  go_wp2_with (go_at_call 11; refine (told_any _ (HE.out.below HB3.out)).mono ?_; rintro e w4 ⟨rfl, hb4⟩)
  go_ret
  exact ⟨rfl, HB3.out.trans (hb4.mono HB3.out.size)⟩
set_option maxRecDepth 100000 in
set_option maxHeartbeats 4000000 in
theorem signs_r1 (a : Int) (w : World) (hE : Env w) (h : (IntKind.u64.wrap a).tmod 6 = 1) : Calls Tryz.prog 3 #[.int .i64 a, .bool true, .bool true] w fun e w' => e = .returned (.bool true) ∧ Below w.heap.size w w' := by
  have HE := Lib.hid hE
  clear hE
  go_enter Tryz.func3, Tryz.ntmps3
  go_wp2_with fail
  go_region
  go_wp2_with fail
  go_region
  go_wp2_with fail
  rw [show ((⟨#[97, 98, 99, 100, 101, 102]⟩ : ByteArray).extract 0 1 ++ ⟨#[38, 35, 54, 48, 59]⟩ ++ (⟨#[97, 98, 99, 100, 101, 102]⟩ : ByteArray).extract 1 6) = ⟨#[97, 38, 35, 54, 48, 59, 98, 99, 100, 101, 102]⟩ from by kernel_rfl, show (⟨#[120]⟩ ++ (⟨#[97, 98, 99, 100, 101, 102]⟩ : ByteArray).extract 0 1 ++ ⟨#[60]⟩ ++ (⟨#[97, 98, 99, 100, 101, 102]⟩ : ByteArray).extract 1 6) = ⟨#[120, 97, 60, 98, 99, 100, 101, 102]⟩ from by kernel_rfl]
  obtain ⟨w1, hW⟩ : ∃ W, W = (w.alloc (.cells #[.string ⟨#[101]⟩, .string ⟨#[97, 38, 35, 54, 48, 59, 98, 99, 100, 101, 102]⟩, .bool false] 26)).drew.drew := ⟨_, rfl⟩
  rw [← hW]
  have hr : RowE w1 (some ⟨w.heap.size, 0, none⟩) [⟨⟨#[101]⟩, ⟨#[97, 38, 35, 54, 48, 59, 98, 99, 100, 101, 102]⟩, false⟩] := one_row _ _ _ _ _ (by rw [hW]; exact heap_alloc_new w _)
  have hb1 : Below w.heap.size w w1 := by
    have := (Below.refl w.heap.size w).alloc (Nat.le_refl _) (.cells #[.string ⟨#[101]⟩, .string ⟨#[97, 38, 35, 54, 48, 59, 98, 99, 100, 101, 102]⟩, .bool false] 26)
    rw [hW]
    exact ⟨this.os, this.tape, this.output, this.size, this.block⟩
  clear hW
  have HE1 := Lib.hid (HE.out.below hb1)
  have HB := Lib.hid hb1
  clear hb1
  refine (new_RS _ _ 1 _ _ [⟨⟨#[101]⟩, ⟨#[97, 38, 35, 54, 48, 59, 98, 99, 100, 101, 102]⟩, false⟩] w1 hr rfl (by omega)).mono ?_
  clear hr
  rintro e w2 ⟨p, rfl, h2⟩
  go_wp2_with fail
  refine (RS.read h2 HE1.out (entR_small _ (by decide)) (by decide) (by decide) 100 (by decide) (by decide) ⟨#[120, 38, 101, 59]⟩ (by decide) 1 40 (by decide) 0 ⟨[120, 97, 60, 98, 99, 100, 101, 102], [], 11⟩ (by kernel_rfl) (by decide) ⟨#[120, 97, 60, 98, 99, 100, 101, 102]⟩ (by kernel_rfl)).mono ?_
  clear h2
  rintro e w3 ⟨rfl, h3⟩
  have HB3 := Lib.hid (HB.out.trans (h3.bel.mono HB.out.size))
  clear h3
  go_wp2_with (go_at_call 11; refine (told_any _ (HE.out.below HB3.out)).mono ?_; rintro e w4 ⟨rfl, hb4⟩)
  go_ret
  exact ⟨rfl, HB3.out.trans (hb4.mono HB3.out.size)⟩
set_option maxRecDepth 100000 in
set_option maxHeartbeats 4000000 in
theorem signs_s1 (a : Int) (w : World) (hE : Env w) (h : (IntKind.u64.wrap a).tmod 6 = 1) : Calls Tryz.prog 3 #[.int .i64 a, .bool true, .bool false] w fun e w' => e = .returned (.bool true) ∧ Below w.heap.size w w' := by
  have HE := Lib.hid hE
  clear hE
  go_enter Tryz.func3, Tryz.ntmps3
  go_wp2_with fail
  go_region
  go_wp2_with fail
  go_region
  go_wp2_with fail
  rw [show ((⟨#[97, 98, 99, 100, 101, 102]⟩ : ByteArray).extract 0 1 ++ ⟨#[60]⟩ ++ (⟨#[97, 98, 99, 100, 101, 102]⟩ : ByteArray).extract 1 6) = ⟨#[97, 60, 98, 99, 100, 101, 102]⟩ from by kernel_rfl, show (⟨#[120]⟩ ++ (⟨#[97, 98, 99, 100, 101, 102]⟩ : ByteArray).extract 0 1 ++ ⟨#[60]⟩ ++ (⟨#[97, 98, 99, 100, 101, 102]⟩ : ByteArray).extract 1 6) = ⟨#[120, 97, 60, 98, 99, 100, 101, 102]⟩ from by kernel_rfl]
  obtain ⟨w1, hW⟩ : ∃ W, W = (w.alloc (.cells #[.string ⟨#[101]⟩, .string ⟨#[97, 60, 98, 99, 100, 101, 102]⟩, .bool false] 26)).drew.drew := ⟨_, rfl⟩
  rw [← hW]
  have hr : RowE w1 (some ⟨w.heap.size, 0, none⟩) [⟨⟨#[101]⟩, ⟨#[97, 60, 98, 99, 100, 101, 102]⟩, false⟩] := one_row _ _ _ _ _ (by rw [hW]; exact heap_alloc_new w _)
  have hb1 : Below w.heap.size w w1 := by
    have := (Below.refl w.heap.size w).alloc (Nat.le_refl _) (.cells #[.string ⟨#[101]⟩, .string ⟨#[97, 60, 98, 99, 100, 101, 102]⟩, .bool false] 26)
    rw [hW]
    exact ⟨this.os, this.tape, this.output, this.size, this.block⟩
  clear hW
  have HE1 := Lib.hid (HE.out.below hb1)
  have HB := Lib.hid hb1
  clear hb1
  refine (new_RS _ _ 1 _ _ [⟨⟨#[101]⟩, ⟨#[97, 60, 98, 99, 100, 101, 102]⟩, false⟩] w1 hr rfl (by omega)).mono ?_
  clear hr
  rintro e w2 ⟨p, rfl, h2⟩
  go_wp2_with fail
  refine (RS.read h2 HE1.out (entR_small _ (by decide)) (by decide) (by decide) 100 (by decide) (by decide) ⟨#[120, 38, 101, 59]⟩ (by decide) 1 40 (by decide) 2 ⟨[120, 97], [⟨#[101]⟩], 7⟩ (by kernel_rfl) (by decide) ⟨#[]⟩ (by kernel_rfl)).mono ?_
  clear h2
  rintro e w3 ⟨rfl, h3⟩
  have HB3 := Lib.hid (HB.out.trans (h3.bel.mono HB.out.size))
  clear h3
  go_wp2_with (go_at_call 11; refine (told_any _ (HE.out.below HB3.out)).mono ?_; rintro e w4 ⟨rfl, hb4⟩)
  go_ret
  exact ⟨rfl, HB3.out.trans (hb4.mono HB3.out.size)⟩
set_option maxRecDepth 100000 in
set_option maxHeartbeats 4000000 in
theorem signs_r2 (a : Int) (w : World) (hE : Env w) (h : (IntKind.u64.wrap a).tmod 6 = 2) : Calls Tryz.prog 3 #[.int .i64 a, .bool true, .bool true] w fun e w' => e = .returned (.bool true) ∧ Below w.heap.size w w' := by
  have HE := Lib.hid hE
  clear hE
  go_enter Tryz.func3, Tryz.ntmps3
  go_wp2_with fail
  go_region
  go_wp2_with fail
  go_region
  go_wp2_with fail
  rw [show ((⟨#[97, 98, 99, 100, 101, 102]⟩ : ByteArray).extract 0 2 ++ ⟨#[38, 35, 54, 48, 59]⟩ ++ (⟨#[97, 98, 99, 100, 101, 102]⟩ : ByteArray).extract 2 6) = ⟨#[97, 98, 38, 35, 54, 48, 59, 99, 100, 101, 102]⟩ from by kernel_rfl, show (⟨#[120]⟩ ++ (⟨#[97, 98, 99, 100, 101, 102]⟩ : ByteArray).extract 0 2 ++ ⟨#[60]⟩ ++ (⟨#[97, 98, 99, 100, 101, 102]⟩ : ByteArray).extract 2 6) = ⟨#[120, 97, 98, 60, 99, 100, 101, 102]⟩ from by kernel_rfl]
  obtain ⟨w1, hW⟩ : ∃ W, W = (w.alloc (.cells #[.string ⟨#[101]⟩, .string ⟨#[97, 98, 38, 35, 54, 48, 59, 99, 100, 101, 102]⟩, .bool false] 26)).drew.drew := ⟨_, rfl⟩
  rw [← hW]
  have hr : RowE w1 (some ⟨w.heap.size, 0, none⟩) [⟨⟨#[101]⟩, ⟨#[97, 98, 38, 35, 54, 48, 59, 99, 100, 101, 102]⟩, false⟩] := one_row _ _ _ _ _ (by rw [hW]; exact heap_alloc_new w _)
  have hb1 : Below w.heap.size w w1 := by
    have := (Below.refl w.heap.size w).alloc (Nat.le_refl _) (.cells #[.string ⟨#[101]⟩, .string ⟨#[97, 98, 38, 35, 54, 48, 59, 99, 100, 101, 102]⟩, .bool false] 26)
    rw [hW]
    exact ⟨this.os, this.tape, this.output, this.size, this.block⟩
  clear hW
  have HE1 := Lib.hid (HE.out.below hb1)
  have HB := Lib.hid hb1
  clear hb1
  refine (new_RS _ _ 1 _ _ [⟨⟨#[101]⟩, ⟨#[97, 98, 38, 35, 54, 48, 59, 99, 100, 101, 102]⟩, false⟩] w1 hr rfl (by omega)).mono ?_
  clear hr
  rintro e w2 ⟨p, rfl, h2⟩
  go_wp2_with fail
  refine (RS.read h2 HE1.out (entR_small _ (by decide)) (by decide) (by decide) 100 (by decide) (by decide) ⟨#[120, 38, 101, 59]⟩ (by decide) 1 40 (by decide) 0 ⟨[120, 97, 98, 60, 99, 100, 101, 102], [], 11⟩ (by kernel_rfl) (by decide) ⟨#[120, 97, 98, 60, 99, 100, 101, 102]⟩ (by kernel_rfl)).mono ?_
  clear h2
  rintro e w3 ⟨rfl, h3⟩
  have HB3 := Lib.hid (HB.out.trans (h3.bel.mono HB.out.size))
  clear h3
  go_wp2_with (go_at_call 11; refine (told_any _ (HE.out.below HB3.out)).mono ?_; rintro e w4 ⟨rfl, hb4⟩)
  go_ret
  exact ⟨rfl, HB3.out.trans (hb4.mono HB3.out.size)⟩
set_option maxRecDepth 100000 in
set_option maxHeartbeats 4000000 in
theorem signs_s2 (a : Int) (w : World) (hE : Env w) (h : (IntKind.u64.wrap a).tmod 6 = 2) : Calls Tryz.prog 3 #[.int .i64 a, .bool true, .bool false] w fun e w' => e = .returned (.bool true) ∧ Below w.heap.size w w' := by
  have HE := Lib.hid hE
  clear hE
  go_enter Tryz.func3, Tryz.ntmps3
  go_wp2_with fail
  go_region
  go_wp2_with fail
  go_region
  go_wp2_with fail
  rw [show ((⟨#[97, 98, 99, 100, 101, 102]⟩ : ByteArray).extract 0 2 ++ ⟨#[60]⟩ ++ (⟨#[97, 98, 99, 100, 101, 102]⟩ : ByteArray).extract 2 6) = ⟨#[97, 98, 60, 99, 100, 101, 102]⟩ from by kernel_rfl, show (⟨#[120]⟩ ++ (⟨#[97, 98, 99, 100, 101, 102]⟩ : ByteArray).extract 0 2 ++ ⟨#[60]⟩ ++ (⟨#[97, 98, 99, 100, 101, 102]⟩ : ByteArray).extract 2 6) = ⟨#[120, 97, 98, 60, 99, 100, 101, 102]⟩ from by kernel_rfl]
  obtain ⟨w1, hW⟩ : ∃ W, W = (w.alloc (.cells #[.string ⟨#[101]⟩, .string ⟨#[97, 98, 60, 99, 100, 101, 102]⟩, .bool false] 26)).drew.drew := ⟨_, rfl⟩
  rw [← hW]
  have hr : RowE w1 (some ⟨w.heap.size, 0, none⟩) [⟨⟨#[101]⟩, ⟨#[97, 98, 60, 99, 100, 101, 102]⟩, false⟩] := one_row _ _ _ _ _ (by rw [hW]; exact heap_alloc_new w _)
  have hb1 : Below w.heap.size w w1 := by
    have := (Below.refl w.heap.size w).alloc (Nat.le_refl _) (.cells #[.string ⟨#[101]⟩, .string ⟨#[97, 98, 60, 99, 100, 101, 102]⟩, .bool false] 26)
    rw [hW]
    exact ⟨this.os, this.tape, this.output, this.size, this.block⟩
  clear hW
  have HE1 := Lib.hid (HE.out.below hb1)
  have HB := Lib.hid hb1
  clear hb1
  refine (new_RS _ _ 1 _ _ [⟨⟨#[101]⟩, ⟨#[97, 98, 60, 99, 100, 101, 102]⟩, false⟩] w1 hr rfl (by omega)).mono ?_
  clear hr
  rintro e w2 ⟨p, rfl, h2⟩
  go_wp2_with fail
  refine (RS.read h2 HE1.out (entR_small _ (by decide)) (by decide) (by decide) 100 (by decide) (by decide) ⟨#[120, 38, 101, 59]⟩ (by decide) 1 40 (by decide) 2 ⟨[120, 97, 98], [⟨#[101]⟩], 7⟩ (by kernel_rfl) (by decide) ⟨#[]⟩ (by kernel_rfl)).mono ?_
  clear h2
  rintro e w3 ⟨rfl, h3⟩
  have HB3 := Lib.hid (HB.out.trans (h3.bel.mono HB.out.size))
  clear h3
  go_wp2_with (go_at_call 11; refine (told_any _ (HE.out.below HB3.out)).mono ?_; rintro e w4 ⟨rfl, hb4⟩)
  go_ret
  exact ⟨rfl, HB3.out.trans (hb4.mono HB3.out.size)⟩
set_option maxRecDepth 100000 in
set_option maxHeartbeats 4000000 in
theorem signs_r3 (a : Int) (w : World) (hE : Env w) (h : (IntKind.u64.wrap a).tmod 6 = 3) : Calls Tryz.prog 3 #[.int .i64 a, .bool true, .bool true] w fun e w' => e = .returned (.bool true) ∧ Below w.heap.size w w' := by
  have HE := Lib.hid hE
  clear hE
  go_enter Tryz.func3, Tryz.ntmps3
  go_wp2_with fail
  go_region
  go_wp2_with fail
  go_region
  go_wp2_with fail
  rw [show ((⟨#[97, 98, 99, 100, 101, 102]⟩ : ByteArray).extract 0 3 ++ ⟨#[38, 35, 54, 48, 59]⟩ ++ (⟨#[97, 98, 99, 100, 101, 102]⟩ : ByteArray).extract 3 6) = ⟨#[97, 98, 99, 38, 35, 54, 48, 59, 100, 101, 102]⟩ from by kernel_rfl, show (⟨#[120]⟩ ++ (⟨#[97, 98, 99, 100, 101, 102]⟩ : ByteArray).extract 0 3 ++ ⟨#[60]⟩ ++ (⟨#[97, 98, 99, 100, 101, 102]⟩ : ByteArray).extract 3 6) = ⟨#[120, 97, 98, 99, 60, 100, 101, 102]⟩ from by kernel_rfl]
  obtain ⟨w1, hW⟩ : ∃ W, W = (w.alloc (.cells #[.string ⟨#[101]⟩, .string ⟨#[97, 98, 99, 38, 35, 54, 48, 59, 100, 101, 102]⟩, .bool false] 26)).drew.drew := ⟨_, rfl⟩
  rw [← hW]
  have hr : RowE w1 (some ⟨w.heap.size, 0, none⟩) [⟨⟨#[101]⟩, ⟨#[97, 98, 99, 38, 35, 54, 48, 59, 100, 101, 102]⟩, false⟩] := one_row _ _ _ _ _ (by rw [hW]; exact heap_alloc_new w _)
  have hb1 : Below w.heap.size w w1 := by
    have := (Below.refl w.heap.size w).alloc (Nat.le_refl _) (.cells #[.string ⟨#[101]⟩, .string ⟨#[97, 98, 99, 38, 35, 54, 48, 59, 100, 101, 102]⟩, .bool false] 26)
    rw [hW]
    exact ⟨this.os, this.tape, this.output, this.size, this.block⟩
  clear hW
  have HE1 := Lib.hid (HE.out.below hb1)
  have HB := Lib.hid hb1
  clear hb1
  refine (new_RS _ _ 1 _ _ [⟨⟨#[101]⟩, ⟨#[97, 98, 99, 38, 35, 54, 48, 59, 100, 101, 102]⟩, false⟩] w1 hr rfl (by omega)).mono ?_
  clear hr
  rintro e w2 ⟨p, rfl, h2⟩
  go_wp2_with fail
  refine (RS.read h2 HE1.out (entR_small _ (by decide)) (by decide) (by decide) 100 (by decide) (by decide) ⟨#[120, 38, 101, 59]⟩ (by decide) 1 40 (by decide) 0 ⟨[120, 97, 98, 99, 60, 100, 101, 102], [], 11⟩ (by kernel_rfl) (by decide) ⟨#[120, 97, 98, 99, 60, 100, 101, 102]⟩ (by kernel_rfl)).mono ?_
  clear h2
  rintro e w3 ⟨rfl, h3⟩
  have HB3 := Lib.hid (HB.out.trans (h3.bel.mono HB.out.size))
  clear h3
  go_wp2_with (go_at_call 11; refine (told_any _ (HE.out.below HB3.out)).mono ?_; rintro e w4 ⟨rfl, hb4⟩)
  go_ret
  exact ⟨rfl, HB3.out.trans (hb4.mono HB3.out.size)⟩
set_option maxRecDepth 100000 in
set_option maxHeartbeats 4000000 in
theorem signs_s3 (a : Int) (w : World) (hE : Env w) (h : (IntKind.u64.wrap a).tmod 6 = 3) : Calls Tryz.prog 3 #[.int .i64 a, .bool true, .bool false] w fun e w' => e = .returned (.bool true) ∧ Below w.heap.size w w' := by
  have HE := Lib.hid hE
  clear hE
  go_enter Tryz.func3, Tryz.ntmps3
  go_wp2_with fail
  go_region
  go_wp2_with fail
  go_region
  go_wp2_with fail
  rw [show ((⟨#[97, 98, 99, 100, 101, 102]⟩ : ByteArray).extract 0 3 ++ ⟨#[60]⟩ ++ (⟨#[97, 98, 99, 100, 101, 102]⟩ : ByteArray).extract 3 6) = ⟨#[97, 98, 99, 60, 100, 101, 102]⟩ from by kernel_rfl, show (⟨#[120]⟩ ++ (⟨#[97, 98, 99, 100, 101, 102]⟩ : ByteArray).extract 0 3 ++ ⟨#[60]⟩ ++ (⟨#[97, 98, 99, 100, 101, 102]⟩ : ByteArray).extract 3 6) = ⟨#[120, 97, 98, 99, 60, 100, 101, 102]⟩ from by kernel_rfl]
  obtain ⟨w1, hW⟩ : ∃ W, W = (w.alloc (.cells #[.string ⟨#[101]⟩, .string ⟨#[97, 98, 99, 60, 100, 101, 102]⟩, .bool false] 26)).drew.drew := ⟨_, rfl⟩
  rw [← hW]
  have hr : RowE w1 (some ⟨w.heap.size, 0, none⟩) [⟨⟨#[101]⟩, ⟨#[97, 98, 99, 60, 100, 101, 102]⟩, false⟩] := one_row _ _ _ _ _ (by rw [hW]; exact heap_alloc_new w _)
  have hb1 : Below w.heap.size w w1 := by
    have := (Below.refl w.heap.size w).alloc (Nat.le_refl _) (.cells #[.string ⟨#[101]⟩, .string ⟨#[97, 98, 99, 60, 100, 101, 102]⟩, .bool false] 26)
    rw [hW]
    exact ⟨this.os, this.tape, this.output, this.size, this.block⟩
  clear hW
  have HE1 := Lib.hid (HE.out.below hb1)
  have HB := Lib.hid hb1
  clear hb1
  refine (new_RS _ _ 1 _ _ [⟨⟨#[101]⟩, ⟨#[97, 98, 99, 60, 100, 101, 102]⟩, false⟩] w1 hr rfl (by omega)).mono ?_
  clear hr
  rintro e w2 ⟨p, rfl, h2⟩
  go_wp2_with fail
  refine (RS.read h2 HE1.out (entR_small _ (by decide)) (by decide) (by decide) 100 (by decide) (by decide) ⟨#[120, 38, 101, 59]⟩ (by decide) 1 40 (by decide) 2 ⟨[120, 97, 98, 99], [⟨#[101]⟩], 7⟩ (by kernel_rfl) (by decide) ⟨#[]⟩ (by kernel_rfl)).mono ?_
  clear h2
  rintro e w3 ⟨rfl, h3⟩
  have HB3 := Lib.hid (HB.out.trans (h3.bel.mono HB.out.size))
  clear h3
  go_wp2_with (go_at_call 11; refine (told_any _ (HE.out.below HB3.out)).mono ?_; rintro e w4 ⟨rfl, hb4⟩)
  go_ret
  exact ⟨rfl, HB3.out.trans (hb4.mono HB3.out.size)⟩
set_option maxRecDepth 100000 in
set_option maxHeartbeats 4000000 in
theorem signs_r4 (a : Int) (w : World) (hE : Env w) (h : (IntKind.u64.wrap a).tmod 6 = 4) : Calls Tryz.prog 3 #[.int .i64 a, .bool true, .bool true] w fun e w' => e = .returned (.bool true) ∧ Below w.heap.size w w' := by
  have HE := Lib.hid hE
  clear hE
  go_enter Tryz.func3, Tryz.ntmps3
  go_wp2_with fail
  go_region
  go_wp2_with fail
  go_region
  go_wp2_with fail
  rw [show ((⟨#[97, 98, 99, 100, 101, 102]⟩ : ByteArray).extract 0 4 ++ ⟨#[38, 35, 54, 48, 59]⟩ ++ (⟨#[97, 98, 99, 100, 101, 102]⟩ : ByteArray).extract 4 6) = ⟨#[97, 98, 99, 100, 38, 35, 54, 48, 59, 101, 102]⟩ from by kernel_rfl, show (⟨#[120]⟩ ++ (⟨#[97, 98, 99, 100, 101, 102]⟩ : ByteArray).extract 0 4 ++ ⟨#[60]⟩ ++ (⟨#[97, 98, 99, 100, 101, 102]⟩ : ByteArray).extract 4 6) = ⟨#[120, 97, 98, 99, 100, 60, 101, 102]⟩ from by kernel_rfl]
  obtain ⟨w1, hW⟩ : ∃ W, W = (w.alloc (.cells #[.string ⟨#[101]⟩, .string ⟨#[97, 98, 99, 100, 38, 35, 54, 48, 59, 101, 102]⟩, .bool false] 26)).drew.drew := ⟨_, rfl⟩
  rw [← hW]
  have hr : RowE w1 (some ⟨w.heap.size, 0, none⟩) [⟨⟨#[101]⟩, ⟨#[97, 98, 99, 100, 38, 35, 54, 48, 59, 101, 102]⟩, false⟩] := one_row _ _ _ _ _ (by rw [hW]; exact heap_alloc_new w _)
  have hb1 : Below w.heap.size w w1 := by
    have := (Below.refl w.heap.size w).alloc (Nat.le_refl _) (.cells #[.string ⟨#[101]⟩, .string ⟨#[97, 98, 99, 100, 38, 35, 54, 48, 59, 101, 102]⟩, .bool false] 26)
    rw [hW]
    exact ⟨this.os, this.tape, this.output, this.size, this.block⟩
  clear hW
  have HE1 := Lib.hid (HE.out.below hb1)
  have HB := Lib.hid hb1
  clear hb1
  refine (new_RS _ _ 1 _ _ [⟨⟨#[101]⟩, ⟨#[97, 98, 99, 100, 38, 35, 54, 48, 59, 101, 102]⟩, false⟩] w1 hr rfl (by omega)).mono ?_
  clear hr
  rintro e w2 ⟨p, rfl, h2⟩
  go_wp2_with fail
  refine (RS.read h2 HE1.out (entR_small _ (by decide)) (by decide) (by decide) 100 (by decide) (by decide) ⟨#[120, 38, 101, 59]⟩ (by decide) 1 40 (by decide) 0 ⟨[120, 97, 98, 99, 100, 60, 101, 102], [], 11⟩ (by kernel_rfl) (by decide) ⟨#[120, 97, 98, 99, 100, 60, 101, 102]⟩ (by kernel_rfl)).mono ?_
  clear h2
  rintro e w3 ⟨rfl, h3⟩
  have HB3 := Lib.hid (HB.out.trans (h3.bel.mono HB.out.size))
  clear h3
  go_wp2_with (go_at_call 11; refine (told_any _ (HE.out.below HB3.out)).mono ?_; rintro e w4 ⟨rfl, hb4⟩)
  go_ret
  exact ⟨rfl, HB3.out.trans (hb4.mono HB3.out.size)⟩
set_option maxRecDepth 100000 in
set_option maxHeartbeats 4000000 in
theorem signs_s4 (a : Int) (w : World) (hE : Env w) (h : (IntKind.u64.wrap a).tmod 6 = 4) : Calls Tryz.prog 3 #[.int .i64 a, .bool true, .bool false] w fun e w' => e = .returned (.bool true) ∧ Below w.heap.size w w' := by
  have HE := Lib.hid hE
  clear hE
  go_enter Tryz.func3, Tryz.ntmps3
  go_wp2_with fail
  go_region
  go_wp2_with fail
  go_region
  go_wp2_with fail
  rw [show ((⟨#[97, 98, 99, 100, 101, 102]⟩ : ByteArray).extract 0 4 ++ ⟨#[60]⟩ ++ (⟨#[97, 98, 99, 100, 101, 102]⟩ : ByteArray).extract 4 6) = ⟨#[97, 98, 99, 100, 60, 101, 102]⟩ from by kernel_rfl, show (⟨#[120]⟩ ++ (⟨#[97, 98, 99, 100, 101, 102]⟩ : ByteArray).extract 0 4 ++ ⟨#[60]⟩ ++ (⟨#[97, 98, 99, 100, 101, 102]⟩ : ByteArray).extract 4 6) = ⟨#[120, 97, 98, 99, 100, 60, 101, 102]⟩ from by kernel_rfl]
  obtain ⟨w1, hW⟩ : ∃ W, W = (w.alloc (.cells #[.string ⟨#[101]⟩, .string ⟨#[97, 98, 99, 100, 60, 101, 102]⟩, .bool false] 26)).drew.drew := ⟨_, rfl⟩
  rw [← hW]
  have hr : RowE w1 (some ⟨w.heap.size, 0, none⟩) [⟨⟨#[101]⟩, ⟨#[97, 98, 99, 100, 60, 101, 102]⟩, false⟩] := one_row _ _ _ _ _ (by rw [hW]; exact heap_alloc_new w _)
  have hb1 : Below w.heap.size w w1 := by
    have := (Below.refl w.heap.size w).alloc (Nat.le_refl _) (.cells #[.string ⟨#[101]⟩, .string ⟨#[97, 98, 99, 100, 60, 101, 102]⟩, .bool false] 26)
    rw [hW]
    exact ⟨this.os, this.tape, this.output, this.size, this.block⟩
  clear hW
  have HE1 := Lib.hid (HE.out.below hb1)
  have HB := Lib.hid hb1
  clear hb1
  refine (new_RS _ _ 1 _ _ [⟨⟨#[101]⟩, ⟨#[97, 98, 99, 100, 60, 101, 102]⟩, false⟩] w1 hr rfl (by omega)).mono ?_
  clear hr
  rintro e w2 ⟨p, rfl, h2⟩
  go_wp2_with fail
  refine (RS.read h2 HE1.out (entR_small _ (by decide)) (by decide) (by decide) 100 (by decide) (by decide) ⟨#[120, 38, 101, 59]⟩ (by decide) 1 40 (by decide) 2 ⟨[120, 97, 98, 99, 100], [⟨#[101]⟩], 7⟩ (by kernel_rfl) (by decide) ⟨#[]⟩ (by kernel_rfl)).mono ?_
  clear h2
  rintro e w3 ⟨rfl, h3⟩
  have HB3 := Lib.hid (HB.out.trans (h3.bel.mono HB.out.size))
  clear h3
  go_wp2_with (go_at_call 11; refine (told_any _ (HE.out.below HB3.out)).mono ?_; rintro e w4 ⟨rfl, hb4⟩)
  go_ret
  exact ⟨rfl, HB3.out.trans (hb4.mono HB3.out.size)⟩
set_option maxRecDepth 100000 in
set_option maxHeartbeats 4000000 in
theorem signs_r5 (a : Int) (w : World) (hE : Env w) (h : (IntKind.u64.wrap a).tmod 6 = 5) : Calls Tryz.prog 3 #[.int .i64 a, .bool true, .bool true] w fun e w' => e = .returned (.bool true) ∧ Below w.heap.size w w' := by
  have HE := Lib.hid hE
  clear hE
  go_enter Tryz.func3, Tryz.ntmps3
  go_wp2_with fail
  go_region
  go_wp2_with fail
  go_region
  go_wp2_with fail
  rw [show ((⟨#[97, 98, 99, 100, 101, 102]⟩ : ByteArray).extract 0 5 ++ ⟨#[38, 35, 54, 48, 59]⟩ ++ (⟨#[97, 98, 99, 100, 101, 102]⟩ : ByteArray).extract 5 6) = ⟨#[97, 98, 99, 100, 101, 38, 35, 54, 48, 59, 102]⟩ from by kernel_rfl, show (⟨#[120]⟩ ++ (⟨#[97, 98, 99, 100, 101, 102]⟩ : ByteArray).extract 0 5 ++ ⟨#[60]⟩ ++ (⟨#[97, 98, 99, 100, 101, 102]⟩ : ByteArray).extract 5 6) = ⟨#[120, 97, 98, 99, 100, 101, 60, 102]⟩ from by kernel_rfl]
  obtain ⟨w1, hW⟩ : ∃ W, W = (w.alloc (.cells #[.string ⟨#[101]⟩, .string ⟨#[97, 98, 99, 100, 101, 38, 35, 54, 48, 59, 102]⟩, .bool false] 26)).drew.drew := ⟨_, rfl⟩
  rw [← hW]
  have hr : RowE w1 (some ⟨w.heap.size, 0, none⟩) [⟨⟨#[101]⟩, ⟨#[97, 98, 99, 100, 101, 38, 35, 54, 48, 59, 102]⟩, false⟩] := one_row _ _ _ _ _ (by rw [hW]; exact heap_alloc_new w _)
  have hb1 : Below w.heap.size w w1 := by
    have := (Below.refl w.heap.size w).alloc (Nat.le_refl _) (.cells #[.string ⟨#[101]⟩, .string ⟨#[97, 98, 99, 100, 101, 38, 35, 54, 48, 59, 102]⟩, .bool false] 26)
    rw [hW]
    exact ⟨this.os, this.tape, this.output, this.size, this.block⟩
  clear hW
  have HE1 := Lib.hid (HE.out.below hb1)
  have HB := Lib.hid hb1
  clear hb1
  refine (new_RS _ _ 1 _ _ [⟨⟨#[101]⟩, ⟨#[97, 98, 99, 100, 101, 38, 35, 54, 48, 59, 102]⟩, false⟩] w1 hr rfl (by omega)).mono ?_
  clear hr
  rintro e w2 ⟨p, rfl, h2⟩
  go_wp2_with fail
  refine (RS.read h2 HE1.out (entR_small _ (by decide)) (by decide) (by decide) 100 (by decide) (by decide) ⟨#[120, 38, 101, 59]⟩ (by decide) 1 40 (by decide) 0 ⟨[120, 97, 98, 99, 100, 101, 60, 102], [], 11⟩ (by kernel_rfl) (by decide) ⟨#[120, 97, 98, 99, 100, 101, 60, 102]⟩ (by kernel_rfl)).mono ?_
  clear h2
  rintro e w3 ⟨rfl, h3⟩
  have HB3 := Lib.hid (HB.out.trans (h3.bel.mono HB.out.size))
  clear h3
  go_wp2_with (go_at_call 11; refine (told_any _ (HE.out.below HB3.out)).mono ?_; rintro e w4 ⟨rfl, hb4⟩)
  go_ret
  exact ⟨rfl, HB3.out.trans (hb4.mono HB3.out.size)⟩
set_option maxRecDepth 100000 in
set_option maxHeartbeats 4000000 in
theorem signs_s5 (a : Int) (w : World) (hE : Env w) (h : (IntKind.u64.wrap a).tmod 6 = 5) : Calls Tryz.prog 3 #[.int .i64 a, .bool true, .bool false] w fun e w' => e = .returned (.bool true) ∧ Below w.heap.size w w' := by
  have HE := Lib.hid hE
  clear hE
  go_enter Tryz.func3, Tryz.ntmps3
  go_wp2_with fail
  go_region
  go_wp2_with fail
  go_region
  go_wp2_with fail
  rw [show ((⟨#[97, 98, 99, 100, 101, 102]⟩ : ByteArray).extract 0 5 ++ ⟨#[60]⟩ ++ (⟨#[97, 98, 99, 100, 101, 102]⟩ : ByteArray).extract 5 6) = ⟨#[97, 98, 99, 100, 101, 60, 102]⟩ from by kernel_rfl, show (⟨#[120]⟩ ++ (⟨#[97, 98, 99, 100, 101, 102]⟩ : ByteArray).extract 0 5 ++ ⟨#[60]⟩ ++ (⟨#[97, 98, 99, 100, 101, 102]⟩ : ByteArray).extract 5 6) = ⟨#[120, 97, 98, 99, 100, 101, 60, 102]⟩ from by kernel_rfl]
  obtain ⟨w1, hW⟩ : ∃ W, W = (w.alloc (.cells #[.string ⟨#[101]⟩, .string ⟨#[97, 98, 99, 100, 101, 60, 102]⟩, .bool false] 26)).drew.drew := ⟨_, rfl⟩
  rw [← hW]
  have hr : RowE w1 (some ⟨w.heap.size, 0, none⟩) [⟨⟨#[101]⟩, ⟨#[97, 98, 99, 100, 101, 60, 102]⟩, false⟩] := one_row _ _ _ _ _ (by rw [hW]; exact heap_alloc_new w _)
  have hb1 : Below w.heap.size w w1 := by
    have := (Below.refl w.heap.size w).alloc (Nat.le_refl _) (.cells #[.string ⟨#[101]⟩, .string ⟨#[97, 98, 99, 100, 101, 60, 102]⟩, .bool false] 26)
    rw [hW]
    exact ⟨this.os, this.tape, this.output, this.size, this.block⟩
  clear hW
  have HE1 := Lib.hid (HE.out.below hb1)
  have HB := Lib.hid hb1
  clear hb1
  refine (new_RS _ _ 1 _ _ [⟨⟨#[101]⟩, ⟨#[97, 98, 99, 100, 101, 60, 102]⟩, false⟩] w1 hr rfl (by omega)).mono ?_
  clear hr
  rintro e w2 ⟨p, rfl, h2⟩
  go_wp2_with fail
  refine (RS.read h2 HE1.out (entR_small _ (by decide)) (by decide) (by decide) 100 (by decide) (by decide) ⟨#[120, 38, 101, 59]⟩ (by decide) 1 40 (by decide) 2 ⟨[120, 97, 98, 99, 100, 101], [⟨#[101]⟩], 7⟩ (by kernel_rfl) (by decide) ⟨#[]⟩ (by kernel_rfl)).mono ?_
  clear h2
  rintro e w3 ⟨rfl, h3⟩
  have HB3 := Lib.hid (HB.out.trans (h3.bel.mono HB.out.size))
  clear h3
  go_wp2_with (go_at_call 11; refine (told_any _ (HE.out.below HB3.out)).mono ?_; rintro e w4 ⟨rfl, hb4⟩)
  go_ret
  exact ⟨rfl, HB3.out.trans (hb4.mono HB3.out.size)⟩
theorem signs_walk (a : Int) (b c : Bool) (w : World) (hE : Env w) {P : Prop} (hP : P) : Calls Tryz.prog 3 #[.int .i64 a, .bool b, .bool c] w fun e w' => e = .returned (.bool true) ∧ Below w.heap.size w w' := by
  cases b with
  | false => exact signs_no a c w hE
  | true =>
    obtain ⟨k, hk, h⟩ := rem_cases a 6 (by omega)
    match k, hk, h with
    | 0, _, h => cases c with
      | true => exact signs_r0 a w hE h
      | false => exact signs_s0 a w hE h
    | 1, _, h => cases c with
      | true => exact signs_r1 a w hE h
      | false => exact signs_s1 a w hE h
    | 2, _, h => cases c with
      | true => exact signs_r2 a w hE h
      | false => exact signs_s2 a w hE h
    | 3, _, h => cases c with
      | true => exact signs_r3 a w hE h
      | false => exact signs_s3 a w hE h
    | 4, _, h => cases c with
      | true => exact signs_r4 a w hE h
      | false => exact signs_s4 a w hE h
    | 5, _, h => cases c with
      | true => exact signs_r5 a w hE h
      | false => exact signs_s5 a w hE h
end Go.Proofs.YtmjdjpelhhibgaaGreatDoor.Val
