-- written by wip/gen.py (this session's own driver of the kit's printer); Lean checks it
import Derived.Test.YtmjdjpelhhibgaaDoorKX
import Derived.Test.YtmjdjpelhhibgaaDoorKW2
import Derived.Test.YtmjdjpelhhibgaaDoorR1x0
import Derived.Test.YtmjdjpelhhibgaaDoorR1x10
import Derived.Test.YtmjdjpelhhibgaaDoorR1x13
import Derived.Test.YtmjdjpelhhibgaaDoorR1x14
namespace Go.Proofs.YtmjdjpelhhibgaaDoor.R1
open Go.Proofs.YtmjdjpelhhibgaaDoor.Giv
open Go.RowKit Go.Proofs.YtmjdjpelhhibgaaDoorW.PrintWords Go.Proofs.YtmjdjpelhhibgaaDoorW.PrintLast Go.Proofs.YtmjdjpelhhibgaaDoorW.PrintMore
attribute [local go_sem] max2_int min2_int max_two min_two max_three min_three max_four min_four   -- for this text's walks alone
set_option linter.unusedVariables false
set_option linter.unusedSimpArgs false

abbrev D15_ : Array Bool := #[true, true, true, true, true, true, true, true, true, true, true, true, true, true, false, true, false, false, false, false, false, false, false, false, false, false, false, false, false, false, false, false, false, false, false, false, false, false, false, false, false, false, false, false, false, false, false, false, false, false, false, false, false, false, false, false, false, false, false, false, false, false, false, false, false, false, false, false]
abbrev D16_ : Array Bool := #[true, true, true, true, true, true, true, true, true, true, true, true, true, true, false, true, true, false, false, false, false, false, false, false, false, false, false, false, false, false, false, false, false, false, false, false, false, false, false, false, false, false, false, false, false, false, false, false, false, false, false, false, false, false, false, false, false, false, false, false, false, false, false, false, false, false, false, false]
abbrev D17_ : Array Bool := #[true, true, true, true, true, true, true, true, true, true, true, true, true, true, false, true, true, true, false, false, false, false, false, false, false, false, false, false, false, false, false, false, false, false, false, false, false, false, false, false, false, false, false, false, false, false, false, false, false, false, false, false, false, false, false, false, false, false, false, false, false, false, false, false, false, false, false, false]
abbrev D29_ : Array Bool := #[true, true, true, true, true, true, true, true, true, true, true, true, true, true, true, true, true, true, true, true, true, true, true, true, true, true, true, true, false, true, false, false, false, false, false, false, false, false, false, false, false, false, false, false, false, false, false, false, false, false, false, false, false, false, false, false, false, false, false, false, false, false, false, false, false, false, false, false]
abbrev D30_ : Array Bool := #[true, true, true, true, true, true, true, true, true, true, true, true, true, true, true, true, true, true, true, true, true, true, true, true, true, true, true, true, false, true, true, false, false, false, false, false, false, false, false, false, false, false, false, false, false, false, false, false, false, false, false, false, false, false, false, false, false, false, false, false, false, false, false, false, false, false, false, false]
abbrev D31_ : Array Bool := #[true, true, true, true, true, true, true, true, true, true, true, true, true, true, true, true, true, true, true, true, true, true, true, true, true, true, true, true, false, true, true, true, false, false, false, false, false, false, false, false, false, false, false, false, false, false, false, false, false, false, false, false, false, false, false, false, false, false, false, false, false, false, false, false, false, false, false, false]
abbrev D32_ : Array Bool := #[true, true, true, true, true, true, true, true, true, true, true, true, true, true, true, true, true, true, true, true, true, true, true, true, true, true, true, true, false, true, true, true, true, false, false, false, false, false, false, false, false, false, false, false, false, false, false, false, false, false, false, false, false, false, false, false, false, false, false, false, false, false, false, false, false, false, false, false]
/-! ### brackenlaw10_TokenRows: function 5 -/
def brackenlaw10_TokenRows.l0 : Nat → ByteArray → List (S27) → Int → Int → Int → Int → Option (Bool)
 | 0, _, _, _, _, _, _ => none
 | k + 1, x3, x4, x5, x6, x7, x8 => if x8 < (x4.length : Int) then ((token_Next.f k x3 x7).bind fun bt407 => (if bt407.2.2.2.2.2.2 = 0 then (if bt407.2.2.2.2.2.1 ≤ x7 then (some false) else (if bt407.2.2.2.2.2.1 > (x3.size : Int) then (some false) else (if 0 ≤ x8 then ((brackenref10_SameToken.f k bt407.1 bt407.2.1 bt407.2.2.1 bt407.2.2.2.1 bt407.2.2.2.2.1 ((rd_T27 x4 x8).f0) ((rd_T27 x4 x8).f1) ((rd_T27 x4 x8).f2) ((rd_T27 x4 x8).f3) ((rd_T27 x4 x8).f4)).bind fun t418 => (if t418 = true then (if bt407.1 = 1 then (if 0 ≤ x7 then (if x7 ≤ bt407.2.2.2.2.2.1 then (if bt407.2.2.2.2.2.1 ≤ (x3.size : Int) then (if bt407.2.2.1.toList = (x3.extract (x7 : Int).toNat (bt407.2.2.2.2.2.1 : Int).toNat).toList then (if bt407.1 = 4 then (if 4 + bt407.2.2.1.size ≤ 9223372036854775807 then (if 4 + bt407.2.2.1.size + 3 ≤ 9223372036854775807 then (if (x3.extract (x7 : Int).toNat (bt407.2.2.2.2.2.1 : Int).toNat).toList = (((⟨#[60, 33, 45, 45]⟩ : ByteArray) ++ bt407.2.2.1) ++ (⟨#[45, 45, 62]⟩ : ByteArray)).toList then (if bt407.1 = 6 then (if 9 + bt407.2.2.1.size ≤ 9223372036854775807 then (if 9 + bt407.2.2.1.size + 3 ≤ 9223372036854775807 then (if (x3.extract (x7 : Int).toNat (bt407.2.2.2.2.2.1 : Int).toNat).toList = (((⟨#[60, 33, 91, 67, 68, 65, 84, 65, 91]⟩ : ByteArray) ++ bt407.2.2.1) ++ (⟨#[93, 93, 62]⟩ : ByteArray)).toList then (brackenlaw10_TokenRows.l0 k x3 x4 x5 x6 bt407.2.2.2.2.2.1 (wrap64 (x8 + 1))) else (some false)) else (none)) else (none)) else (brackenlaw10_TokenRows.l0 k x3 x4 x5 x6 bt407.2.2.2.2.2.1 (wrap64 (x8 + 1)))) else (some false)) else (none)) else (none)) else (if bt407.1 = 6 then (if 9 + bt407.2.2.1.size ≤ 9223372036854775807 then (if 9 + bt407.2.2.1.size + 3 ≤ 9223372036854775807 then (if (x3.extract (x7 : Int).toNat (bt407.2.2.2.2.2.1 : Int).toNat).toList = (((⟨#[60, 33, 91, 67, 68, 65, 84, 65, 91]⟩ : ByteArray) ++ bt407.2.2.1) ++ (⟨#[93, 93, 62]⟩ : ByteArray)).toList then (brackenlaw10_TokenRows.l0 k x3 x4 x5 x6 bt407.2.2.2.2.2.1 (wrap64 (x8 + 1))) else (some false)) else (none)) else (none)) else (brackenlaw10_TokenRows.l0 k x3 x4 x5 x6 bt407.2.2.2.2.2.1 (wrap64 (x8 + 1))))) else (some false)) else (none)) else (none)) else (none)) else (if bt407.1 = 4 then (if 0 ≤ x7 then (if x7 ≤ bt407.2.2.2.2.2.1 then (if bt407.2.2.2.2.2.1 ≤ (x3.size : Int) then (if 4 + bt407.2.2.1.size ≤ 9223372036854775807 then (if 4 + bt407.2.2.1.size + 3 ≤ 9223372036854775807 then (if (x3.extract (x7 : Int).toNat (bt407.2.2.2.2.2.1 : Int).toNat).toList = (((⟨#[60, 33, 45, 45]⟩ : ByteArray) ++ bt407.2.2.1) ++ (⟨#[45, 45, 62]⟩ : ByteArray)).toList then (if bt407.1 = 6 then (if 9 + bt407.2.2.1.size ≤ 9223372036854775807 then (if 9 + bt407.2.2.1.size + 3 ≤ 9223372036854775807 then (if (x3.extract (x7 : Int).toNat (bt407.2.2.2.2.2.1 : Int).toNat).toList = (((⟨#[60, 33, 91, 67, 68, 65, 84, 65, 91]⟩ : ByteArray) ++ bt407.2.2.1) ++ (⟨#[93, 93, 62]⟩ : ByteArray)).toList then (brackenlaw10_TokenRows.l0 k x3 x4 x5 x6 bt407.2.2.2.2.2.1 (wrap64 (x8 + 1))) else (some false)) else (none)) else (none)) else (brackenlaw10_TokenRows.l0 k x3 x4 x5 x6 bt407.2.2.2.2.2.1 (wrap64 (x8 + 1)))) else (some false)) else (none)) else (none)) else (none)) else (none)) else (none)) else (if bt407.1 = 6 then (if 0 ≤ x7 then (if x7 ≤ bt407.2.2.2.2.2.1 then (if bt407.2.2.2.2.2.1 ≤ (x3.size : Int) then (if 9 + bt407.2.2.1.size ≤ 9223372036854775807 then (if 9 + bt407.2.2.1.size + 3 ≤ 9223372036854775807 then (if (x3.extract (x7 : Int).toNat (bt407.2.2.2.2.2.1 : Int).toNat).toList = (((⟨#[60, 33, 91, 67, 68, 65, 84, 65, 91]⟩ : ByteArray) ++ bt407.2.2.1) ++ (⟨#[93, 93, 62]⟩ : ByteArray)).toList then (brackenlaw10_TokenRows.l0 k x3 x4 x5 x6 bt407.2.2.2.2.2.1 (wrap64 (x8 + 1))) else (some false)) else (none)) else (none)) else (none)) else (none)) else (none)) else (brackenlaw10_TokenRows.l0 k x3 x4 x5 x6 bt407.2.2.2.2.2.1 (wrap64 (x8 + 1)))))) else (some false))) else (none)))) else (some false))) else ((token_Next.f k x3 x7).bind fun bt396 => ((brackenlaw10_told.f k).bind fun t406 => (if t406 = true then (if x7 = x5 then (if x6 = 0 then (if x5 = (x3.size : Int) then (if bt396.2.2.2.2.2.2 = 6 then (some true) else (if x6 = 2 then (some (bt396.2.2.2.2.2.2 == x6)) else (some false))) else (if x6 = 2 then (some (bt396.2.2.2.2.2.2 == x6)) else (some false))) else (if x6 = 2 then (some (bt396.2.2.2.2.2.2 == x6)) else (some false))) else (some false)) else (some false))))
def brackenlaw10_TokenRows.f (k : Nat) (l0 : List Int) : Option (Bool) := (brackenlaw10_Text.f k l0 30).bind fun t390 => ((token_All.f k t390).bind fun bt391 => (brackenlaw10_TokenRows.l0 k t390 bt391.1 bt391.2.1 bt391.2.2 0 0))
theorem brackenlaw10_TokenRows.mono_l : ∀ k, (∀ y0 y1 y2 y3 y4 y5, LeO (brackenlaw10_TokenRows.l0 k y0 y1 y2 y3 y4 y5) (brackenlaw10_TokenRows.l0 (k + 1) y0 y1 y2 y3 y4 y5))
 | 0 => fun _ _ _ _ _ _ r h => by simp [brackenlaw10_TokenRows.l0] at h
 | k + 1 => by
  have ih0 := brackenlaw10_TokenRows.mono_l k
  ·intro y0 y1 y2 y3 y4 y5
   unfold brackenlaw10_TokenRows.l0
   repeat' first
   | (with_reducible exact ih0 _ _ _ _ _ _)
   | (with_reducible exact brackenlaw10_Text.mono _ _ _)
   | (with_reducible exact brackenlaw10_told.mono _)
   | (with_reducible exact brackenref10_SameToken.mono _ _ _ _ _ _ _ _ _ _ _)
   | (with_reducible exact token_All.mono _ _)
   | (with_reducible exact token_Next.mono _ _ _)
   | (with_reducible exact LeO.refl _)
   | (with_reducible exact LeO.none _)
   | (with_reducible refine LeO.ite ?_ ?_)
   | (with_reducible refine LeO.bind ?_ (fun _ => ?_))
   | exact ih0 _ _ _ _ _ _
   | exact brackenlaw10_Text.mono _ _ _
   | exact brackenlaw10_told.mono _
   | exact brackenref10_SameToken.mono _ _ _ _ _ _ _ _ _ _ _
   | exact token_All.mono _ _
   | exact token_Next.mono _ _ _
   | exact LeO.none _
   | refine LeO.ite ?_ ?_
   | refine LeO.bind ?_ (fun _ => ?_)
theorem brackenlaw10_TokenRows.mono : ∀ a0 k, LeO (brackenlaw10_TokenRows.f k a0) (brackenlaw10_TokenRows.f (k + 1) a0) := by
 intro a0 k
 have ih0 := brackenlaw10_TokenRows.mono_l k
 unfold brackenlaw10_TokenRows.f
 repeat' first
   | (with_reducible exact ih0 _ _ _ _ _ _)
   | (with_reducible exact brackenlaw10_Text.mono _ _ _)
   | (with_reducible exact brackenlaw10_told.mono _)
   | (with_reducible exact brackenref10_SameToken.mono _ _ _ _ _ _ _ _ _ _ _)
   | (with_reducible exact token_All.mono _ _)
   | (with_reducible exact token_Next.mono _ _ _)
   | (with_reducible exact LeO.refl _)
   | (with_reducible exact LeO.none _)
   | (with_reducible refine LeO.ite ?_ ?_)
   | (with_reducible refine LeO.bind ?_ (fun _ => ?_))
   | exact ih0 _ _ _ _ _ _
   | exact brackenlaw10_Text.mono _ _ _
   | exact brackenlaw10_told.mono _
   | exact brackenref10_SameToken.mono _ _ _ _ _ _ _ _ _ _ _
   | exact token_All.mono _ _
   | exact token_Next.mono _ _ _
   | exact LeO.none _
   | refine LeO.ite ?_ ?_
   | refine LeO.bind ?_ (fun _ => ?_)
def brackenlaw10_TokenRows.T8 : Bool × List (List Nat × List Nat) := (true, [([], []), ([0], [0]), ([1], [1]), ([2], [2]), ([2], [2]), ([3, 4, 2], [2, 3, 4]), ([2, 5], [2, 5]), ([6, 2], [6]), ([7], [7]), ([7], [7]), ([9, 7], [7, 9]), ([8, 10, 7], [7, 8, 10]), ([7, 11], [7, 11]), ([12, 7], [12]), ([13], [13]), ([13], [13]), ([13], [13]), ([15, 16, 13], [13, 15, 16]), ([17, 13], [13, 17]), ([14, 18, 13, 13], [13, 14, 18]), ([19, 13], [13, 19]), ([13, 20], [13, 20]), ([21, 19], [21]), ([22], [22]), ([23, 22], [22, 23]), ([24, 22], [22, 24]), ([25, 22, 22], [22, 25]), ([26], [26]), ([27, 26], [26, 27]), ([26], [26]), ([26], [26]), ([26], [26]), ([29, 30, 31, 26], [26, 29, 30, 31]), ([28, 32, 26], [26, 28, 32]), ([26, 33, 22], [22, 26, 33]), ([22, 34], [22, 34]), ([35, 26], [35]), ([36], [36]), ([37, 36], [36, 37]), ([38, 36], [36, 38]), ([39, 36, 36], [36, 39]), ([40], [40]), ([40], [40]), ([40], [40]), ([41, 42, 43, 40], [40, 41, 42, 43]), ([40], [40]), ([45, 40], [40, 45]), ([46, 40], [40, 46]), ([47, 40], [40, 47]), ([44, 48, 40], [40, 44, 48]), ([40, 49, 36], [36, 40, 49]), ([36, 50], [36, 50]), ([51, 40], [51]), ([52], [52]), ([53, 52], [52, 53]), ([54, 52], [52, 54]), ([55, 52, 52], [52, 55]), ([56], [56]), ([56], [56]), ([56], [56]), ([57, 58, 59, 56], [56, 57, 58, 59]), ([56], [56]), ([61, 56], [56, 61]), ([62, 56], [56, 62]), ([63, 56], [56, 63]), ([60, 64, 56], [56, 60, 64]), ([56, 65, 52], [52, 56, 65]), ([52, 66], [52, 66])])
def brackenlaw10_TokenRows.B8 : List Nat := [0, 1, 3, 7, 7, 31, 63, 127, 255, 255, 767, 2047, 4095, 8191, 16383, 16383, 16383, 114687, 245759, 524287, 1048575, 2097151, 4194303, 8388607, 16777215, 33554431, 67108863, 134217727, 268435455, 134217727, 134217727, 134217727, 3892314111, 8589934591, 17179869183, 34359738367, 68719476735, 137438953471, 274877906943, 549755813887, 1099511627775, 2199023255551, 2199023255551, 2199023255551, 17592186044415, 2199023255551, 37383395344383, 107752139522047, 248489627877375, 562949953421311, 1125899906842623, 2251799813685247, 4503599627370495, 9007199254740991, 18014398509481983, 36028797018963967, 72057594037927935, 144115188075855871, 144115188075855871, 144115188075855871, 1152921504606846975, 144115188075855871, 2449958197289549823, 7061644215716937727, 16285016252571713535, 36893488147419103231, 73786976294838206463, 147573952589676412927]
theorem brackenlaw10_TokenRows.tab8 : rtab .any (opsOf Tryd.f5 8) = brackenlaw10_TokenRows.T8 := by kernel_rfl
theorem brackenlaw10_TokenRows.bits8 : waitsOk brackenlaw10_TokenRows.T8.2 brackenlaw10_TokenRows.B8 = true := by kernel_rfl
set_option maxHeartbeats 8000000 in
set_option maxRecDepth 100000 in
theorem brackenlaw10_TokenRows.calls (k : Nat) (A0 : Option Addr) (c0 : Nat) (l0 : List Int) (r : Bool) (w : World) (hE : Env w) (hTrue : Hid (r = true)) (hr0 : Kd.C (Kd.int .i64) w A0 l0.length l0) (hc0 : l0.length ≤ c0) (h : brackenlaw10_TokenRows.f k l0 = some r) :
  Calls Tryd.prog 5 #[.slice A0 l0.length c0] w fun e w' => e = .returned (.bool r) ∧ Below w.heap.size w w' := by
 have hu27 := Tryd.underlying27
 have HR0 := Aside0.mk hr0
 have HC0 := Aside0.mk hc0
 clear hr0 hc0
 have HE := Aside0.mk hE
 clear hE
 have HB := Aside0.mk (Below.refl w.heap.size w)
 have H : ((brackenlaw10_Text.f k l0 30).bind fun t390 => ((token_All.f k t390).bind fun bt391 => (brackenlaw10_TokenRows.l0 k t390 bt391.1 bt391.2.1 bt391.2.2 0 0))) = some r := h
 clear h
 replace H := Option.bind_eq_some_iff.mp H
 obtain ⟨t390, A20, H⟩ := H
 try dsimp only at H
 have A2 := Aside0.mk A20
 clear A20
 replace H := Option.bind_eq_some_iff.mp H
 obtain ⟨⟨t391, t392, t393⟩, A30, H⟩ := H
 replace H : (brackenlaw10_TokenRows.l0 k t390 t391 t392 t393 0 0) = some r := H
 have A3 := Aside0.mk A30
 clear A30
 have H' := Aside0.mk H
 clear H
 go_enter Tryd.func5, Tryd.ntmps5
 go_wp2_with (first | ((with_reducible refine gate_callee (f := 18) rfl ?_); refine goesL_ (some 16) rfl rfl Tryd.func18 (by kernel_rfl) rfl #[.slice A0 l0.length c0, .int .i64 30] rfl (by (try simp only [List.map_toArray, List.map_cons, List.map_nil]); first | done | rfl | (simp only [List.length_drop, List.length_take]; rfl)) ?_; (with_reducible refine (brackenlaw10_Text.calls k _ _ l0 30 t390 _ ?side1 ?side2 A2.out).mono ?_); (case side1 => repeat (first | exact HR0.out | (with_reducible refine Kd.C_alloc ?_ _) | (with_reducible refine Kd.C_drewN ?_ _) | (with_reducible refine Kd.C_drew ?_))); (case side2 => exact HC0.out); rintro e w4 ⟨rfl, hb⟩; refine ⟨_, rfl, ?_⟩; have n0_ := Aside0.mk (below_step (by repeat (first | (with_reducible first | exact HB.out | apply below_alloc | apply pw_below_drewN | apply below_drew1) | exact HB.out)) hb); clear HB; have HB := n0_; clear n0_; (try clear hb); (try clear hb2); (try clear hk); (try clear hi)) | ((with_reducible refine gate_callee (f := 19) rfl ?_); refine goesL_ (some 19) rfl rfl Tryd.func19 (by kernel_rfl) rfl #[.string t390] rfl (by (try simp only [List.map_toArray, List.map_cons, List.map_nil]); first | done | rfl | (simp only [List.length_drop, List.length_take]; rfl)) ?_; (with_reducible refine (token_All.calls k t390 t391 t392 t393 _ (Env.below HE.out (by repeat (first | (with_reducible first | exact HB.out | apply below_alloc | apply pw_below_drewN | apply below_drew1) | exact HB.out))) A3.out).mono ?_); rintro e w5 ⟨v394, rfl, ho0, hb⟩; refine ⟨_, rfl, ?_⟩; have n0_ := Aside0.mk (Kd.S_lower ho0 (below_size (by repeat (first | (with_reducible first | exact HB.out | apply below_alloc | apply pw_below_drewN | apply below_drew1) | exact HB.out)))); have n1_ := Aside0.mk (below_step (by repeat (first | (with_reducible first | exact HB.out | apply below_alloc | apply pw_below_drewN | apply below_drew1) | exact HB.out)) hb); clear HB; have HO395 := n0_; have HB := n1_; clear n0_ n1_; (try clear hb); (try clear hb2); (try clear hk); (try clear hi); (try clear ho0)))
 go_loopg [7, 8] k (fun kq v7 v8 w' => ∃ (x7_1 : Int) (x8_1 : Int), v7 = .int .i64 x7_1 ∧ v8 = .int .i64 x8_1 ∧ Aside0 (brackenlaw10_TokenRows.l0 kq t390 t391 t392 t393 x7_1 x8_1 = some r) ∧ Aside0 (kq ≤ k) ∧ Aside0 (Kd.S k27 27 w' w.heap.size (fun _ => True) v394 t391) ∧ Aside0 (Below w.heap.size w w'))
 case atStart => exact ⟨(0), (0), (by first | rfl | (simp; done) | (simp [*]; done)), (by first | rfl | (simp; done) | (simp [*]; done)), H', ⟨Nat.le_refl _⟩, ⟨by (with_reducible repeat (first | apply Kd.S_alloc | apply Kd.S_drewN | apply Kd.S_drew)); exact HO395.out⟩, ⟨by repeat (first | (with_reducible first | exact HB.out | apply below_alloc | apply pw_below_drewN | apply below_drew1) | exact HB.out)⟩⟩
 case round =>
  clear H'
  try clear c1
  try clear p2
  try clear c5
  obtain ⟨x7_1, x8_1, rfl, rfl, HA, HK1, HO_4, HB⟩ := hrel
  cases gk with
  | zero => exact absurd HA.out (by simp [brackenlaw10_TokenRows.l0])
  | succ k1 =>
   have H := HA.out
   clear HA
   simp only [brackenlaw10_TokenRows.l0] at H
   by_cases c6 : x8_1 < (t391.length : Int)
   ·rw [if_pos c6] at H
    have c6b0 := decide_eq_true c6
    clear c6
    replace H := Option.bind_eq_some_iff.mp H
    obtain ⟨⟨t407, t408, t409, t410, t413, t414, t415⟩, A70, H⟩ := H
    try dsimp only at H
    have A7 := Aside0.mk A70
    clear A70
    by_cases c8 : t415 = 0
    ·rw [if_pos c8] at H
     have c8b0 := beq_iff_eq.mpr c8
     have c8b1 := bne_eq_false_iff_eq.mpr c8
     clear c8
     by_cases c9 : t414 ≤ x7_1
     ·rw [if_pos c9] at H
      have c9b0 := decide_eq_true c9
      clear c9
      exact absurd ((Option.some.inj H).trans hTrue.out) (by decide)
     ·rw [if_neg c9] at H
      have c9b0 := decide_eq_false c9
      clear c9
      by_cases c10 : t414 > (t390.size : Int)
      ·rw [if_pos c10] at H
       have c10b0 : decide ((t390.size : Int) < t414) = true := decide_eq_true c10
       clear c10
       exact absurd ((Option.some.inj H).trans hTrue.out) (by decide)
      ·rw [if_neg c10] at H
       have c10b0 : decide ((t390.size : Int) < t414) = false := decide_eq_false c10
       clear c10
       by_cases c11 : 0 ≤ x8_1
       ·rw [if_pos c11] at H
        have c11b0 := decide_eq_true c11
        clear c11
        replace H := Option.bind_eq_some_iff.mp H
        obtain ⟨t418, A120, H⟩ := H
        try dsimp only at H
        have A12 := Aside0.mk A120
        clear A120
        by_cases c13 : t418 = true
        ·subst c13
         rw [if_pos rfl] at H
         try dsimp only at H
         by_cases c14 : t407 = 1
         ·rw [if_pos c14] at H
          have c14b0 := beq_iff_eq.mpr c14
          have c14b1 := bne_eq_false_iff_eq.mpr c14
          clear c14
          by_cases c15 : 0 ≤ x7_1
          ·rw [if_pos c15] at H
           have c15b0 := eq_true c15
           have c15b1 := decide_eq_true c15
           clear c15
           by_cases c16 : x7_1 ≤ t414
           ·rw [if_pos c16] at H
            have c16b0 := eq_true c16
            have c16b1 := decide_eq_true c16
            clear c16
            by_cases c17 : t414 ≤ (t390.size : Int)
            ·rw [if_pos c17] at H
             have c17b0 := eq_true c17
             have c17b1 := decide_eq_true c17
             clear c17
             by_cases c18 : t409.toList = (t390.extract (x7_1 : Int).toNat (t414 : Int).toNat).toList
             ·rw [if_pos c18] at H
              have c18b0 := beq_iff_eq.mpr c18
              have c18b1 := bne_eq_false_iff_eq.mpr c18
              clear c18
              by_cases c19 : t407 = 4
              ·have z := beq_iff_eq.mp c14b0
               omega
              ·rw [if_neg c19] at H
               have c19b0 := beq_eq_false_iff_ne.mpr c19
               have c19b1 := bne_iff_ne.mpr c19
               by_cases c49 : t407 = 6
               ·have z := beq_iff_eq.mp c14b0
                omega
               ·rw [if_neg c49] at H
                have c49b0 := beq_eq_false_iff_ne.mpr c49
                have c49b1 := bne_iff_ne.mpr c49
                have H' := Aside0.mk H
                clear H
                obtain ⟨Ao64, co64, eo64⟩ := Kd.S_slice HO_4.out
                subst eo64
                try go_wp2_with (first | ((with_reducible refine gate_callee (f := 15) rfl ?_); refine goesL_ (some 32) rfl rfl Tryd.func15 (by kernel_rfl) rfl #[.string t390, .int .i64 x7_1] rfl (by (try simp only [List.map_toArray, List.map_cons, List.map_nil]); first | done | rfl | (simp only [List.length_drop, List.length_take]; rfl)) ?_; (with_reducible refine (token_Next.calls k1 t390 x7_1 t407 t408 t409 t410 t413 t414 t415 _ (Env.below HE.out (by repeat (first | (with_reducible first | exact HB.out | apply below_alloc | apply pw_below_drewN | apply below_drew1) | exact HB.out))) A7.out).mono ?_); rintro e w65 ⟨v411, rfl, ho0, hb⟩; refine ⟨_, rfl, ?_⟩; have n0_ := Aside0.mk (Kd.S_elder' (by (with_reducible repeat (first | apply Kd.S_alloc | apply Kd.S_drewN | apply Kd.S_drew)); exact HO_4.out) (Kd.R_base ho0) hb); have n1_ := Aside0.mk (Kd.R_lower ho0 (below_size (by repeat (first | (with_reducible first | exact HB.out | apply below_alloc | apply pw_below_drewN | apply below_drew1) | exact HB.out)))); have n2_ := Aside0.mk (below_step (by repeat (first | (with_reducible first | exact HB.out | apply below_alloc | apply pw_below_drewN | apply below_drew1) | exact HB.out)) hb); clear HO_4; clear HB; have HO_4 := n0_; have HO412 := n1_; have HB := n2_; clear n0_ n1_ n2_; (try clear hb); (try clear hb2); (try clear hk); (try clear hi); (try clear ho0)) | ((with_reducible refine gate_dst (N := 9) rfl ?_); (try (refine gate_guard (by rfl) ?_; dsimp only)); refine box_event ?hg (N := 9) ?hd (cs := #[.int .i64 0, .string ⟨#[]⟩, .string ⟨#[]⟩, .slice none 0 0, .bool false]) (t := 27) ?hr ?_; (case hd => rfl); (case hg => rfl); (case hr => first | (go_simp; done) | (go_simp; rfl)); intro gb416 hg w66 hbox hb; have n0_ := Aside0.mk (Kd.S_below (Kd.S_elderB (by (with_reducible repeat (first | apply Kd.S_alloc | apply Kd.S_drewN | apply Kd.S_drew)); exact HO_4.out) gb416 (Nat.le_of_eq hg.symm)) hb); have n1_ := Aside0.mk (Kd.R_below (by (with_reducible repeat (first | apply Kd.R_alloc | apply Kd.R_drewN | apply Kd.R_drew)); exact HO412.out) hb); have n2_ := Aside0.mk (below_step (by repeat (first | (with_reducible first | exact HB.out | apply below_alloc | apply pw_below_drewN | apply below_drew1) | exact HB.out)) hb); have n3_ := Aside0.mk (hbox); have n4_ := Aside0.mk ((by rw [hg]; exact (below_size (by repeat (first | (with_reducible first | exact HB.out | apply below_alloc | apply pw_below_drewN | apply below_drew1) | exact HB.out))) : w.heap.size ≤ gb416)); have n5_ := Aside0.mk ((by rw [hg]; exact (below_size (by repeat (first | (with_reducible first | exact HB.out | apply below_alloc | apply pw_below_drewN | apply below_drew1) | exact HB.out))) : w.heap.size ≤ gb416)); clear HO_4; clear HO412; clear HB; have HO_4 := n0_; have HO412 := n1_; have HB := n2_; have BK416 := n3_; have GW416 := n4_; have GE416 := n5_; clear n0_ n1_ n2_ n3_ n4_ n5_; clear hb hbox hg; have hcz67_0 : w66.cell? ⟨gb416, 0, none⟩ = some (.int .i64 0) := (blk_cell BK416.out 0).trans rfl; have hcz67_1 : w66.cell? ⟨gb416, 1, none⟩ = some (.string ⟨#[]⟩) := (blk_cell BK416.out 1).trans rfl; have hcz67_2 : w66.cell? ⟨gb416, 2, none⟩ = some (.string ⟨#[]⟩) := (blk_cell BK416.out 2).trans rfl; have hcz67_3 : w66.cell? ⟨gb416, 3, none⟩ = some (.slice none 0 0) := (blk_cell BK416.out 3).trans rfl; have hcz67_4 : w66.cell? ⟨gb416, 4, none⟩ = some (.bool false) := (blk_cell BK416.out 4).trans rfl; have hfz67_0 := blk_frozen BK416.out 0; have hfz67_1 := blk_frozen BK416.out 1; have hfz67_2 := blk_frozen BK416.out 2; have hfz67_3 := blk_frozen BK416.out 3; have hfz67_4 := blk_frozen BK416.out 4; obtain ⟨Ao68, co68, eo68⟩ := Kd.R_slice HO412.out; subst eo68))
                have n0_ : Aside0 (Kd.S k27 27 (((((w66.setCell ⟨gb416, 0, none⟩ (.int .i64 t407)).setCell ⟨gb416, 1, none⟩ (.string t408)).setCell ⟨gb416, 2, none⟩ (.string t409)).setCell ⟨gb416, 3, none⟩ (.slice Ao68 t410.length co68)).setCell ⟨gb416, 4, none⟩ (.bool t413)) w.heap.size (fun k_ => some k_ ≠ (.slice Ao68 t410.length co68 : Value).ownBlock ∧ k_ ≠ gb416) (.slice Ao64 t391.length co64) t391) := ⟨by (with_reducible repeat (first | apply Kd.S_alloc | apply Kd.S_drewN | apply Kd.S_drew)); exact Kd.S_mono (Kd.S_far (p := ⟨gb416, 4, none⟩) (Kd.S_far (p := ⟨gb416, 3, none⟩) (Kd.S_far (p := ⟨gb416, 2, none⟩) (Kd.S_far (p := ⟨gb416, 1, none⟩) (Kd.S_far (p := ⟨gb416, 0, none⟩) (Kd.S_mono HO_4.out (fun k_ hk => (⟨hk, hk.2⟩ : _ ∧ k_ ≠ gb416))) (fun _ hk => hk.2) (.int .i64 t407)) (fun _ hk => hk.2) (.string t408)) (fun _ hk => hk.2) (.string t409)) (fun _ hk => hk.2) (.slice Ao68 t410.length co68)) (fun _ hk => hk.2) (.bool t413)) (fun _ hk => ⟨hk.1.1.2, hk.1.2⟩)⟩
                have n1_ : Aside0 (Kd.R k42 42 (((((w66.setCell ⟨gb416, 0, none⟩ (.int .i64 t407)).setCell ⟨gb416, 1, none⟩ (.string t408)).setCell ⟨gb416, 2, none⟩ (.string t409)).setCell ⟨gb416, 3, none⟩ (.slice Ao68 t410.length co68)).setCell ⟨gb416, 4, none⟩ (.bool t413)) w.heap.size (fun _ => True) (.slice Ao68 t410.length co68) t410) := ⟨by (with_reducible repeat (first | apply Kd.R_alloc | apply Kd.R_drewN | apply Kd.R_drew)); exact Kd.R_mono (Kd.R_far (p := ⟨gb416, 4, none⟩) (Kd.R_far (p := ⟨gb416, 3, none⟩) (Kd.R_far (p := ⟨gb416, 2, none⟩) (Kd.R_far (p := ⟨gb416, 1, none⟩) (Kd.R_far (p := ⟨gb416, 0, none⟩) (Kd.R_types HO412.out BK416.out (by decide)) (fun _ hk => hk.2) (.int .i64 t407)) (fun _ hk => hk.2) (.string t408)) (fun _ hk => hk.2) (.string t409)) (fun _ hk => hk.2) (.slice Ao68 t410.length co68)) (fun _ hk => hk.2) (.bool t413)) (fun _ hk => trivial)⟩
                have n2_ : Aside0 ((((((w66.setCell ⟨gb416, 0, none⟩ (.int .i64 t407)).setCell ⟨gb416, 1, none⟩ (.string t408)).setCell ⟨gb416, 2, none⟩ (.string t409)).setCell ⟨gb416, 3, none⟩ (.slice Ao68 t410.length co68)).setCell ⟨gb416, 4, none⟩ (.bool t413)).heap[gb416]? = some (.cells #[.int .i64 t407, .string t408, .string t409, .slice Ao68 t410.length co68, .bool t413] 27 (0, 0))) := ⟨by (with_reducible repeat (first | refine blk_drewN ?_ _ | refine blk_drew ?_ | refine blk_alloc ?_ _)); refine blk_put (cs := #[.int .i64 t407, .string t408, .string t409, .slice Ao68 t410.length co68, .bool false]) ?_ 4 _ rfl; (with_reducible repeat (first | refine blk_drewN ?_ _ | refine blk_drew ?_ | refine blk_alloc ?_ _)); refine blk_put (cs := #[.int .i64 t407, .string t408, .string t409, .slice none 0 0, .bool false]) ?_ 3 _ rfl; (with_reducible repeat (first | refine blk_drewN ?_ _ | refine blk_drew ?_ | refine blk_alloc ?_ _)); refine blk_put (cs := #[.int .i64 t407, .string t408, .string ⟨#[]⟩, .slice none 0 0, .bool false]) ?_ 2 _ rfl; (with_reducible repeat (first | refine blk_drewN ?_ _ | refine blk_drew ?_ | refine blk_alloc ?_ _)); refine blk_put (cs := #[.int .i64 t407, .string ⟨#[]⟩, .string ⟨#[]⟩, .slice none 0 0, .bool false]) ?_ 1 _ rfl; (with_reducible repeat (first | refine blk_drewN ?_ _ | refine blk_drew ?_ | refine blk_alloc ?_ _)); refine blk_put (cs := #[.int .i64 0, .string ⟨#[]⟩, .string ⟨#[]⟩, .slice none 0 0, .bool false]) ?_ 0 _ rfl; (with_reducible repeat (first | refine blk_drewN ?_ _ | refine blk_drew ?_ | refine blk_alloc ?_ _)); exact BK416.out⟩
                have n3_ : Aside0 (Below w.heap.size w (((((w66.setCell ⟨gb416, 0, none⟩ (.int .i64 t407)).setCell ⟨gb416, 1, none⟩ (.string t408)).setCell ⟨gb416, 2, none⟩ (.string t409)).setCell ⟨gb416, 3, none⟩ (.slice Ao68 t410.length co68)).setCell ⟨gb416, 4, none⟩ (.bool t413))) := ⟨by repeat (first | (with_reducible first | exact HB.out | apply below_alloc | apply pw_below_drewN | apply below_drew1 | refine below_set ?_ GE416.out) | exact HB.out)⟩
                (try clear HO_4)
                (try clear HO412)
                (try clear BK416)
                (try clear HB)
                generalize (((((w66.setCell ⟨gb416, 0, none⟩ (.int .i64 t407)).setCell ⟨gb416, 1, none⟩ (.string t408)).setCell ⟨gb416, 2, none⟩ (.string t409)).setCell ⟨gb416, 3, none⟩ (.slice Ao68 t410.length co68)).setCell ⟨gb416, 4, none⟩ (.bool t413)) = w69 at n0_ n1_ n2_ n3_ ⊢
                have HO_4 := n0_
                have HO412 := n1_
                have BK416 := n2_
                have HB := n3_
                clear n0_ n1_ n2_ n3_
                have n0_ := Aside0.mk (Kd.S_drew HO_4.out)
                have n1_ := Aside0.mk (Kd.R_drew HO412.out)
                have n2_ := Aside0.mk (blk_drew BK416.out)
                have n3_ := Aside0.mk (below_drew1 HB.out)
                clear HO_4
                clear HO412
                clear BK416
                clear HB
                have HO_4 := n0_
                have HO412 := n1_
                have BK416 := n2_
                have HB := n3_
                clear n0_ n1_ n2_ n3_
                have p417 : 0 ≤ (x8_1 : Int) := of_decide_eq_true (by first | (with_reducible assumption) | assumption)
                have q417 : x8_1 < (t391.length : Int) := of_decide_eq_true (by first | (with_reducible assumption) | assumption)
                obtain ⟨ad417, A417_3, c417_3, e417, hx417_0, hx417_1, hx417_2, hx417_3, hx417_4, hl417_3, hi417_3⟩ := at_T27 (Kd.S_reads' HO_4.out).2.2 x8_1 p417 q417
                cases e417
                obtain ⟨ce417, hce417, hMe417, hcc417⟩ := Kd.S_get HO_4.out z27 x8_1 p417 (by first | exact q417 | exact of_decide_eq_true (by first | (with_reducible assumption) | assumption) | (have e_ := (Kd.S_reads' HO_4.out).1; omega))
                obtain ⟨ve417_3, rfl, ge417_3⟩ := k27_openM hMe417
                have hv417_3 := hcc417 3 _ rfl
                rw [add_field _ _ 3 (by omega)] at hv417_3
                replace hv417_3 := Option.some.inj (hv417_3.symm.trans hx417_3)
                rw [hv417_3] at ge417_3
                have HL417_3 := Aside0.mk (show Kd.R k42 42 _ _ _ _ ((rd_T27 t391 x8_1).f3) from ge417_3)
                clear hv417_3 ge417_3
                clear hcc417 hce417
                have HR417_3 := Aside0.mk hi417_3
                have HC417_3 := Aside0.mk hl417_3
                clear hi417_3 hl417_3
                replace p417 := eq_true p417
                replace q417 := eq_true q417
                refine start_ (n := 68) (S := fun w' => w'.cell? ⟨gb416, 0, none⟩ = some (.int .i64 t407) ∧ w'.cell? ⟨gb416, 1, none⟩ = some (.string t408) ∧ w'.cell? ⟨gb416, 2, none⟩ = some (.string t409) ∧ w'.cell? ⟨gb416, 3, none⟩ = some (.slice Ao68 t410.length co68) ∧ w'.cell? ⟨gb416, 4, none⟩ = some (.bool t413) ∧ w'.cell? (ad417.add ((x8_1).toNat * 5)) = some (.int .i64 ((rd_T27 t391 x8_1).f0)) ∧ w'.cell? ⟨(ad417.add ((x8_1).toNat * 5)).block, (ad417.add ((x8_1).toNat * 5)).off + 1, none⟩ = some (.string ((rd_T27 t391 x8_1).f1)) ∧ w'.cell? ⟨(ad417.add ((x8_1).toNat * 5)).block, (ad417.add ((x8_1).toNat * 5)).off + 2, none⟩ = some (.string ((rd_T27 t391 x8_1).f2)) ∧ w'.cell? ⟨(ad417.add ((x8_1).toNat * 5)).block, (ad417.add ((x8_1).toNat * 5)).off + 3, none⟩ = some (.slice A417_3 ((rd_T27 t391 x8_1).f3).length c417_3) ∧ w'.cell? ⟨(ad417.add ((x8_1).toNat * 5)).block, (ad417.add ((x8_1).toNat * 5)).off + 4, none⟩ = some (.bool ((rd_T27 t391 x8_1).f4))) (ds := []) (KX.upTo 68 0) (by kernel_rfl) rfl rfl ⟨(blk_cell BK416.out 0).trans rfl, (blk_cell BK416.out 1).trans rfl, (blk_cell BK416.out 2).trans rfl, (blk_cell BK416.out 3).trans rfl, (blk_cell BK416.out 4).trans rfl, hx417_0, hx417_1, hx417_2, hx417_3, hx417_4⟩ (fun hHeld => ?_); refine with_tabW brackenlaw10_TokenRows.tab8 brackenlaw10_TokenRows.bits8 (fun HT_ HW_ => ?_)
                generalize w69.drew = w70 at HO_4 HO412 BK416 HB HL417_3 HR417_3 hx417_0 hx417_1 hx417_2 hx417_3 hx417_4 hHeld ⊢
                refine KX.pq_ 0 (some 36) (KX.upTo 68 1) HT_ ?_
                refine KX.pq_ 1 (some 37) (KX.upTo 68 2) HT_ ?_
                refine KX.pq_ 2 (some 38) (KX.upTo 68 3) HT_ ?_
                refine KX.pq_ 3 (some 39) (KX.upTo 68 4) HT_ ?_
                refine KX.pq_ 4 (some 40) (KX.upTo 68 5) HT_ ?_
                refine KX.pq_ 5 (some 41) (KX.upTo 68 6) HT_ ?_
                refine KX.pq_ 6 (some 42) (KX.upTo 68 7) HT_ ?_
                refine KX.pq_ 7 (some 43) (KX.upTo 68 8) HT_ ?_
                refine KX.pq_ 8 (some 44) (KX.upTo 68 9) HT_ ?_
                refine KX.pq_ 9 (some 45) (KX.upTo 68 10) HT_ ?_
                refine KX.pq_ 10 (some 46) (KX.upTo 68 11) HT_ ?_
                refine KX.pq_ 11 (some 47) (KX.upTo 68 12) HT_ ?_
                refine KX.pq_ 12 (some 48) (KX.upTo 68 13) HT_ ?_
                refine KX.pq_ 13 (some 49) (KX.upTo 68 14) HT_ ?_
                refine KX.pq_ 15 (some 51) D15_ HT_ ?_
                refine KX.pq_ 16 (some 52) D16_ HT_ ?_
                refine KX.pq_ 17 (some 53) D17_ HT_ ?_
                refine take_ (i := 14) (N := some 50) (v := ?_) (a' := ?_) (KX.upTo 68 18) rfl rfl (take_ofW HT_.out HW_.out (by kernel_rfl)) (fun _ _ _ h => h) (Or.inl ⟨by rfl, ?_⟩) hHeld ?_ ?_
                rotate_left
                ·rintro w' ⟨s0, s1, s2, s3, s4, s5, s6, s7, s8, s9⟩
                 go_simp
                 with_reducible rfl
                rotate_left
                ·simp only [Act.put, List.setIfInBounds_toArray, List.set_cons_zero, List.set_cons_succ, i64_w, i32_w]
                 rfl
                refine take_ (i := 18) (N := some 54) (v := ?_) (a' := ?_) (KX.upTo 68 19) rfl rfl (take_ofW HT_.out HW_.out (by kernel_rfl)) (fun _ _ _ h => h) (Or.inl ⟨by rfl, ?_⟩) hHeld ?_ ?_
                rotate_left
                ·rintro w' ⟨s0, s1, s2, s3, s4, s5, s6, s7, s8, s9⟩
                 go_simp
                 with_reducible rfl
                rotate_left
                ·simp only [Act.put, List.setIfInBounds_toArray, List.set_cons_zero, List.set_cons_succ, i64_w, i32_w]
                 rfl
                refine one_ (i := 19) (N := some 55) (KX.upTo 68 20) rfl rfl (one_of HT_.out (by kernel_rfl)) (by decide) (fun K hK => ?_)
                refine goes_ Tryd.func20 (by kernel_rfl) rfl #[.agg #[.int .i64 t407, .string t408, .string t409, .slice Ao68 t410.length co68, .bool t413], .agg #[.int .i64 ((rd_T27 t391 x8_1).f0), .string ((rd_T27 t391 x8_1).f1), .string ((rd_T27 t391 x8_1).f2), .slice A417_3 ((rd_T27 t391 x8_1).f3).length c417_3, .bool ((rd_T27 t391 x8_1).f4)]] (by rfl) rfl rfl (by (try simp only [List.map_toArray, List.map_cons, List.map_nil]); first | done | rfl | (simp only [List.length_drop, List.length_take]; rfl)) ?_
                with_reducible refine (brackenref10_SameToken.calls k1 t407 t408 t409 _ _ t410 t413 ((rd_T27 t391 x8_1).f0) ((rd_T27 t391 x8_1).f1) ((rd_T27 t391 x8_1).f2) _ _ ((rd_T27 t391 x8_1).f3) ((rd_T27 t391 x8_1).f4) true _ ?side1 ?side2 ?side3 ?side4 A12.out).mono ?_
                (case side1 => repeat (first | exact (Kd.R_reads' HO412.out).2.2 | (with_reducible refine Kd.C_alloc ?_ _) | (with_reducible refine Kd.C_drewN ?_ _) | (with_reducible refine Kd.C_drew ?_)))
                (case side2 => exact (Kd.R_reads' HO412.out).2.1)
                (case side3 => repeat (first | exact (by repeat (first | (with_reducible exact HR417_3.out) | (with_reducible refine Kd.C_alloc ?_ _) | (with_reducible refine Kd.C_drewN ?_ _) | (with_reducible refine Kd.C_drew ?_) | exact HR417_3.out)) | (with_reducible refine Kd.C_alloc ?_ _) | (with_reducible refine Kd.C_drewN ?_ _) | (with_reducible refine Kd.C_drew ?_)))
                (case side4 => exact HC417_3.out)
                rintro e w71 ⟨rfl, hb⟩
                have HS5_ := (hb.cell (World.block_lt_of_cell? _ _ (hHeld.2.2.2.2.2.1))).trans (hHeld.2.2.2.2.2.1)
                have HS6_ := (hb.cell (World.block_lt_of_cell? _ _ (hHeld.2.2.2.2.2.2.1))).trans (hHeld.2.2.2.2.2.2.1)
                have HS7_ := (hb.cell (World.block_lt_of_cell? _ _ (hHeld.2.2.2.2.2.2.2.1))).trans (hHeld.2.2.2.2.2.2.2.1)
                have HS8_ := (hb.cell (World.block_lt_of_cell? _ _ (hHeld.2.2.2.2.2.2.2.2.1))).trans (hHeld.2.2.2.2.2.2.2.2.1)
                have HS9_ := (hb.cell (World.block_lt_of_cell? _ _ (hHeld.2.2.2.2.2.2.2.2.2))).trans (hHeld.2.2.2.2.2.2.2.2.2)
                refine ⟨_, rfl, ?_⟩
                have n0_ := Aside0.mk (Kd.S_below (by (with_reducible repeat (first | apply Kd.S_alloc | apply Kd.S_drewN | apply Kd.S_drew)); exact HO_4.out) hb)
                have n1_ := Aside0.mk (Kd.R_below (by (with_reducible repeat (first | apply Kd.R_alloc | apply Kd.R_drewN | apply Kd.R_drew)); exact HO412.out) hb)
                have n2_ := Aside0.mk (Kd.R_below (by (with_reducible repeat (first | apply Kd.R_alloc | apply Kd.R_drewN | apply Kd.R_drew)); exact HL417_3.out) hb)
                have n3_ := Aside0.mk (blk_below (g := gb416) (o := .cells #[.int .i64 t407, .string t408, .string t409, .slice Ao68 t410.length co68, .bool t413] 27 (0, 0)) (by (with_reducible repeat (first | refine blk_drewN ?_ _ | refine blk_drew ?_ | refine blk_alloc ?_ _)); exact BK416.out) hb)
                have n4_ := Aside0.mk (Kd.C_below (by repeat (first | (with_reducible exact HR417_3.out) | (with_reducible refine Kd.C_alloc ?_ _) | (with_reducible refine Kd.C_drewN ?_ _) | (with_reducible refine Kd.C_drew ?_) | exact HR417_3.out)) hb)
                have n5_ := Aside0.mk (below_step (by repeat (first | (with_reducible first | exact HB.out | apply below_alloc | apply pw_below_drewN | apply below_drew1 | refine below_set ?_ GE416.out) | exact HB.out)) hb)
                clear HO_4
                clear HO412
                clear HL417_3
                clear BK416
                clear HR417_3
                clear HB
                have HO_4 := n0_
                have HO412 := n1_
                have HL417_3 := n2_
                have BK416 := n3_
                have HR417_3 := n4_
                have HB := n5_
                clear n0_ n1_ n2_ n3_ n4_ n5_
                (try clear hb)
                (try clear hb2)
                (try clear hk)
                (try clear hi)
                refine hK.out _ _ ⟨(blk_cell BK416.out 0).trans rfl, (blk_cell BK416.out 1).trans rfl, (blk_cell BK416.out 2).trans rfl, (blk_cell BK416.out 3).trans rfl, (blk_cell BK416.out 4).trans rfl, HS5_, HS6_, HS7_, HS8_, HS9_⟩ (fun hHeld => ?_)
                clear hK K
                refine norm_ (a' := ?_) ?_ ?_
                rotate_left
                ·show Act.put _ (some 55) _ = _
                 simp only [Act.put, List.setIfInBounds_toArray, List.set_cons_zero, List.set_cons_succ, i64_w, i32_w]
                 rfl
                refine KX.pq_ 20 (some 56) (KX.upTo 68 21) HT_ ?_
                refine KX.pq_ 21 (some 57) (KX.upTo 68 22) HT_ ?_
                refine KX.pq_ 22 (some 58) (KX.upTo 68 23) HT_ ?_
                refine KX.pq_ 23 (some 59) (KX.upTo 68 24) HT_ ?_
                refine take_ (i := 24) (N := some 60) (v := ?_) (a' := ?_) (KX.upTo 68 25) rfl rfl (take_ofW HT_.out HW_.out (by kernel_rfl)) (fun _ _ _ h => h) (Or.inl ⟨by rfl, ?_⟩) hHeld ?_ ?_
                rotate_left
                ·rintro w' ⟨s0, s1, s2, s3, s4, s5, s6, s7, s8, s9⟩
                 go_simp
                 with_reducible rfl
                rotate_left
                ·simp only [Act.put, List.setIfInBounds_toArray, List.set_cons_zero, List.set_cons_succ, i64_w, i32_w]
                 rfl
                refine KX.pq_ 25 (some 61) (KX.upTo 68 26) HT_ ?_
                refine KX.pq_ 26 (some 62) (KX.upTo 68 27) HT_ ?_
                refine KX.pq_ 27 (some 63) (KX.upTo 68 28) HT_ ?_
                refine KX.pq_ 29 (some 65) D29_ HT_ ?_
                refine KX.pq_ 30 (some 66) D30_ HT_ ?_
                refine KX.pq_ 31 (some 67) D31_ HT_ ?_
                refine KX.pq_ 32 (some 68) D32_ HT_ ?_
                refine take_ (i := 28) (N := some 64) (v := ?_) (a' := ?_) (KX.upTo 68 33) rfl rfl (take_ofW HT_.out HW_.out (by kernel_rfl)) (fun _ _ _ h => h) (Or.inl ⟨by rfl, ?_⟩) hHeld ?_ ?_
                rotate_left
                ·rintro w' ⟨s0, s1, s2, s3, s4, s5, s6, s7, s8, s9⟩
                 go_simp
                 with_reducible rfl
                rotate_left
                ·simp only [Act.put, List.setIfInBounds_toArray, List.set_cons_zero, List.set_cons_succ, i64_w, i32_w]
                 rfl
                refine KX.pq_ 33 (some 69) (KX.upTo 68 34) HT_ ?_
                refine KX.pq_ 34 (some 70) (KX.upTo 68 35) HT_ ?_
                refine KX.pq_ 35 (some 71) (KX.upTo 68 36) HT_ ?_
                refine KX.pq_ 36 (some 72) (KX.upTo 68 37) HT_ ?_
                refine KX.pq_ 37 (some 73) (KX.upTo 68 38) HT_ ?_
                refine take_ (i := 38) (N := some 74) (v := ?_) (a' := ?_) (KX.upTo 68 39) rfl rfl (take_ofW HT_.out HW_.out (by kernel_rfl)) (fun _ _ _ h => h) (Or.inl ⟨by rfl, ?_⟩) hHeld ?_ ?_
                rotate_left
                ·rintro w' ⟨s0, s1, s2, s3, s4, s5, s6, s7, s8, s9⟩
                 go_simp
                 with_reducible rfl
                rotate_left
                ·simp only [Act.put, List.setIfInBounds_toArray, List.set_cons_zero, List.set_cons_succ, i64_w, i32_w]
                 rfl
                refine KX.pq_ 39 (some 75) (KX.upTo 68 40) HT_ ?_
                refine KX.pq_ 40 (some 76) (KX.upTo 68 41) HT_ ?_
                refine KX.pu_ 41 (some 77) (KX.upTo 68 42) HT_ ?_
                refine KX.pu_ 42 (some 78) (KX.upTo 68 43) HT_ ?_
                refine KX.pu_ 43 (some 79) (KX.upTo 68 44) HT_ ?_
                refine KX.pu_ 44 (some 80) (KX.upTo 68 45) HT_ ?_
                refine KX.pu_ 45 (some 81) (KX.upTo 68 46) HT_ ?_
                refine KX.pu_ 46 (some 82) (KX.upTo 68 47) HT_ ?_
                refine KX.pu_ 47 (some 83) (KX.upTo 68 48) HT_ ?_
                refine KX.pu_ 48 (some 84) (KX.upTo 68 49) HT_ ?_
                refine KX.pu_ 49 (some 85) (KX.upTo 68 50) HT_ ?_
                refine KX.pq_ 50 (some 86) (KX.upTo 68 51) HT_ ?_
                refine KX.pq_ 51 (some 87) (KX.upTo 68 52) HT_ ?_
                refine KX.pq_ 52 (some 88) (KX.upTo 68 53) HT_ ?_
                refine KX.pq_ 53 (some 89) (KX.upTo 68 54) HT_ ?_
                refine take_ (i := 54) (N := some 90) (v := ?_) (a' := ?_) (KX.upTo 68 55) rfl rfl (take_ofW HT_.out HW_.out (by kernel_rfl)) (fun _ _ _ h => h) (Or.inl ⟨by rfl, ?_⟩) hHeld ?_ ?_
                rotate_left
                ·rintro w' ⟨s0, s1, s2, s3, s4, s5, s6, s7, s8, s9⟩
                 go_simp
                 with_reducible rfl
                rotate_left
                ·simp only [Act.put, List.setIfInBounds_toArray, List.set_cons_zero, List.set_cons_succ, i64_w, i32_w]
                 rfl
                refine KX.pq_ 55 (some 91) (KX.upTo 68 56) HT_ ?_
                refine KX.pq_ 56 (some 92) (KX.upTo 68 57) HT_ ?_
                refine KX.pu_ 57 (some 93) (KX.upTo 68 58) HT_ ?_
                refine KX.pu_ 58 (some 94) (KX.upTo 68 59) HT_ ?_
                refine KX.pu_ 59 (some 95) (KX.upTo 68 60) HT_ ?_
                refine KX.pu_ 60 (some 96) (KX.upTo 68 61) HT_ ?_
                refine KX.pu_ 61 (some 97) (KX.upTo 68 62) HT_ ?_
                refine KX.pu_ 62 (some 98) (KX.upTo 68 63) HT_ ?_
                refine KX.pu_ 63 (some 99) (KX.upTo 68 64) HT_ ?_
                refine KX.pu_ 64 (some 100) (KX.upTo 68 65) HT_ ?_
                refine KX.pu_ 65 (some 101) (KX.upTo 68 66) HT_ ?_
                refine KX.pq_ 66 (some 102) (KX.upTo 68 67) HT_ ?_
                refine KX.pq_ 67 (some 103) (KX.upTo 68 68) HT_ ?_
                refine done_ (done_of HT_.out (by kernel_rfl)) ?_
                try go_wp2
                go_roundg k1
                case measure => have := HK1.out; omega
                case rel => exact ⟨(t414), (wrap64 (x8_1 + 1)), (by first | rfl | (simp; done) | (simp [*]; done)), (by first | rfl | (simp; done) | (simp [*]; done)), H', ⟨by have := HK1.out; omega⟩, ⟨by (with_reducible repeat (first | apply Kd.S_alloc | apply Kd.S_drewN | apply Kd.S_drew)); exact Kd.S_mono HO_4.out (fun _ hk => trivial)⟩, ⟨by repeat (first | (with_reducible first | exact HB.out | apply below_alloc | apply pw_below_drewN | apply below_drew1 | refine below_set ?_ GE416.out) | exact HB.out)⟩⟩
             ·rw [if_neg c18] at H
              have c18b0 := beq_eq_false_iff_ne.mpr c18
              have c18b1 := bne_iff_ne.mpr c18
              exact absurd ((Option.some.inj H).trans hTrue.out) (by decide)
            ·rw [if_neg c17] at H
             exact absurd H (by simp)
           ·rw [if_neg c16] at H
            exact absurd H (by simp)
          ·rw [if_neg c15] at H
           exact absurd H (by simp)
         ·rw [if_neg c14] at H
          have c14b0 := beq_eq_false_iff_ne.mpr c14
          have c14b1 := bne_iff_ne.mpr c14
          by_cases c72 : t407 = 4
          ·rw [if_pos c72] at H
           have c72b0 := beq_iff_eq.mpr c72
           have c72b1 := bne_eq_false_iff_eq.mpr c72
           clear c72
           by_cases c73 : 0 ≤ x7_1
           ·rw [if_pos c73] at H
            have c73b0 := eq_true c73
            have c73b1 := decide_eq_true c73
            clear c73
            by_cases c74 : x7_1 ≤ t414
            ·rw [if_pos c74] at H
             have c74b0 := eq_true c74
             have c74b1 := decide_eq_true c74
             clear c74
             by_cases c75 : t414 ≤ (t390.size : Int)
             ·rw [if_pos c75] at H
              have c75b0 := eq_true c75
              have c75b1 := decide_eq_true c75
              clear c75
              by_cases c76 : 4 + t409.size ≤ 9223372036854775807
              ·rw [if_pos c76] at H
               have c76b0 := eq_true c76
               have c76b1 := decide_eq_true c76
               try have c76b2 := eq_false (Nat.not_lt.2 c76)
               by_cases c77 : 4 + t409.size + 3 ≤ 9223372036854775807
               ·rw [if_pos c77] at H
                have c77b0 := eq_true c77
                have c77b1 := decide_eq_true c77
                try have c77b2 := eq_false (Nat.not_lt.2 c77)
                by_cases c78 : (t390.extract (x7_1 : Int).toNat (t414 : Int).toNat).toList = (((⟨#[60, 33, 45, 45]⟩ : ByteArray) ++ t409) ++ (⟨#[45, 45, 62]⟩ : ByteArray)).toList
                ·rw [if_pos c78] at H
                 have c78b0 := beq_iff_eq.mpr c78
                 have c78b1 := bne_eq_false_iff_eq.mpr c78
                 clear c78
                 by_cases c79 : t407 = 6
                 ·have z := beq_iff_eq.mp c72b0
                  omega
                 ·rw [if_neg c79] at H
                  have c79b0 := beq_eq_false_iff_ne.mpr c79
                  have c79b1 := bne_iff_ne.mpr c79
                  have H' := Aside0.mk H
                  clear H
                  obtain ⟨Ao94, co94, eo94⟩ := Kd.S_slice HO_4.out
                  subst eo94
                  try go_wp2_with (first | ((with_reducible refine gate_callee (f := 15) rfl ?_); refine goesL_ (some 32) rfl rfl Tryd.func15 (by kernel_rfl) rfl #[.string t390, .int .i64 x7_1] rfl (by (try simp only [List.map_toArray, List.map_cons, List.map_nil]); first | done | rfl | (simp only [List.length_drop, List.length_take]; rfl)) ?_; (with_reducible refine (token_Next.calls k1 t390 x7_1 t407 t408 t409 t410 t413 t414 t415 _ (Env.below HE.out (by repeat (first | (with_reducible first | exact HB.out | apply below_alloc | apply pw_below_drewN | apply below_drew1) | exact HB.out))) A7.out).mono ?_); rintro e w95 ⟨v411, rfl, ho0, hb⟩; refine ⟨_, rfl, ?_⟩; have n0_ := Aside0.mk (Kd.S_elder' (by (with_reducible repeat (first | apply Kd.S_alloc | apply Kd.S_drewN | apply Kd.S_drew)); exact HO_4.out) (Kd.R_base ho0) hb); have n1_ := Aside0.mk (Kd.R_lower ho0 (below_size (by repeat (first | (with_reducible first | exact HB.out | apply below_alloc | apply pw_below_drewN | apply below_drew1) | exact HB.out)))); have n2_ := Aside0.mk (below_step (by repeat (first | (with_reducible first | exact HB.out | apply below_alloc | apply pw_below_drewN | apply below_drew1) | exact HB.out)) hb); clear HO_4; clear HB; have HO_4 := n0_; have HO412 := n1_; have HB := n2_; clear n0_ n1_ n2_; (try clear hb); (try clear hb2); (try clear hk); (try clear hi); (try clear ho0)) | ((with_reducible refine gate_dst (N := 9) rfl ?_); (try (refine gate_guard (by rfl) ?_; dsimp only)); refine box_event ?hg (N := 9) ?hd (cs := #[.int .i64 0, .string ⟨#[]⟩, .string ⟨#[]⟩, .slice none 0 0, .bool false]) (t := 27) ?hr ?_; (case hd => rfl); (case hg => rfl); (case hr => first | (go_simp; done) | (go_simp; rfl)); intro gb416 hg w96 hbox hb; have n0_ := Aside0.mk (Kd.S_below (Kd.S_elderB (by (with_reducible repeat (first | apply Kd.S_alloc | apply Kd.S_drewN | apply Kd.S_drew)); exact HO_4.out) gb416 (Nat.le_of_eq hg.symm)) hb); have n1_ := Aside0.mk (Kd.R_below (by (with_reducible repeat (first | apply Kd.R_alloc | apply Kd.R_drewN | apply Kd.R_drew)); exact HO412.out) hb); have n2_ := Aside0.mk (below_step (by repeat (first | (with_reducible first | exact HB.out | apply below_alloc | apply pw_below_drewN | apply below_drew1) | exact HB.out)) hb); have n3_ := Aside0.mk (hbox); have n4_ := Aside0.mk ((by rw [hg]; exact (below_size (by repeat (first | (with_reducible first | exact HB.out | apply below_alloc | apply pw_below_drewN | apply below_drew1) | exact HB.out))) : w.heap.size ≤ gb416)); have n5_ := Aside0.mk ((by rw [hg]; exact (below_size (by repeat (first | (with_reducible first | exact HB.out | apply below_alloc | apply pw_below_drewN | apply below_drew1) | exact HB.out))) : w.heap.size ≤ gb416)); clear HO_4; clear HO412; clear HB; have HO_4 := n0_; have HO412 := n1_; have HB := n2_; have BK416 := n3_; have GW416 := n4_; have GE416 := n5_; clear n0_ n1_ n2_ n3_ n4_ n5_; clear hb hbox hg; have hcz97_0 : w96.cell? ⟨gb416, 0, none⟩ = some (.int .i64 0) := (blk_cell BK416.out 0).trans rfl; have hcz97_1 : w96.cell? ⟨gb416, 1, none⟩ = some (.string ⟨#[]⟩) := (blk_cell BK416.out 1).trans rfl; have hcz97_2 : w96.cell? ⟨gb416, 2, none⟩ = some (.string ⟨#[]⟩) := (blk_cell BK416.out 2).trans rfl; have hcz97_3 : w96.cell? ⟨gb416, 3, none⟩ = some (.slice none 0 0) := (blk_cell BK416.out 3).trans rfl; have hcz97_4 : w96.cell? ⟨gb416, 4, none⟩ = some (.bool false) := (blk_cell BK416.out 4).trans rfl; have hfz97_0 := blk_frozen BK416.out 0; have hfz97_1 := blk_frozen BK416.out 1; have hfz97_2 := blk_frozen BK416.out 2; have hfz97_3 := blk_frozen BK416.out 3; have hfz97_4 := blk_frozen BK416.out 4; obtain ⟨Ao98, co98, eo98⟩ := Kd.R_slice HO412.out; subst eo98))
                  have n0_ : Aside0 (Kd.S k27 27 (((((w96.setCell ⟨gb416, 0, none⟩ (.int .i64 t407)).setCell ⟨gb416, 1, none⟩ (.string t408)).setCell ⟨gb416, 2, none⟩ (.string t409)).setCell ⟨gb416, 3, none⟩ (.slice Ao98 t410.length co98)).setCell ⟨gb416, 4, none⟩ (.bool t413)) w.heap.size (fun k_ => some k_ ≠ (.slice Ao98 t410.length co98 : Value).ownBlock ∧ k_ ≠ gb416) (.slice Ao94 t391.length co94) t391) := ⟨by (with_reducible repeat (first | apply Kd.S_alloc | apply Kd.S_drewN | apply Kd.S_drew)); exact Kd.S_mono (Kd.S_far (p := ⟨gb416, 4, none⟩) (Kd.S_far (p := ⟨gb416, 3, none⟩) (Kd.S_far (p := ⟨gb416, 2, none⟩) (Kd.S_far (p := ⟨gb416, 1, none⟩) (Kd.S_far (p := ⟨gb416, 0, none⟩) (Kd.S_mono HO_4.out (fun k_ hk => (⟨hk, hk.2⟩ : _ ∧ k_ ≠ gb416))) (fun _ hk => hk.2) (.int .i64 t407)) (fun _ hk => hk.2) (.string t408)) (fun _ hk => hk.2) (.string t409)) (fun _ hk => hk.2) (.slice Ao98 t410.length co98)) (fun _ hk => hk.2) (.bool t413)) (fun _ hk => ⟨hk.1.1.2, hk.1.2⟩)⟩
                  have n1_ : Aside0 (Kd.R k42 42 (((((w96.setCell ⟨gb416, 0, none⟩ (.int .i64 t407)).setCell ⟨gb416, 1, none⟩ (.string t408)).setCell ⟨gb416, 2, none⟩ (.string t409)).setCell ⟨gb416, 3, none⟩ (.slice Ao98 t410.length co98)).setCell ⟨gb416, 4, none⟩ (.bool t413)) w.heap.size (fun _ => True) (.slice Ao98 t410.length co98) t410) := ⟨by (with_reducible repeat (first | apply Kd.R_alloc | apply Kd.R_drewN | apply Kd.R_drew)); exact Kd.R_mono (Kd.R_far (p := ⟨gb416, 4, none⟩) (Kd.R_far (p := ⟨gb416, 3, none⟩) (Kd.R_far (p := ⟨gb416, 2, none⟩) (Kd.R_far (p := ⟨gb416, 1, none⟩) (Kd.R_far (p := ⟨gb416, 0, none⟩) (Kd.R_types HO412.out BK416.out (by decide)) (fun _ hk => hk.2) (.int .i64 t407)) (fun _ hk => hk.2) (.string t408)) (fun _ hk => hk.2) (.string t409)) (fun _ hk => hk.2) (.slice Ao98 t410.length co98)) (fun _ hk => hk.2) (.bool t413)) (fun _ hk => trivial)⟩
                  have n2_ : Aside0 ((((((w96.setCell ⟨gb416, 0, none⟩ (.int .i64 t407)).setCell ⟨gb416, 1, none⟩ (.string t408)).setCell ⟨gb416, 2, none⟩ (.string t409)).setCell ⟨gb416, 3, none⟩ (.slice Ao98 t410.length co98)).setCell ⟨gb416, 4, none⟩ (.bool t413)).heap[gb416]? = some (.cells #[.int .i64 t407, .string t408, .string t409, .slice Ao98 t410.length co98, .bool t413] 27 (0, 0))) := ⟨by (with_reducible repeat (first | refine blk_drewN ?_ _ | refine blk_drew ?_ | refine blk_alloc ?_ _)); refine blk_put (cs := #[.int .i64 t407, .string t408, .string t409, .slice Ao98 t410.length co98, .bool false]) ?_ 4 _ rfl; (with_reducible repeat (first | refine blk_drewN ?_ _ | refine blk_drew ?_ | refine blk_alloc ?_ _)); refine blk_put (cs := #[.int .i64 t407, .string t408, .string t409, .slice none 0 0, .bool false]) ?_ 3 _ rfl; (with_reducible repeat (first | refine blk_drewN ?_ _ | refine blk_drew ?_ | refine blk_alloc ?_ _)); refine blk_put (cs := #[.int .i64 t407, .string t408, .string ⟨#[]⟩, .slice none 0 0, .bool false]) ?_ 2 _ rfl; (with_reducible repeat (first | refine blk_drewN ?_ _ | refine blk_drew ?_ | refine blk_alloc ?_ _)); refine blk_put (cs := #[.int .i64 t407, .string ⟨#[]⟩, .string ⟨#[]⟩, .slice none 0 0, .bool false]) ?_ 1 _ rfl; (with_reducible repeat (first | refine blk_drewN ?_ _ | refine blk_drew ?_ | refine blk_alloc ?_ _)); refine blk_put (cs := #[.int .i64 0, .string ⟨#[]⟩, .string ⟨#[]⟩, .slice none 0 0, .bool false]) ?_ 0 _ rfl; (with_reducible repeat (first | refine blk_drewN ?_ _ | refine blk_drew ?_ | refine blk_alloc ?_ _)); exact BK416.out⟩
                  have n3_ : Aside0 (Below w.heap.size w (((((w96.setCell ⟨gb416, 0, none⟩ (.int .i64 t407)).setCell ⟨gb416, 1, none⟩ (.string t408)).setCell ⟨gb416, 2, none⟩ (.string t409)).setCell ⟨gb416, 3, none⟩ (.slice Ao98 t410.length co98)).setCell ⟨gb416, 4, none⟩ (.bool t413))) := ⟨by repeat (first | (with_reducible first | exact HB.out | apply below_alloc | apply pw_below_drewN | apply below_drew1 | refine below_set ?_ GE416.out) | exact HB.out)⟩
                  (try clear HO_4)
                  (try clear HO412)
                  (try clear BK416)
                  (try clear HB)
                  generalize (((((w96.setCell ⟨gb416, 0, none⟩ (.int .i64 t407)).setCell ⟨gb416, 1, none⟩ (.string t408)).setCell ⟨gb416, 2, none⟩ (.string t409)).setCell ⟨gb416, 3, none⟩ (.slice Ao98 t410.length co98)).setCell ⟨gb416, 4, none⟩ (.bool t413)) = w99 at n0_ n1_ n2_ n3_ ⊢
                  have HO_4 := n0_
                  have HO412 := n1_
                  have BK416 := n2_
                  have HB := n3_
                  clear n0_ n1_ n2_ n3_
                  have n0_ := Aside0.mk (Kd.S_drew HO_4.out)
                  have n1_ := Aside0.mk (Kd.R_drew HO412.out)
                  have n2_ := Aside0.mk (blk_drew BK416.out)
                  have n3_ := Aside0.mk (below_drew1 HB.out)
                  clear HO_4
                  clear HO412
                  clear BK416
                  clear HB
                  have HO_4 := n0_
                  have HO412 := n1_
                  have BK416 := n2_
                  have HB := n3_
                  clear n0_ n1_ n2_ n3_
                  have p417 : 0 ≤ (x8_1 : Int) := of_decide_eq_true (by first | (with_reducible assumption) | assumption)
                  have q417 : x8_1 < (t391.length : Int) := of_decide_eq_true (by first | (with_reducible assumption) | assumption)
                  obtain ⟨ad417, A417_3, c417_3, e417, hx417_0, hx417_1, hx417_2, hx417_3, hx417_4, hl417_3, hi417_3⟩ := at_T27 (Kd.S_reads' HO_4.out).2.2 x8_1 p417 q417
                  cases e417
                  obtain ⟨ce417, hce417, hMe417, hcc417⟩ := Kd.S_get HO_4.out z27 x8_1 p417 (by first | exact q417 | exact of_decide_eq_true (by first | (with_reducible assumption) | assumption) | (have e_ := (Kd.S_reads' HO_4.out).1; omega))
                  obtain ⟨ve417_3, rfl, ge417_3⟩ := k27_openM hMe417
                  have hv417_3 := hcc417 3 _ rfl
                  rw [add_field _ _ 3 (by omega)] at hv417_3
                  replace hv417_3 := Option.some.inj (hv417_3.symm.trans hx417_3)
                  rw [hv417_3] at ge417_3
                  have HL417_3 := Aside0.mk (show Kd.R k42 42 _ _ _ _ ((rd_T27 t391 x8_1).f3) from ge417_3)
                  clear hv417_3 ge417_3
                  clear hcc417 hce417
                  have HR417_3 := Aside0.mk hi417_3
                  have HC417_3 := Aside0.mk hl417_3
                  clear hi417_3 hl417_3
                  replace p417 := eq_true p417
                  replace q417 := eq_true q417
                  refine start_ (n := 68) (S := fun w' => w'.cell? ⟨gb416, 0, none⟩ = some (.int .i64 t407) ∧ w'.cell? ⟨gb416, 1, none⟩ = some (.string t408) ∧ w'.cell? ⟨gb416, 2, none⟩ = some (.string t409) ∧ w'.cell? ⟨gb416, 3, none⟩ = some (.slice Ao98 t410.length co98) ∧ w'.cell? ⟨gb416, 4, none⟩ = some (.bool t413) ∧ w'.cell? (ad417.add ((x8_1).toNat * 5)) = some (.int .i64 ((rd_T27 t391 x8_1).f0)) ∧ w'.cell? ⟨(ad417.add ((x8_1).toNat * 5)).block, (ad417.add ((x8_1).toNat * 5)).off + 1, none⟩ = some (.string ((rd_T27 t391 x8_1).f1)) ∧ w'.cell? ⟨(ad417.add ((x8_1).toNat * 5)).block, (ad417.add ((x8_1).toNat * 5)).off + 2, none⟩ = some (.string ((rd_T27 t391 x8_1).f2)) ∧ w'.cell? ⟨(ad417.add ((x8_1).toNat * 5)).block, (ad417.add ((x8_1).toNat * 5)).off + 3, none⟩ = some (.slice A417_3 ((rd_T27 t391 x8_1).f3).length c417_3) ∧ w'.cell? ⟨(ad417.add ((x8_1).toNat * 5)).block, (ad417.add ((x8_1).toNat * 5)).off + 4, none⟩ = some (.bool ((rd_T27 t391 x8_1).f4))) (ds := []) (KX.upTo 68 0) (by kernel_rfl) rfl rfl ⟨(blk_cell BK416.out 0).trans rfl, (blk_cell BK416.out 1).trans rfl, (blk_cell BK416.out 2).trans rfl, (blk_cell BK416.out 3).trans rfl, (blk_cell BK416.out 4).trans rfl, hx417_0, hx417_1, hx417_2, hx417_3, hx417_4⟩ (fun hHeld => ?_); refine with_tabW brackenlaw10_TokenRows.tab8 brackenlaw10_TokenRows.bits8 (fun HT_ HW_ => ?_)
                  generalize w99.drew = w100 at HO_4 HO412 BK416 HB HL417_3 HR417_3 hx417_0 hx417_1 hx417_2 hx417_3 hx417_4 hHeld ⊢
                  refine KX.pq_ 0 (some 36) (KX.upTo 68 1) HT_ ?_
                  refine KX.pq_ 1 (some 37) (KX.upTo 68 2) HT_ ?_
                  refine KX.pq_ 2 (some 38) (KX.upTo 68 3) HT_ ?_
                  refine KX.pq_ 3 (some 39) (KX.upTo 68 4) HT_ ?_
                  refine KX.pq_ 4 (some 40) (KX.upTo 68 5) HT_ ?_
                  refine KX.pq_ 5 (some 41) (KX.upTo 68 6) HT_ ?_
                  refine KX.pq_ 6 (some 42) (KX.upTo 68 7) HT_ ?_
                  refine KX.pq_ 7 (some 43) (KX.upTo 68 8) HT_ ?_
                  refine KX.pq_ 8 (some 44) (KX.upTo 68 9) HT_ ?_
                  refine KX.pq_ 9 (some 45) (KX.upTo 68 10) HT_ ?_
                  refine KX.pq_ 10 (some 46) (KX.upTo 68 11) HT_ ?_
                  refine KX.pq_ 11 (some 47) (KX.upTo 68 12) HT_ ?_
                  refine KX.pq_ 12 (some 48) (KX.upTo 68 13) HT_ ?_
                  refine KX.pq_ 13 (some 49) (KX.upTo 68 14) HT_ ?_
                  refine KX.pq_ 15 (some 51) D15_ HT_ ?_
                  refine KX.pq_ 16 (some 52) D16_ HT_ ?_
                  refine KX.pq_ 17 (some 53) D17_ HT_ ?_
                  refine take_ (i := 14) (N := some 50) (v := ?_) (a' := ?_) (KX.upTo 68 18) rfl rfl (take_ofW HT_.out HW_.out (by kernel_rfl)) (fun _ _ _ h => h) (Or.inl ⟨by rfl, ?_⟩) hHeld ?_ ?_
                  rotate_left
                  ·rintro w' ⟨s0, s1, s2, s3, s4, s5, s6, s7, s8, s9⟩
                   go_simp
                   with_reducible rfl
                  rotate_left
                  ·simp only [Act.put, List.setIfInBounds_toArray, List.set_cons_zero, List.set_cons_succ, i64_w, i32_w]
                   rfl
                  refine take_ (i := 18) (N := some 54) (v := ?_) (a' := ?_) (KX.upTo 68 19) rfl rfl (take_ofW HT_.out HW_.out (by kernel_rfl)) (fun _ _ _ h => h) (Or.inl ⟨by rfl, ?_⟩) hHeld ?_ ?_
                  rotate_left
                  ·rintro w' ⟨s0, s1, s2, s3, s4, s5, s6, s7, s8, s9⟩
                   go_simp
                   with_reducible rfl
                  rotate_left
                  ·simp only [Act.put, List.setIfInBounds_toArray, List.set_cons_zero, List.set_cons_succ, i64_w, i32_w]
                   rfl
                  refine one_ (i := 19) (N := some 55) (KX.upTo 68 20) rfl rfl (one_of HT_.out (by kernel_rfl)) (by decide) (fun K hK => ?_)
                  refine goes_ Tryd.func20 (by kernel_rfl) rfl #[.agg #[.int .i64 t407, .string t408, .string t409, .slice Ao98 t410.length co98, .bool t413], .agg #[.int .i64 ((rd_T27 t391 x8_1).f0), .string ((rd_T27 t391 x8_1).f1), .string ((rd_T27 t391 x8_1).f2), .slice A417_3 ((rd_T27 t391 x8_1).f3).length c417_3, .bool ((rd_T27 t391 x8_1).f4)]] (by rfl) rfl rfl (by (try simp only [List.map_toArray, List.map_cons, List.map_nil]); first | done | rfl | (simp only [List.length_drop, List.length_take]; rfl)) ?_
                  with_reducible refine (brackenref10_SameToken.calls k1 t407 t408 t409 _ _ t410 t413 ((rd_T27 t391 x8_1).f0) ((rd_T27 t391 x8_1).f1) ((rd_T27 t391 x8_1).f2) _ _ ((rd_T27 t391 x8_1).f3) ((rd_T27 t391 x8_1).f4) true _ ?side1 ?side2 ?side3 ?side4 A12.out).mono ?_
                  (case side1 => repeat (first | exact (Kd.R_reads' HO412.out).2.2 | (with_reducible refine Kd.C_alloc ?_ _) | (with_reducible refine Kd.C_drewN ?_ _) | (with_reducible refine Kd.C_drew ?_)))
                  (case side2 => exact (Kd.R_reads' HO412.out).2.1)
                  (case side3 => repeat (first | exact (by repeat (first | (with_reducible exact HR417_3.out) | (with_reducible refine Kd.C_alloc ?_ _) | (with_reducible refine Kd.C_drewN ?_ _) | (with_reducible refine Kd.C_drew ?_) | exact HR417_3.out)) | (with_reducible refine Kd.C_alloc ?_ _) | (with_reducible refine Kd.C_drewN ?_ _) | (with_reducible refine Kd.C_drew ?_)))
                  (case side4 => exact HC417_3.out)
                  rintro e w101 ⟨rfl, hb⟩
                  have HS5_ := (hb.cell (World.block_lt_of_cell? _ _ (hHeld.2.2.2.2.2.1))).trans (hHeld.2.2.2.2.2.1)
                  have HS6_ := (hb.cell (World.block_lt_of_cell? _ _ (hHeld.2.2.2.2.2.2.1))).trans (hHeld.2.2.2.2.2.2.1)
                  have HS7_ := (hb.cell (World.block_lt_of_cell? _ _ (hHeld.2.2.2.2.2.2.2.1))).trans (hHeld.2.2.2.2.2.2.2.1)
                  have HS8_ := (hb.cell (World.block_lt_of_cell? _ _ (hHeld.2.2.2.2.2.2.2.2.1))).trans (hHeld.2.2.2.2.2.2.2.2.1)
                  have HS9_ := (hb.cell (World.block_lt_of_cell? _ _ (hHeld.2.2.2.2.2.2.2.2.2))).trans (hHeld.2.2.2.2.2.2.2.2.2)
                  refine ⟨_, rfl, ?_⟩
                  have n0_ := Aside0.mk (Kd.S_below (by (with_reducible repeat (first | apply Kd.S_alloc | apply Kd.S_drewN | apply Kd.S_drew)); exact HO_4.out) hb)
                  have n1_ := Aside0.mk (Kd.R_below (by (with_reducible repeat (first | apply Kd.R_alloc | apply Kd.R_drewN | apply Kd.R_drew)); exact HO412.out) hb)
                  have n2_ := Aside0.mk (Kd.R_below (by (with_reducible repeat (first | apply Kd.R_alloc | apply Kd.R_drewN | apply Kd.R_drew)); exact HL417_3.out) hb)
                  have n3_ := Aside0.mk (blk_below (g := gb416) (o := .cells #[.int .i64 t407, .string t408, .string t409, .slice Ao98 t410.length co98, .bool t413] 27 (0, 0)) (by (with_reducible repeat (first | refine blk_drewN ?_ _ | refine blk_drew ?_ | refine blk_alloc ?_ _)); exact BK416.out) hb)
                  have n4_ := Aside0.mk (Kd.C_below (by repeat (first | (with_reducible exact HR417_3.out) | (with_reducible refine Kd.C_alloc ?_ _) | (with_reducible refine Kd.C_drewN ?_ _) | (with_reducible refine Kd.C_drew ?_) | exact HR417_3.out)) hb)
                  have n5_ := Aside0.mk (below_step (by repeat (first | (with_reducible first | exact HB.out | apply below_alloc | apply pw_below_drewN | apply below_drew1 | refine below_set ?_ GE416.out) | exact HB.out)) hb)
                  clear HO_4
                  clear HO412
                  clear HL417_3
                  clear BK416
                  clear HR417_3
                  clear HB
                  have HO_4 := n0_
                  have HO412 := n1_
                  have HL417_3 := n2_
                  have BK416 := n3_
                  have HR417_3 := n4_
                  have HB := n5_
                  clear n0_ n1_ n2_ n3_ n4_ n5_
                  (try clear hb)
                  (try clear hb2)
                  (try clear hk)
                  (try clear hi)
                  refine hK.out _ _ ⟨(blk_cell BK416.out 0).trans rfl, (blk_cell BK416.out 1).trans rfl, (blk_cell BK416.out 2).trans rfl, (blk_cell BK416.out 3).trans rfl, (blk_cell BK416.out 4).trans rfl, HS5_, HS6_, HS7_, HS8_, HS9_⟩ (fun hHeld => ?_)
                  clear hK K
                  refine norm_ (a' := ?_) ?_ ?_
                  rotate_left
                  ·show Act.put _ (some 55) _ = _
                   simp only [Act.put, List.setIfInBounds_toArray, List.set_cons_zero, List.set_cons_succ, i64_w, i32_w]
                   rfl
                  refine KX.pq_ 20 (some 56) (KX.upTo 68 21) HT_ ?_
                  refine KX.pq_ 21 (some 57) (KX.upTo 68 22) HT_ ?_
                  refine KX.pq_ 22 (some 58) (KX.upTo 68 23) HT_ ?_
                  refine KX.pq_ 23 (some 59) (KX.upTo 68 24) HT_ ?_
                  refine take_ (i := 24) (N := some 60) (v := ?_) (a' := ?_) (KX.upTo 68 25) rfl rfl (take_ofW HT_.out HW_.out (by kernel_rfl)) (fun _ _ _ h => h) (Or.inl ⟨by rfl, ?_⟩) hHeld ?_ ?_
                  rotate_left
                  ·rintro w' ⟨s0, s1, s2, s3, s4, s5, s6, s7, s8, s9⟩
                   go_simp
                   with_reducible rfl
                  rotate_left
                  ·simp only [Act.put, List.setIfInBounds_toArray, List.set_cons_zero, List.set_cons_succ, i64_w, i32_w]
                   rfl
                  refine KX.pq_ 25 (some 61) (KX.upTo 68 26) HT_ ?_
                  refine KX.pq_ 26 (some 62) (KX.upTo 68 27) HT_ ?_
                  refine KX.pu_ 27 (some 63) (KX.upTo 68 28) HT_ ?_
                  refine KX.pu_ 28 (some 64) (KX.upTo 68 29) HT_ ?_
                  refine KX.pu_ 29 (some 65) (KX.upTo 68 30) HT_ ?_
                  refine KX.pu_ 30 (some 66) (KX.upTo 68 31) HT_ ?_
                  refine KX.pu_ 31 (some 67) (KX.upTo 68 32) HT_ ?_
                  refine KX.pu_ 32 (some 68) (KX.upTo 68 33) HT_ ?_
                  refine KX.pu_ 33 (some 69) (KX.upTo 68 34) HT_ ?_
                  refine KX.pq_ 34 (some 70) (KX.upTo 68 35) HT_ ?_
                  refine KX.pq_ 35 (some 71) (KX.upTo 68 36) HT_ ?_
                  refine KX.pq_ 36 (some 72) (KX.upTo 68 37) HT_ ?_
                  refine KX.pq_ 37 (some 73) (KX.upTo 68 38) HT_ ?_
                  refine take_ (i := 38) (N := some 74) (v := ?_) (a' := ?_) (KX.upTo 68 39) rfl rfl (take_ofW HT_.out HW_.out (by kernel_rfl)) (fun _ _ _ h => h) (Or.inl ⟨by rfl, ?_⟩) hHeld ?_ ?_
                  rotate_left
                  ·rintro w' ⟨s0, s1, s2, s3, s4, s5, s6, s7, s8, s9⟩
                   go_simp
                   with_reducible rfl
                  rotate_left
                  ·simp only [Act.put, List.setIfInBounds_toArray, List.set_cons_zero, List.set_cons_succ, i64_w, i32_w]
                   rfl
                  refine KX.pq_ 39 (some 75) (KX.upTo 68 40) HT_ ?_
                  refine KX.pq_ 40 (some 76) (KX.upTo 68 41) HT_ ?_
                  refine KX.pq_ 41 (some 77) (KX.upTo 68 42) HT_ ?_
                  refine KX.pq_ 42 (some 78) (KX.upTo 68 43) HT_ ?_
                  refine KX.pq_ 43 (some 79) (KX.upTo 68 44) HT_ ?_
                  refine KX.pq_ 44 (some 80) (KX.upTo 68 45) HT_ ?_
                  refine KX.pq_ 45 (some 81) (KX.upTo 68 46) HT_ ?_
                  refine take_ (i := 46) (N := some 82) (v := ?_) (a' := ?_) (KX.upTo 68 47) rfl rfl (take_ofW HT_.out HW_.out (by kernel_rfl)) (fun _ _ _ h => h) (Or.inl ⟨by rfl, ?_⟩) hHeld ?_ ?_
                  rotate_left
                  ·rintro w' ⟨s0, s1, s2, s3, s4, s5, s6, s7, s8, s9⟩
                   go_simp
                   with_reducible rfl
                  rotate_left
                  ·simp only [Act.put, List.setIfInBounds_toArray, List.set_cons_zero, List.set_cons_succ, i64_w, i32_w]
                   rfl
                  refine KX.pq_ 47 (some 83) (KX.upTo 68 48) HT_ ?_
                  refine KX.pq_ 48 (some 84) (KX.upTo 68 49) HT_ ?_
                  refine KX.pq_ 49 (some 85) (KX.upTo 68 50) HT_ ?_
                  refine KX.pq_ 50 (some 86) (KX.upTo 68 51) HT_ ?_
                  refine KX.pq_ 51 (some 87) (KX.upTo 68 52) HT_ ?_
                  refine KX.pq_ 52 (some 88) (KX.upTo 68 53) HT_ ?_
                  refine KX.pq_ 53 (some 89) (KX.upTo 68 54) HT_ ?_
                  refine take_ (i := 54) (N := some 90) (v := ?_) (a' := ?_) (KX.upTo 68 55) rfl rfl (take_ofW HT_.out HW_.out (by kernel_rfl)) (fun _ _ _ h => h) (Or.inl ⟨by rfl, ?_⟩) hHeld ?_ ?_
                  rotate_left
                  ·rintro w' ⟨s0, s1, s2, s3, s4, s5, s6, s7, s8, s9⟩
                   go_simp
                   with_reducible rfl
                  rotate_left
                  ·simp only [Act.put, List.setIfInBounds_toArray, List.set_cons_zero, List.set_cons_succ, i64_w, i32_w]
                   rfl
                  refine KX.pq_ 55 (some 91) (KX.upTo 68 56) HT_ ?_
                  refine KX.pq_ 56 (some 92) (KX.upTo 68 57) HT_ ?_
                  refine KX.pu_ 57 (some 93) (KX.upTo 68 58) HT_ ?_
                  refine KX.pu_ 58 (some 94) (KX.upTo 68 59) HT_ ?_
                  refine KX.pu_ 59 (some 95) (KX.upTo 68 60) HT_ ?_
                  refine KX.pu_ 60 (some 96) (KX.upTo 68 61) HT_ ?_
                  refine KX.pu_ 61 (some 97) (KX.upTo 68 62) HT_ ?_
                  refine KX.pu_ 62 (some 98) (KX.upTo 68 63) HT_ ?_
                  refine KX.pu_ 63 (some 99) (KX.upTo 68 64) HT_ ?_
                  refine KX.pu_ 64 (some 100) (KX.upTo 68 65) HT_ ?_
                  refine KX.pu_ 65 (some 101) (KX.upTo 68 66) HT_ ?_
                  refine KX.pq_ 66 (some 102) (KX.upTo 68 67) HT_ ?_
                  refine KX.pq_ 67 (some 103) (KX.upTo 68 68) HT_ ?_
                  refine done_ (done_of HT_.out (by kernel_rfl)) ?_
                  try go_wp2
                  go_roundg k1
                  case measure => have := HK1.out; omega
                  case rel => exact ⟨(t414), (wrap64 (x8_1 + 1)), (by first | rfl | (simp; done) | (simp [*]; done)), (by first | rfl | (simp; done) | (simp [*]; done)), H', ⟨by have := HK1.out; omega⟩, ⟨by (with_reducible repeat (first | apply Kd.S_alloc | apply Kd.S_drewN | apply Kd.S_drew)); exact Kd.S_mono HO_4.out (fun _ hk => trivial)⟩, ⟨by repeat (first | (with_reducible first | exact HB.out | apply below_alloc | apply pw_below_drewN | apply below_drew1 | refine below_set ?_ GE416.out) | exact HB.out)⟩⟩
                ·rw [if_neg c78] at H
                 have c78b0 := beq_eq_false_iff_ne.mpr c78
                 have c78b1 := bne_iff_ne.mpr c78
                 exact absurd ((Option.some.inj H).trans hTrue.out) (by decide)
               ·rw [if_neg c77] at H
                exact absurd H (by simp)
              ·rw [if_neg c76] at H
               exact absurd H (by simp)
             ·rw [if_neg c75] at H
              exact absurd H (by simp)
            ·rw [if_neg c74] at H
             exact absurd H (by simp)
           ·rw [if_neg c73] at H
            exact absurd H (by simp)
          ·rw [if_neg c72] at H
           have c72b0 := beq_eq_false_iff_ne.mpr c72
           have c72b1 := bne_iff_ne.mpr c72
           by_cases c102 : t407 = 6
           ·rw [if_pos c102] at H
            have c102b0 := beq_iff_eq.mpr c102
            have c102b1 := bne_eq_false_iff_eq.mpr c102
            clear c102
            by_cases c103 : 0 ≤ x7_1
            ·rw [if_pos c103] at H
             have c103b0 := eq_true c103
             have c103b1 := decide_eq_true c103
             clear c103
             by_cases c104 : x7_1 ≤ t414
             ·rw [if_pos c104] at H
              have c104b0 := eq_true c104
              have c104b1 := decide_eq_true c104
              clear c104
              by_cases c105 : t414 ≤ (t390.size : Int)
              ·rw [if_pos c105] at H
               have c105b0 := eq_true c105
               have c105b1 := decide_eq_true c105
               clear c105
               by_cases c106 : 9 + t409.size ≤ 9223372036854775807
               ·rw [if_pos c106] at H
                have c106b0 := eq_true c106
                have c106b1 := decide_eq_true c106
                try have c106b2 := eq_false (Nat.not_lt.2 c106)
                by_cases c107 : 9 + t409.size + 3 ≤ 9223372036854775807
                ·rw [if_pos c107] at H
                 have c107b0 := eq_true c107
                 have c107b1 := decide_eq_true c107
                 try have c107b2 := eq_false (Nat.not_lt.2 c107)
                 by_cases c108 : (t390.extract (x7_1 : Int).toNat (t414 : Int).toNat).toList = (((⟨#[60, 33, 91, 67, 68, 65, 84, 65, 91]⟩ : ByteArray) ++ t409) ++ (⟨#[93, 93, 62]⟩ : ByteArray)).toList
                 ·rw [if_pos c108] at H
                  have c108b0 := beq_iff_eq.mpr c108
                  have c108b1 := bne_eq_false_iff_eq.mpr c108
                  clear c108
                  have H' := Aside0.mk H
                  clear H
                  obtain ⟨Ao109, co109, eo109⟩ := Kd.S_slice HO_4.out
                  subst eo109
                  try go_wp2_with (first | ((with_reducible refine gate_callee (f := 15) rfl ?_); refine goesL_ (some 32) rfl rfl Tryd.func15 (by kernel_rfl) rfl #[.string t390, .int .i64 x7_1] rfl (by (try simp only [List.map_toArray, List.map_cons, List.map_nil]); first | done | rfl | (simp only [List.length_drop, List.length_take]; rfl)) ?_; (with_reducible refine (token_Next.calls k1 t390 x7_1 t407 t408 t409 t410 t413 t414 t415 _ (Env.below HE.out (by repeat (first | (with_reducible first | exact HB.out | apply below_alloc | apply pw_below_drewN | apply below_drew1) | exact HB.out))) A7.out).mono ?_); rintro e w110 ⟨v411, rfl, ho0, hb⟩; refine ⟨_, rfl, ?_⟩; have n0_ := Aside0.mk (Kd.S_elder' (by (with_reducible repeat (first | apply Kd.S_alloc | apply Kd.S_drewN | apply Kd.S_drew)); exact HO_4.out) (Kd.R_base ho0) hb); have n1_ := Aside0.mk (Kd.R_lower ho0 (below_size (by repeat (first | (with_reducible first | exact HB.out | apply below_alloc | apply pw_below_drewN | apply below_drew1) | exact HB.out)))); have n2_ := Aside0.mk (below_step (by repeat (first | (with_reducible first | exact HB.out | apply below_alloc | apply pw_below_drewN | apply below_drew1) | exact HB.out)) hb); clear HO_4; clear HB; have HO_4 := n0_; have HO412 := n1_; have HB := n2_; clear n0_ n1_ n2_; (try clear hb); (try clear hb2); (try clear hk); (try clear hi); (try clear ho0)) | ((with_reducible refine gate_dst (N := 9) rfl ?_); (try (refine gate_guard (by rfl) ?_; dsimp only)); refine box_event ?hg (N := 9) ?hd (cs := #[.int .i64 0, .string ⟨#[]⟩, .string ⟨#[]⟩, .slice none 0 0, .bool false]) (t := 27) ?hr ?_; (case hd => rfl); (case hg => rfl); (case hr => first | (go_simp; done) | (go_simp; rfl)); intro gb416 hg w111 hbox hb; have n0_ := Aside0.mk (Kd.S_below (Kd.S_elderB (by (with_reducible repeat (first | apply Kd.S_alloc | apply Kd.S_drewN | apply Kd.S_drew)); exact HO_4.out) gb416 (Nat.le_of_eq hg.symm)) hb); have n1_ := Aside0.mk (Kd.R_below (by (with_reducible repeat (first | apply Kd.R_alloc | apply Kd.R_drewN | apply Kd.R_drew)); exact HO412.out) hb); have n2_ := Aside0.mk (below_step (by repeat (first | (with_reducible first | exact HB.out | apply below_alloc | apply pw_below_drewN | apply below_drew1) | exact HB.out)) hb); have n3_ := Aside0.mk (hbox); have n4_ := Aside0.mk ((by rw [hg]; exact (below_size (by repeat (first | (with_reducible first | exact HB.out | apply below_alloc | apply pw_below_drewN | apply below_drew1) | exact HB.out))) : w.heap.size ≤ gb416)); have n5_ := Aside0.mk ((by rw [hg]; exact (below_size (by repeat (first | (with_reducible first | exact HB.out | apply below_alloc | apply pw_below_drewN | apply below_drew1) | exact HB.out))) : w.heap.size ≤ gb416)); clear HO_4; clear HO412; clear HB; have HO_4 := n0_; have HO412 := n1_; have HB := n2_; have BK416 := n3_; have GW416 := n4_; have GE416 := n5_; clear n0_ n1_ n2_ n3_ n4_ n5_; clear hb hbox hg; have hcz112_0 : w111.cell? ⟨gb416, 0, none⟩ = some (.int .i64 0) := (blk_cell BK416.out 0).trans rfl; have hcz112_1 : w111.cell? ⟨gb416, 1, none⟩ = some (.string ⟨#[]⟩) := (blk_cell BK416.out 1).trans rfl; have hcz112_2 : w111.cell? ⟨gb416, 2, none⟩ = some (.string ⟨#[]⟩) := (blk_cell BK416.out 2).trans rfl; have hcz112_3 : w111.cell? ⟨gb416, 3, none⟩ = some (.slice none 0 0) := (blk_cell BK416.out 3).trans rfl; have hcz112_4 : w111.cell? ⟨gb416, 4, none⟩ = some (.bool false) := (blk_cell BK416.out 4).trans rfl; have hfz112_0 := blk_frozen BK416.out 0; have hfz112_1 := blk_frozen BK416.out 1; have hfz112_2 := blk_frozen BK416.out 2; have hfz112_3 := blk_frozen BK416.out 3; have hfz112_4 := blk_frozen BK416.out 4; obtain ⟨Ao113, co113, eo113⟩ := Kd.R_slice HO412.out; subst eo113))
                  have n0_ : Aside0 (Kd.S k27 27 (((((w111.setCell ⟨gb416, 0, none⟩ (.int .i64 t407)).setCell ⟨gb416, 1, none⟩ (.string t408)).setCell ⟨gb416, 2, none⟩ (.string t409)).setCell ⟨gb416, 3, none⟩ (.slice Ao113 t410.length co113)).setCell ⟨gb416, 4, none⟩ (.bool t413)) w.heap.size (fun k_ => some k_ ≠ (.slice Ao113 t410.length co113 : Value).ownBlock ∧ k_ ≠ gb416) (.slice Ao109 t391.length co109) t391) := ⟨by (with_reducible repeat (first | apply Kd.S_alloc | apply Kd.S_drewN | apply Kd.S_drew)); exact Kd.S_mono (Kd.S_far (p := ⟨gb416, 4, none⟩) (Kd.S_far (p := ⟨gb416, 3, none⟩) (Kd.S_far (p := ⟨gb416, 2, none⟩) (Kd.S_far (p := ⟨gb416, 1, none⟩) (Kd.S_far (p := ⟨gb416, 0, none⟩) (Kd.S_mono HO_4.out (fun k_ hk => (⟨hk, hk.2⟩ : _ ∧ k_ ≠ gb416))) (fun _ hk => hk.2) (.int .i64 t407)) (fun _ hk => hk.2) (.string t408)) (fun _ hk => hk.2) (.string t409)) (fun _ hk => hk.2) (.slice Ao113 t410.length co113)) (fun _ hk => hk.2) (.bool t413)) (fun _ hk => ⟨hk.1.1.2, hk.1.2⟩)⟩
                  have n1_ : Aside0 (Kd.R k42 42 (((((w111.setCell ⟨gb416, 0, none⟩ (.int .i64 t407)).setCell ⟨gb416, 1, none⟩ (.string t408)).setCell ⟨gb416, 2, none⟩ (.string t409)).setCell ⟨gb416, 3, none⟩ (.slice Ao113 t410.length co113)).setCell ⟨gb416, 4, none⟩ (.bool t413)) w.heap.size (fun _ => True) (.slice Ao113 t410.length co113) t410) := ⟨by (with_reducible repeat (first | apply Kd.R_alloc | apply Kd.R_drewN | apply Kd.R_drew)); exact Kd.R_mono (Kd.R_far (p := ⟨gb416, 4, none⟩) (Kd.R_far (p := ⟨gb416, 3, none⟩) (Kd.R_far (p := ⟨gb416, 2, none⟩) (Kd.R_far (p := ⟨gb416, 1, none⟩) (Kd.R_far (p := ⟨gb416, 0, none⟩) (Kd.R_types HO412.out BK416.out (by decide)) (fun _ hk => hk.2) (.int .i64 t407)) (fun _ hk => hk.2) (.string t408)) (fun _ hk => hk.2) (.string t409)) (fun _ hk => hk.2) (.slice Ao113 t410.length co113)) (fun _ hk => hk.2) (.bool t413)) (fun _ hk => trivial)⟩
                  have n2_ : Aside0 ((((((w111.setCell ⟨gb416, 0, none⟩ (.int .i64 t407)).setCell ⟨gb416, 1, none⟩ (.string t408)).setCell ⟨gb416, 2, none⟩ (.string t409)).setCell ⟨gb416, 3, none⟩ (.slice Ao113 t410.length co113)).setCell ⟨gb416, 4, none⟩ (.bool t413)).heap[gb416]? = some (.cells #[.int .i64 t407, .string t408, .string t409, .slice Ao113 t410.length co113, .bool t413] 27 (0, 0))) := ⟨by (with_reducible repeat (first | refine blk_drewN ?_ _ | refine blk_drew ?_ | refine blk_alloc ?_ _)); refine blk_put (cs := #[.int .i64 t407, .string t408, .string t409, .slice Ao113 t410.length co113, .bool false]) ?_ 4 _ rfl; (with_reducible repeat (first | refine blk_drewN ?_ _ | refine blk_drew ?_ | refine blk_alloc ?_ _)); refine blk_put (cs := #[.int .i64 t407, .string t408, .string t409, .slice none 0 0, .bool false]) ?_ 3 _ rfl; (with_reducible repeat (first | refine blk_drewN ?_ _ | refine blk_drew ?_ | refine blk_alloc ?_ _)); refine blk_put (cs := #[.int .i64 t407, .string t408, .string ⟨#[]⟩, .slice none 0 0, .bool false]) ?_ 2 _ rfl; (with_reducible repeat (first | refine blk_drewN ?_ _ | refine blk_drew ?_ | refine blk_alloc ?_ _)); refine blk_put (cs := #[.int .i64 t407, .string ⟨#[]⟩, .string ⟨#[]⟩, .slice none 0 0, .bool false]) ?_ 1 _ rfl; (with_reducible repeat (first | refine blk_drewN ?_ _ | refine blk_drew ?_ | refine blk_alloc ?_ _)); refine blk_put (cs := #[.int .i64 0, .string ⟨#[]⟩, .string ⟨#[]⟩, .slice none 0 0, .bool false]) ?_ 0 _ rfl; (with_reducible repeat (first | refine blk_drewN ?_ _ | refine blk_drew ?_ | refine blk_alloc ?_ _)); exact BK416.out⟩
                  have n3_ : Aside0 (Below w.heap.size w (((((w111.setCell ⟨gb416, 0, none⟩ (.int .i64 t407)).setCell ⟨gb416, 1, none⟩ (.string t408)).setCell ⟨gb416, 2, none⟩ (.string t409)).setCell ⟨gb416, 3, none⟩ (.slice Ao113 t410.length co113)).setCell ⟨gb416, 4, none⟩ (.bool t413))) := ⟨by repeat (first | (with_reducible first | exact HB.out | apply below_alloc | apply pw_below_drewN | apply below_drew1 | refine below_set ?_ GE416.out) | exact HB.out)⟩
                  (try clear HO_4)
                  (try clear HO412)
                  (try clear BK416)
                  (try clear HB)
                  generalize (((((w111.setCell ⟨gb416, 0, none⟩ (.int .i64 t407)).setCell ⟨gb416, 1, none⟩ (.string t408)).setCell ⟨gb416, 2, none⟩ (.string t409)).setCell ⟨gb416, 3, none⟩ (.slice Ao113 t410.length co113)).setCell ⟨gb416, 4, none⟩ (.bool t413)) = w114 at n0_ n1_ n2_ n3_ ⊢
                  have HO_4 := n0_
                  have HO412 := n1_
                  have BK416 := n2_
                  have HB := n3_
                  clear n0_ n1_ n2_ n3_
                  have n0_ := Aside0.mk (Kd.S_drew HO_4.out)
                  have n1_ := Aside0.mk (Kd.R_drew HO412.out)
                  have n2_ := Aside0.mk (blk_drew BK416.out)
                  have n3_ := Aside0.mk (below_drew1 HB.out)
                  clear HO_4
                  clear HO412
                  clear BK416
                  clear HB
                  have HO_4 := n0_
                  have HO412 := n1_
                  have BK416 := n2_
                  have HB := n3_
                  clear n0_ n1_ n2_ n3_
                  have p417 : 0 ≤ (x8_1 : Int) := of_decide_eq_true (by first | (with_reducible assumption) | assumption)
                  have q417 : x8_1 < (t391.length : Int) := of_decide_eq_true (by first | (with_reducible assumption) | assumption)
                  obtain ⟨ad417, A417_3, c417_3, e417, hx417_0, hx417_1, hx417_2, hx417_3, hx417_4, hl417_3, hi417_3⟩ := at_T27 (Kd.S_reads' HO_4.out).2.2 x8_1 p417 q417
                  cases e417
                  obtain ⟨ce417, hce417, hMe417, hcc417⟩ := Kd.S_get HO_4.out z27 x8_1 p417 (by first | exact q417 | exact of_decide_eq_true (by first | (with_reducible assumption) | assumption) | (have e_ := (Kd.S_reads' HO_4.out).1; omega))
                  obtain ⟨ve417_3, rfl, ge417_3⟩ := k27_openM hMe417
                  have hv417_3 := hcc417 3 _ rfl
                  rw [add_field _ _ 3 (by omega)] at hv417_3
                  replace hv417_3 := Option.some.inj (hv417_3.symm.trans hx417_3)
                  rw [hv417_3] at ge417_3
                  have HL417_3 := Aside0.mk (show Kd.R k42 42 _ _ _ _ ((rd_T27 t391 x8_1).f3) from ge417_3)
                  clear hv417_3 ge417_3
                  clear hcc417 hce417
                  have HR417_3 := Aside0.mk hi417_3
                  have HC417_3 := Aside0.mk hl417_3
                  clear hi417_3 hl417_3
                  replace p417 := eq_true p417
                  replace q417 := eq_true q417
                  refine start_ (n := 68) (S := fun w' => w'.cell? ⟨gb416, 0, none⟩ = some (.int .i64 t407) ∧ w'.cell? ⟨gb416, 1, none⟩ = some (.string t408) ∧ w'.cell? ⟨gb416, 2, none⟩ = some (.string t409) ∧ w'.cell? ⟨gb416, 3, none⟩ = some (.slice Ao113 t410.length co113) ∧ w'.cell? ⟨gb416, 4, none⟩ = some (.bool t413) ∧ w'.cell? (ad417.add ((x8_1).toNat * 5)) = some (.int .i64 ((rd_T27 t391 x8_1).f0)) ∧ w'.cell? ⟨(ad417.add ((x8_1).toNat * 5)).block, (ad417.add ((x8_1).toNat * 5)).off + 1, none⟩ = some (.string ((rd_T27 t391 x8_1).f1)) ∧ w'.cell? ⟨(ad417.add ((x8_1).toNat * 5)).block, (ad417.add ((x8_1).toNat * 5)).off + 2, none⟩ = some (.string ((rd_T27 t391 x8_1).f2)) ∧ w'.cell? ⟨(ad417.add ((x8_1).toNat * 5)).block, (ad417.add ((x8_1).toNat * 5)).off + 3, none⟩ = some (.slice A417_3 ((rd_T27 t391 x8_1).f3).length c417_3) ∧ w'.cell? ⟨(ad417.add ((x8_1).toNat * 5)).block, (ad417.add ((x8_1).toNat * 5)).off + 4, none⟩ = some (.bool ((rd_T27 t391 x8_1).f4))) (ds := []) (KX.upTo 68 0) (by kernel_rfl) rfl rfl ⟨(blk_cell BK416.out 0).trans rfl, (blk_cell BK416.out 1).trans rfl, (blk_cell BK416.out 2).trans rfl, (blk_cell BK416.out 3).trans rfl, (blk_cell BK416.out 4).trans rfl, hx417_0, hx417_1, hx417_2, hx417_3, hx417_4⟩ (fun hHeld => ?_); refine with_tabW brackenlaw10_TokenRows.tab8 brackenlaw10_TokenRows.bits8 (fun HT_ HW_ => ?_)
                  generalize w114.drew = w115 at HO_4 HO412 BK416 HB HL417_3 HR417_3 hx417_0 hx417_1 hx417_2 hx417_3 hx417_4 hHeld ⊢
                  refine KX.pq_ 0 (some 36) (KX.upTo 68 1) HT_ ?_
                  refine KX.pq_ 1 (some 37) (KX.upTo 68 2) HT_ ?_
                  refine KX.pq_ 2 (some 38) (KX.upTo 68 3) HT_ ?_
                  refine KX.pq_ 3 (some 39) (KX.upTo 68 4) HT_ ?_
                  refine KX.pq_ 4 (some 40) (KX.upTo 68 5) HT_ ?_
                  refine KX.pq_ 5 (some 41) (KX.upTo 68 6) HT_ ?_
                  refine KX.pq_ 6 (some 42) (KX.upTo 68 7) HT_ ?_
                  refine KX.pq_ 7 (some 43) (KX.upTo 68 8) HT_ ?_
                  refine KX.pq_ 8 (some 44) (KX.upTo 68 9) HT_ ?_
                  refine KX.pq_ 9 (some 45) (KX.upTo 68 10) HT_ ?_
                  refine KX.pq_ 10 (some 46) (KX.upTo 68 11) HT_ ?_
                  refine KX.pq_ 11 (some 47) (KX.upTo 68 12) HT_ ?_
                  refine KX.pq_ 12 (some 48) (KX.upTo 68 13) HT_ ?_
                  refine KX.pq_ 13 (some 49) (KX.upTo 68 14) HT_ ?_
                  refine KX.pq_ 15 (some 51) D15_ HT_ ?_
                  refine KX.pq_ 16 (some 52) D16_ HT_ ?_
                  refine KX.pq_ 17 (some 53) D17_ HT_ ?_
                  refine take_ (i := 14) (N := some 50) (v := ?_) (a' := ?_) (KX.upTo 68 18) rfl rfl (take_ofW HT_.out HW_.out (by kernel_rfl)) (fun _ _ _ h => h) (Or.inl ⟨by rfl, ?_⟩) hHeld ?_ ?_
                  rotate_left
                  ·rintro w' ⟨s0, s1, s2, s3, s4, s5, s6, s7, s8, s9⟩
                   go_simp
                   with_reducible rfl
                  rotate_left
                  ·simp only [Act.put, List.setIfInBounds_toArray, List.set_cons_zero, List.set_cons_succ, i64_w, i32_w]
                   rfl
                  refine take_ (i := 18) (N := some 54) (v := ?_) (a' := ?_) (KX.upTo 68 19) rfl rfl (take_ofW HT_.out HW_.out (by kernel_rfl)) (fun _ _ _ h => h) (Or.inl ⟨by rfl, ?_⟩) hHeld ?_ ?_
                  rotate_left
                  ·rintro w' ⟨s0, s1, s2, s3, s4, s5, s6, s7, s8, s9⟩
                   go_simp
                   with_reducible rfl
                  rotate_left
                  ·simp only [Act.put, List.setIfInBounds_toArray, List.set_cons_zero, List.set_cons_succ, i64_w, i32_w]
                   rfl
                  refine one_ (i := 19) (N := some 55) (KX.upTo 68 20) rfl rfl (one_of HT_.out (by kernel_rfl)) (by decide) (fun K hK => ?_)
                  refine goes_ Tryd.func20 (by kernel_rfl) rfl #[.agg #[.int .i64 t407, .string t408, .string t409, .slice Ao113 t410.length co113, .bool t413], .agg #[.int .i64 ((rd_T27 t391 x8_1).f0), .string ((rd_T27 t391 x8_1).f1), .string ((rd_T27 t391 x8_1).f2), .slice A417_3 ((rd_T27 t391 x8_1).f3).length c417_3, .bool ((rd_T27 t391 x8_1).f4)]] (by rfl) rfl rfl (by (try simp only [List.map_toArray, List.map_cons, List.map_nil]); first | done | rfl | (simp only [List.length_drop, List.length_take]; rfl)) ?_
                  with_reducible refine (brackenref10_SameToken.calls k1 t407 t408 t409 _ _ t410 t413 ((rd_T27 t391 x8_1).f0) ((rd_T27 t391 x8_1).f1) ((rd_T27 t391 x8_1).f2) _ _ ((rd_T27 t391 x8_1).f3) ((rd_T27 t391 x8_1).f4) true _ ?side1 ?side2 ?side3 ?side4 A12.out).mono ?_
                  (case side1 => repeat (first | exact (Kd.R_reads' HO412.out).2.2 | (with_reducible refine Kd.C_alloc ?_ _) | (with_reducible refine Kd.C_drewN ?_ _) | (with_reducible refine Kd.C_drew ?_)))
                  (case side2 => exact (Kd.R_reads' HO412.out).2.1)
                  (case side3 => repeat (first | exact (by repeat (first | (with_reducible exact HR417_3.out) | (with_reducible refine Kd.C_alloc ?_ _) | (with_reducible refine Kd.C_drewN ?_ _) | (with_reducible refine Kd.C_drew ?_) | exact HR417_3.out)) | (with_reducible refine Kd.C_alloc ?_ _) | (with_reducible refine Kd.C_drewN ?_ _) | (with_reducible refine Kd.C_drew ?_)))
                  (case side4 => exact HC417_3.out)
                  rintro e w116 ⟨rfl, hb⟩
                  have HS5_ := (hb.cell (World.block_lt_of_cell? _ _ (hHeld.2.2.2.2.2.1))).trans (hHeld.2.2.2.2.2.1)
                  have HS6_ := (hb.cell (World.block_lt_of_cell? _ _ (hHeld.2.2.2.2.2.2.1))).trans (hHeld.2.2.2.2.2.2.1)
                  have HS7_ := (hb.cell (World.block_lt_of_cell? _ _ (hHeld.2.2.2.2.2.2.2.1))).trans (hHeld.2.2.2.2.2.2.2.1)
                  have HS8_ := (hb.cell (World.block_lt_of_cell? _ _ (hHeld.2.2.2.2.2.2.2.2.1))).trans (hHeld.2.2.2.2.2.2.2.2.1)
                  have HS9_ := (hb.cell (World.block_lt_of_cell? _ _ (hHeld.2.2.2.2.2.2.2.2.2))).trans (hHeld.2.2.2.2.2.2.2.2.2)
                  refine ⟨_, rfl, ?_⟩
                  have n0_ := Aside0.mk (Kd.S_below (by (with_reducible repeat (first | apply Kd.S_alloc | apply Kd.S_drewN | apply Kd.S_drew)); exact HO_4.out) hb)
                  have n1_ := Aside0.mk (Kd.R_below (by (with_reducible repeat (first | apply Kd.R_alloc | apply Kd.R_drewN | apply Kd.R_drew)); exact HO412.out) hb)
                  have n2_ := Aside0.mk (Kd.R_below (by (with_reducible repeat (first | apply Kd.R_alloc | apply Kd.R_drewN | apply Kd.R_drew)); exact HL417_3.out) hb)
                  have n3_ := Aside0.mk (blk_below (g := gb416) (o := .cells #[.int .i64 t407, .string t408, .string t409, .slice Ao113 t410.length co113, .bool t413] 27 (0, 0)) (by (with_reducible repeat (first | refine blk_drewN ?_ _ | refine blk_drew ?_ | refine blk_alloc ?_ _)); exact BK416.out) hb)
                  have n4_ := Aside0.mk (Kd.C_below (by repeat (first | (with_reducible exact HR417_3.out) | (with_reducible refine Kd.C_alloc ?_ _) | (with_reducible refine Kd.C_drewN ?_ _) | (with_reducible refine Kd.C_drew ?_) | exact HR417_3.out)) hb)
                  have n5_ := Aside0.mk (below_step (by repeat (first | (with_reducible first | exact HB.out | apply below_alloc | apply pw_below_drewN | apply below_drew1 | refine below_set ?_ GE416.out) | exact HB.out)) hb)
                  clear HO_4
                  clear HO412
                  clear HL417_3
                  clear BK416
                  clear HR417_3
                  clear HB
                  have HO_4 := n0_
                  have HO412 := n1_
                  have HL417_3 := n2_
                  have BK416 := n3_
                  have HR417_3 := n4_
                  have HB := n5_
                  clear n0_ n1_ n2_ n3_ n4_ n5_
                  (try clear hb)
                  (try clear hb2)
                  (try clear hk)
                  (try clear hi)
                  refine hK.out _ _ ⟨(blk_cell BK416.out 0).trans rfl, (blk_cell BK416.out 1).trans rfl, (blk_cell BK416.out 2).trans rfl, (blk_cell BK416.out 3).trans rfl, (blk_cell BK416.out 4).trans rfl, HS5_, HS6_, HS7_, HS8_, HS9_⟩ (fun hHeld => ?_)
                  clear hK K
                  refine norm_ (a' := ?_) ?_ ?_
                  rotate_left
                  ·show Act.put _ (some 55) _ = _
                   simp only [Act.put, List.setIfInBounds_toArray, List.set_cons_zero, List.set_cons_succ, i64_w, i32_w]
                   rfl
                  refine KX.pq_ 20 (some 56) (KX.upTo 68 21) HT_ ?_
                  refine KX.pq_ 21 (some 57) (KX.upTo 68 22) HT_ ?_
                  refine KX.pq_ 22 (some 58) (KX.upTo 68 23) HT_ ?_
                  refine KX.pq_ 23 (some 59) (KX.upTo 68 24) HT_ ?_
                  refine take_ (i := 24) (N := some 60) (v := ?_) (a' := ?_) (KX.upTo 68 25) rfl rfl (take_ofW HT_.out HW_.out (by kernel_rfl)) (fun _ _ _ h => h) (Or.inl ⟨by rfl, ?_⟩) hHeld ?_ ?_
                  rotate_left
                  ·rintro w' ⟨s0, s1, s2, s3, s4, s5, s6, s7, s8, s9⟩
                   go_simp
                   with_reducible rfl
                  rotate_left
                  ·simp only [Act.put, List.setIfInBounds_toArray, List.set_cons_zero, List.set_cons_succ, i64_w, i32_w]
                   rfl
                  refine KX.pq_ 25 (some 61) (KX.upTo 68 26) HT_ ?_
                  refine KX.pq_ 26 (some 62) (KX.upTo 68 27) HT_ ?_
                  refine KX.pu_ 27 (some 63) (KX.upTo 68 28) HT_ ?_
                  refine KX.pu_ 28 (some 64) (KX.upTo 68 29) HT_ ?_
                  refine KX.pu_ 29 (some 65) (KX.upTo 68 30) HT_ ?_
                  refine KX.pu_ 30 (some 66) (KX.upTo 68 31) HT_ ?_
                  refine KX.pu_ 31 (some 67) (KX.upTo 68 32) HT_ ?_
                  refine KX.pu_ 32 (some 68) (KX.upTo 68 33) HT_ ?_
                  refine KX.pu_ 33 (some 69) (KX.upTo 68 34) HT_ ?_
                  refine KX.pq_ 34 (some 70) (KX.upTo 68 35) HT_ ?_
                  refine KX.pq_ 35 (some 71) (KX.upTo 68 36) HT_ ?_
                  refine KX.pq_ 36 (some 72) (KX.upTo 68 37) HT_ ?_
                  refine KX.pq_ 37 (some 73) (KX.upTo 68 38) HT_ ?_
                  refine take_ (i := 38) (N := some 74) (v := ?_) (a' := ?_) (KX.upTo 68 39) rfl rfl (take_ofW HT_.out HW_.out (by kernel_rfl)) (fun _ _ _ h => h) (Or.inl ⟨by rfl, ?_⟩) hHeld ?_ ?_
                  rotate_left
                  ·rintro w' ⟨s0, s1, s2, s3, s4, s5, s6, s7, s8, s9⟩
                   go_simp
                   with_reducible rfl
                  rotate_left
                  ·simp only [Act.put, List.setIfInBounds_toArray, List.set_cons_zero, List.set_cons_succ, i64_w, i32_w]
                   rfl
                  refine KX.pq_ 39 (some 75) (KX.upTo 68 40) HT_ ?_
                  refine KX.pq_ 40 (some 76) (KX.upTo 68 41) HT_ ?_
                  refine KX.pu_ 41 (some 77) (KX.upTo 68 42) HT_ ?_
                  refine KX.pu_ 42 (some 78) (KX.upTo 68 43) HT_ ?_
                  refine KX.pu_ 43 (some 79) (KX.upTo 68 44) HT_ ?_
                  refine KX.pu_ 44 (some 80) (KX.upTo 68 45) HT_ ?_
                  refine KX.pu_ 45 (some 81) (KX.upTo 68 46) HT_ ?_
                  refine KX.pu_ 46 (some 82) (KX.upTo 68 47) HT_ ?_
                  refine KX.pu_ 47 (some 83) (KX.upTo 68 48) HT_ ?_
                  refine KX.pu_ 48 (some 84) (KX.upTo 68 49) HT_ ?_
                  refine KX.pu_ 49 (some 85) (KX.upTo 68 50) HT_ ?_
                  refine KX.pq_ 50 (some 86) (KX.upTo 68 51) HT_ ?_
                  refine KX.pq_ 51 (some 87) (KX.upTo 68 52) HT_ ?_
                  refine KX.pq_ 52 (some 88) (KX.upTo 68 53) HT_ ?_
                  refine KX.pq_ 53 (some 89) (KX.upTo 68 54) HT_ ?_
                  refine take_ (i := 54) (N := some 90) (v := ?_) (a' := ?_) (KX.upTo 68 55) rfl rfl (take_ofW HT_.out HW_.out (by kernel_rfl)) (fun _ _ _ h => h) (Or.inl ⟨by rfl, ?_⟩) hHeld ?_ ?_
                  rotate_left
                  ·rintro w' ⟨s0, s1, s2, s3, s4, s5, s6, s7, s8, s9⟩
                   go_simp
                   with_reducible rfl
                  rotate_left
                  ·simp only [Act.put, List.setIfInBounds_toArray, List.set_cons_zero, List.set_cons_succ, i64_w, i32_w]
                   rfl
                  refine KX.pq_ 55 (some 91) (KX.upTo 68 56) HT_ ?_
                  refine KX.pq_ 56 (some 92) (KX.upTo 68 57) HT_ ?_
                  refine KX.pq_ 57 (some 93) (KX.upTo 68 58) HT_ ?_
                  refine KX.pq_ 58 (some 94) (KX.upTo 68 59) HT_ ?_
                  refine KX.pq_ 59 (some 95) (KX.upTo 68 60) HT_ ?_
                  refine KX.pq_ 60 (some 96) (KX.upTo 68 61) HT_ ?_
                  refine KX.pq_ 61 (some 97) (KX.upTo 68 62) HT_ ?_
                  refine take_ (i := 62) (N := some 98) (v := ?_) (a' := ?_) (KX.upTo 68 63) rfl rfl (take_ofW HT_.out HW_.out (by kernel_rfl)) (fun _ _ _ h => h) (Or.inl ⟨by rfl, ?_⟩) hHeld ?_ ?_
                  rotate_left
                  ·rintro w' ⟨s0, s1, s2, s3, s4, s5, s6, s7, s8, s9⟩
                   go_simp
                   with_reducible rfl
                  rotate_left
                  ·simp only [Act.put, List.setIfInBounds_toArray, List.set_cons_zero, List.set_cons_succ, i64_w, i32_w]
                   rfl
                  refine KX.pq_ 63 (some 99) (KX.upTo 68 64) HT_ ?_
                  refine KX.pq_ 64 (some 100) (KX.upTo 68 65) HT_ ?_
                  refine KX.pq_ 65 (some 101) (KX.upTo 68 66) HT_ ?_
                  refine KX.pq_ 66 (some 102) (KX.upTo 68 67) HT_ ?_
                  refine KX.pq_ 67 (some 103) (KX.upTo 68 68) HT_ ?_
                  refine done_ (done_of HT_.out (by kernel_rfl)) ?_
                  try go_wp2
                  go_roundg k1
                  case measure => have := HK1.out; omega
                  case rel => exact ⟨(t414), (wrap64 (x8_1 + 1)), (by first | rfl | (simp; done) | (simp [*]; done)), (by first | rfl | (simp; done) | (simp [*]; done)), H', ⟨by have := HK1.out; omega⟩, ⟨by (with_reducible repeat (first | apply Kd.S_alloc | apply Kd.S_drewN | apply Kd.S_drew)); exact Kd.S_mono HO_4.out (fun _ hk => trivial)⟩, ⟨by repeat (first | (with_reducible first | exact HB.out | apply below_alloc | apply pw_below_drewN | apply below_drew1 | refine below_set ?_ GE416.out) | exact HB.out)⟩⟩
                 ·rw [if_neg c108] at H
                  have c108b0 := beq_eq_false_iff_ne.mpr c108
                  have c108b1 := bne_iff_ne.mpr c108
                  exact absurd ((Option.some.inj H).trans hTrue.out) (by decide)
                ·rw [if_neg c107] at H
                 exact absurd H (by simp)
               ·rw [if_neg c106] at H
                exact absurd H (by simp)
              ·rw [if_neg c105] at H
               exact absurd H (by simp)
             ·rw [if_neg c104] at H
              exact absurd H (by simp)
            ·rw [if_neg c103] at H
             exact absurd H (by simp)
           ·rw [if_neg c102] at H
            have c102b0 := beq_eq_false_iff_ne.mpr c102
            have c102b1 := bne_iff_ne.mpr c102
            have H' := Aside0.mk H
            clear H
            obtain ⟨Ao117, co117, eo117⟩ := Kd.S_slice HO_4.out
            subst eo117
            try go_wp2_with (first | ((with_reducible refine gate_callee (f := 15) rfl ?_); refine goesL_ (some 32) rfl rfl Tryd.func15 (by kernel_rfl) rfl #[.string t390, .int .i64 x7_1] rfl (by (try simp only [List.map_toArray, List.map_cons, List.map_nil]); first | done | rfl | (simp only [List.length_drop, List.length_take]; rfl)) ?_; (with_reducible refine (token_Next.calls k1 t390 x7_1 t407 t408 t409 t410 t413 t414 t415 _ (Env.below HE.out (by repeat (first | (with_reducible first | exact HB.out | apply below_alloc | apply pw_below_drewN | apply below_drew1) | exact HB.out))) A7.out).mono ?_); rintro e w118 ⟨v411, rfl, ho0, hb⟩; refine ⟨_, rfl, ?_⟩; have n0_ := Aside0.mk (Kd.S_elder' (by (with_reducible repeat (first | apply Kd.S_alloc | apply Kd.S_drewN | apply Kd.S_drew)); exact HO_4.out) (Kd.R_base ho0) hb); have n1_ := Aside0.mk (Kd.R_lower ho0 (below_size (by repeat (first | (with_reducible first | exact HB.out | apply below_alloc | apply pw_below_drewN | apply below_drew1) | exact HB.out)))); have n2_ := Aside0.mk (below_step (by repeat (first | (with_reducible first | exact HB.out | apply below_alloc | apply pw_below_drewN | apply below_drew1) | exact HB.out)) hb); clear HO_4; clear HB; have HO_4 := n0_; have HO412 := n1_; have HB := n2_; clear n0_ n1_ n2_; (try clear hb); (try clear hb2); (try clear hk); (try clear hi); (try clear ho0)) | ((with_reducible refine gate_dst (N := 9) rfl ?_); (try (refine gate_guard (by rfl) ?_; dsimp only)); refine box_event ?hg (N := 9) ?hd (cs := #[.int .i64 0, .string ⟨#[]⟩, .string ⟨#[]⟩, .slice none 0 0, .bool false]) (t := 27) ?hr ?_; (case hd => rfl); (case hg => rfl); (case hr => first | (go_simp; done) | (go_simp; rfl)); intro gb416 hg w119 hbox hb; have n0_ := Aside0.mk (Kd.S_below (Kd.S_elderB (by (with_reducible repeat (first | apply Kd.S_alloc | apply Kd.S_drewN | apply Kd.S_drew)); exact HO_4.out) gb416 (Nat.le_of_eq hg.symm)) hb); have n1_ := Aside0.mk (Kd.R_below (by (with_reducible repeat (first | apply Kd.R_alloc | apply Kd.R_drewN | apply Kd.R_drew)); exact HO412.out) hb); have n2_ := Aside0.mk (below_step (by repeat (first | (with_reducible first | exact HB.out | apply below_alloc | apply pw_below_drewN | apply below_drew1) | exact HB.out)) hb); have n3_ := Aside0.mk (hbox); have n4_ := Aside0.mk ((by rw [hg]; exact (below_size (by repeat (first | (with_reducible first | exact HB.out | apply below_alloc | apply pw_below_drewN | apply below_drew1) | exact HB.out))) : w.heap.size ≤ gb416)); have n5_ := Aside0.mk ((by rw [hg]; exact (below_size (by repeat (first | (with_reducible first | exact HB.out | apply below_alloc | apply pw_below_drewN | apply below_drew1) | exact HB.out))) : w.heap.size ≤ gb416)); clear HO_4; clear HO412; clear HB; have HO_4 := n0_; have HO412 := n1_; have HB := n2_; have BK416 := n3_; have GW416 := n4_; have GE416 := n5_; clear n0_ n1_ n2_ n3_ n4_ n5_; clear hb hbox hg; have hcz120_0 : w119.cell? ⟨gb416, 0, none⟩ = some (.int .i64 0) := (blk_cell BK416.out 0).trans rfl; have hcz120_1 : w119.cell? ⟨gb416, 1, none⟩ = some (.string ⟨#[]⟩) := (blk_cell BK416.out 1).trans rfl; have hcz120_2 : w119.cell? ⟨gb416, 2, none⟩ = some (.string ⟨#[]⟩) := (blk_cell BK416.out 2).trans rfl; have hcz120_3 : w119.cell? ⟨gb416, 3, none⟩ = some (.slice none 0 0) := (blk_cell BK416.out 3).trans rfl; have hcz120_4 : w119.cell? ⟨gb416, 4, none⟩ = some (.bool false) := (blk_cell BK416.out 4).trans rfl; have hfz120_0 := blk_frozen BK416.out 0; have hfz120_1 := blk_frozen BK416.out 1; have hfz120_2 := blk_frozen BK416.out 2; have hfz120_3 := blk_frozen BK416.out 3; have hfz120_4 := blk_frozen BK416.out 4; obtain ⟨Ao121, co121, eo121⟩ := Kd.R_slice HO412.out; subst eo121))
            have n0_ : Aside0 (Kd.S k27 27 (((((w119.setCell ⟨gb416, 0, none⟩ (.int .i64 t407)).setCell ⟨gb416, 1, none⟩ (.string t408)).setCell ⟨gb416, 2, none⟩ (.string t409)).setCell ⟨gb416, 3, none⟩ (.slice Ao121 t410.length co121)).setCell ⟨gb416, 4, none⟩ (.bool t413)) w.heap.size (fun k_ => some k_ ≠ (.slice Ao121 t410.length co121 : Value).ownBlock ∧ k_ ≠ gb416) (.slice Ao117 t391.length co117) t391) := ⟨by (with_reducible repeat (first | apply Kd.S_alloc | apply Kd.S_drewN | apply Kd.S_drew)); exact Kd.S_mono (Kd.S_far (p := ⟨gb416, 4, none⟩) (Kd.S_far (p := ⟨gb416, 3, none⟩) (Kd.S_far (p := ⟨gb416, 2, none⟩) (Kd.S_far (p := ⟨gb416, 1, none⟩) (Kd.S_far (p := ⟨gb416, 0, none⟩) (Kd.S_mono HO_4.out (fun k_ hk => (⟨hk, hk.2⟩ : _ ∧ k_ ≠ gb416))) (fun _ hk => hk.2) (.int .i64 t407)) (fun _ hk => hk.2) (.string t408)) (fun _ hk => hk.2) (.string t409)) (fun _ hk => hk.2) (.slice Ao121 t410.length co121)) (fun _ hk => hk.2) (.bool t413)) (fun _ hk => ⟨hk.1.1.2, hk.1.2⟩)⟩
            have n1_ : Aside0 (Kd.R k42 42 (((((w119.setCell ⟨gb416, 0, none⟩ (.int .i64 t407)).setCell ⟨gb416, 1, none⟩ (.string t408)).setCell ⟨gb416, 2, none⟩ (.string t409)).setCell ⟨gb416, 3, none⟩ (.slice Ao121 t410.length co121)).setCell ⟨gb416, 4, none⟩ (.bool t413)) w.heap.size (fun _ => True) (.slice Ao121 t410.length co121) t410) := ⟨by (with_reducible repeat (first | apply Kd.R_alloc | apply Kd.R_drewN | apply Kd.R_drew)); exact Kd.R_mono (Kd.R_far (p := ⟨gb416, 4, none⟩) (Kd.R_far (p := ⟨gb416, 3, none⟩) (Kd.R_far (p := ⟨gb416, 2, none⟩) (Kd.R_far (p := ⟨gb416, 1, none⟩) (Kd.R_far (p := ⟨gb416, 0, none⟩) (Kd.R_types HO412.out BK416.out (by decide)) (fun _ hk => hk.2) (.int .i64 t407)) (fun _ hk => hk.2) (.string t408)) (fun _ hk => hk.2) (.string t409)) (fun _ hk => hk.2) (.slice Ao121 t410.length co121)) (fun _ hk => hk.2) (.bool t413)) (fun _ hk => trivial)⟩
            have n2_ : Aside0 ((((((w119.setCell ⟨gb416, 0, none⟩ (.int .i64 t407)).setCell ⟨gb416, 1, none⟩ (.string t408)).setCell ⟨gb416, 2, none⟩ (.string t409)).setCell ⟨gb416, 3, none⟩ (.slice Ao121 t410.length co121)).setCell ⟨gb416, 4, none⟩ (.bool t413)).heap[gb416]? = some (.cells #[.int .i64 t407, .string t408, .string t409, .slice Ao121 t410.length co121, .bool t413] 27 (0, 0))) := ⟨by (with_reducible repeat (first | refine blk_drewN ?_ _ | refine blk_drew ?_ | refine blk_alloc ?_ _)); refine blk_put (cs := #[.int .i64 t407, .string t408, .string t409, .slice Ao121 t410.length co121, .bool false]) ?_ 4 _ rfl; (with_reducible repeat (first | refine blk_drewN ?_ _ | refine blk_drew ?_ | refine blk_alloc ?_ _)); refine blk_put (cs := #[.int .i64 t407, .string t408, .string t409, .slice none 0 0, .bool false]) ?_ 3 _ rfl; (with_reducible repeat (first | refine blk_drewN ?_ _ | refine blk_drew ?_ | refine blk_alloc ?_ _)); refine blk_put (cs := #[.int .i64 t407, .string t408, .string ⟨#[]⟩, .slice none 0 0, .bool false]) ?_ 2 _ rfl; (with_reducible repeat (first | refine blk_drewN ?_ _ | refine blk_drew ?_ | refine blk_alloc ?_ _)); refine blk_put (cs := #[.int .i64 t407, .string ⟨#[]⟩, .string ⟨#[]⟩, .slice none 0 0, .bool false]) ?_ 1 _ rfl; (with_reducible repeat (first | refine blk_drewN ?_ _ | refine blk_drew ?_ | refine blk_alloc ?_ _)); refine blk_put (cs := #[.int .i64 0, .string ⟨#[]⟩, .string ⟨#[]⟩, .slice none 0 0, .bool false]) ?_ 0 _ rfl; (with_reducible repeat (first | refine blk_drewN ?_ _ | refine blk_drew ?_ | refine blk_alloc ?_ _)); exact BK416.out⟩
            have n3_ : Aside0 (Below w.heap.size w (((((w119.setCell ⟨gb416, 0, none⟩ (.int .i64 t407)).setCell ⟨gb416, 1, none⟩ (.string t408)).setCell ⟨gb416, 2, none⟩ (.string t409)).setCell ⟨gb416, 3, none⟩ (.slice Ao121 t410.length co121)).setCell ⟨gb416, 4, none⟩ (.bool t413))) := ⟨by repeat (first | (with_reducible first | exact HB.out | apply below_alloc | apply pw_below_drewN | apply below_drew1 | refine below_set ?_ GE416.out) | exact HB.out)⟩
            (try clear HO_4)
            (try clear HO412)
            (try clear BK416)
            (try clear HB)
            generalize (((((w119.setCell ⟨gb416, 0, none⟩ (.int .i64 t407)).setCell ⟨gb416, 1, none⟩ (.string t408)).setCell ⟨gb416, 2, none⟩ (.string t409)).setCell ⟨gb416, 3, none⟩ (.slice Ao121 t410.length co121)).setCell ⟨gb416, 4, none⟩ (.bool t413)) = w122 at n0_ n1_ n2_ n3_ ⊢
            have HO_4 := n0_
            have HO412 := n1_
            have BK416 := n2_
            have HB := n3_
            clear n0_ n1_ n2_ n3_
            have n0_ := Aside0.mk (Kd.S_drew HO_4.out)
            have n1_ := Aside0.mk (Kd.R_drew HO412.out)
            have n2_ := Aside0.mk (blk_drew BK416.out)
            have n3_ := Aside0.mk (below_drew1 HB.out)
            clear HO_4
            clear HO412
            clear BK416
            clear HB
            have HO_4 := n0_
            have HO412 := n1_
            have BK416 := n2_
            have HB := n3_
            clear n0_ n1_ n2_ n3_
            have p417 : 0 ≤ (x8_1 : Int) := of_decide_eq_true (by first | (with_reducible assumption) | assumption)
            have q417 : x8_1 < (t391.length : Int) := of_decide_eq_true (by first | (with_reducible assumption) | assumption)
            obtain ⟨ad417, A417_3, c417_3, e417, hx417_0, hx417_1, hx417_2, hx417_3, hx417_4, hl417_3, hi417_3⟩ := at_T27 (Kd.S_reads' HO_4.out).2.2 x8_1 p417 q417
            cases e417
            obtain ⟨ce417, hce417, hMe417, hcc417⟩ := Kd.S_get HO_4.out z27 x8_1 p417 (by first | exact q417 | exact of_decide_eq_true (by first | (with_reducible assumption) | assumption) | (have e_ := (Kd.S_reads' HO_4.out).1; omega))
            obtain ⟨ve417_3, rfl, ge417_3⟩ := k27_openM hMe417
            have hv417_3 := hcc417 3 _ rfl
            rw [add_field _ _ 3 (by omega)] at hv417_3
            replace hv417_3 := Option.some.inj (hv417_3.symm.trans hx417_3)
            rw [hv417_3] at ge417_3
            have HL417_3 := Aside0.mk (show Kd.R k42 42 _ _ _ _ ((rd_T27 t391 x8_1).f3) from ge417_3)
            clear hv417_3 ge417_3
            clear hcc417 hce417
            have HR417_3 := Aside0.mk hi417_3
            have HC417_3 := Aside0.mk hl417_3
            clear hi417_3 hl417_3
            replace p417 := eq_true p417
            replace q417 := eq_true q417
            refine start_ (n := 68) (S := fun w' => w'.cell? ⟨gb416, 0, none⟩ = some (.int .i64 t407) ∧ w'.cell? ⟨gb416, 1, none⟩ = some (.string t408) ∧ w'.cell? ⟨gb416, 2, none⟩ = some (.string t409) ∧ w'.cell? ⟨gb416, 3, none⟩ = some (.slice Ao121 t410.length co121) ∧ w'.cell? ⟨gb416, 4, none⟩ = some (.bool t413) ∧ w'.cell? (ad417.add ((x8_1).toNat * 5)) = some (.int .i64 ((rd_T27 t391 x8_1).f0)) ∧ w'.cell? ⟨(ad417.add ((x8_1).toNat * 5)).block, (ad417.add ((x8_1).toNat * 5)).off + 1, none⟩ = some (.string ((rd_T27 t391 x8_1).f1)) ∧ w'.cell? ⟨(ad417.add ((x8_1).toNat * 5)).block, (ad417.add ((x8_1).toNat * 5)).off + 2, none⟩ = some (.string ((rd_T27 t391 x8_1).f2)) ∧ w'.cell? ⟨(ad417.add ((x8_1).toNat * 5)).block, (ad417.add ((x8_1).toNat * 5)).off + 3, none⟩ = some (.slice A417_3 ((rd_T27 t391 x8_1).f3).length c417_3) ∧ w'.cell? ⟨(ad417.add ((x8_1).toNat * 5)).block, (ad417.add ((x8_1).toNat * 5)).off + 4, none⟩ = some (.bool ((rd_T27 t391 x8_1).f4))) (ds := []) (KX.upTo 68 0) (by kernel_rfl) rfl rfl ⟨(blk_cell BK416.out 0).trans rfl, (blk_cell BK416.out 1).trans rfl, (blk_cell BK416.out 2).trans rfl, (blk_cell BK416.out 3).trans rfl, (blk_cell BK416.out 4).trans rfl, hx417_0, hx417_1, hx417_2, hx417_3, hx417_4⟩ (fun hHeld => ?_); refine with_tabW brackenlaw10_TokenRows.tab8 brackenlaw10_TokenRows.bits8 (fun HT_ HW_ => ?_)
            generalize w122.drew = w123 at HO_4 HO412 BK416 HB HL417_3 HR417_3 hx417_0 hx417_1 hx417_2 hx417_3 hx417_4 hHeld ⊢
            refine KX.pq_ 0 (some 36) (KX.upTo 68 1) HT_ ?_
            refine KX.pq_ 1 (some 37) (KX.upTo 68 2) HT_ ?_
            refine KX.pq_ 2 (some 38) (KX.upTo 68 3) HT_ ?_
            refine KX.pq_ 3 (some 39) (KX.upTo 68 4) HT_ ?_
            refine KX.pq_ 4 (some 40) (KX.upTo 68 5) HT_ ?_
            refine KX.pq_ 5 (some 41) (KX.upTo 68 6) HT_ ?_
            refine KX.pq_ 6 (some 42) (KX.upTo 68 7) HT_ ?_
            refine KX.pq_ 7 (some 43) (KX.upTo 68 8) HT_ ?_
            refine KX.pq_ 8 (some 44) (KX.upTo 68 9) HT_ ?_
            refine KX.pq_ 9 (some 45) (KX.upTo 68 10) HT_ ?_
            refine KX.pq_ 10 (some 46) (KX.upTo 68 11) HT_ ?_
            refine KX.pq_ 11 (some 47) (KX.upTo 68 12) HT_ ?_
            refine KX.pq_ 12 (some 48) (KX.upTo 68 13) HT_ ?_
            refine KX.pq_ 13 (some 49) (KX.upTo 68 14) HT_ ?_
            refine KX.pq_ 15 (some 51) D15_ HT_ ?_
            refine KX.pq_ 16 (some 52) D16_ HT_ ?_
            refine KX.pq_ 17 (some 53) D17_ HT_ ?_
            refine take_ (i := 14) (N := some 50) (v := ?_) (a' := ?_) (KX.upTo 68 18) rfl rfl (take_ofW HT_.out HW_.out (by kernel_rfl)) (fun _ _ _ h => h) (Or.inl ⟨by rfl, ?_⟩) hHeld ?_ ?_
            rotate_left
            ·rintro w' ⟨s0, s1, s2, s3, s4, s5, s6, s7, s8, s9⟩
             go_simp
             with_reducible rfl
            rotate_left
            ·simp only [Act.put, List.setIfInBounds_toArray, List.set_cons_zero, List.set_cons_succ, i64_w, i32_w]
             rfl
            refine take_ (i := 18) (N := some 54) (v := ?_) (a' := ?_) (KX.upTo 68 19) rfl rfl (take_ofW HT_.out HW_.out (by kernel_rfl)) (fun _ _ _ h => h) (Or.inl ⟨by rfl, ?_⟩) hHeld ?_ ?_
            rotate_left
            ·rintro w' ⟨s0, s1, s2, s3, s4, s5, s6, s7, s8, s9⟩
             go_simp
             with_reducible rfl
            rotate_left
            ·simp only [Act.put, List.setIfInBounds_toArray, List.set_cons_zero, List.set_cons_succ, i64_w, i32_w]
             rfl
            refine one_ (i := 19) (N := some 55) (KX.upTo 68 20) rfl rfl (one_of HT_.out (by kernel_rfl)) (by decide) (fun K hK => ?_)
            refine goes_ Tryd.func20 (by kernel_rfl) rfl #[.agg #[.int .i64 t407, .string t408, .string t409, .slice Ao121 t410.length co121, .bool t413], .agg #[.int .i64 ((rd_T27 t391 x8_1).f0), .string ((rd_T27 t391 x8_1).f1), .string ((rd_T27 t391 x8_1).f2), .slice A417_3 ((rd_T27 t391 x8_1).f3).length c417_3, .bool ((rd_T27 t391 x8_1).f4)]] (by rfl) rfl rfl (by (try simp only [List.map_toArray, List.map_cons, List.map_nil]); first | done | rfl | (simp only [List.length_drop, List.length_take]; rfl)) ?_
            with_reducible refine (brackenref10_SameToken.calls k1 t407 t408 t409 _ _ t410 t413 ((rd_T27 t391 x8_1).f0) ((rd_T27 t391 x8_1).f1) ((rd_T27 t391 x8_1).f2) _ _ ((rd_T27 t391 x8_1).f3) ((rd_T27 t391 x8_1).f4) true _ ?side1 ?side2 ?side3 ?side4 A12.out).mono ?_
            (case side1 => repeat (first | exact (Kd.R_reads' HO412.out).2.2 | (with_reducible refine Kd.C_alloc ?_ _) | (with_reducible refine Kd.C_drewN ?_ _) | (with_reducible refine Kd.C_drew ?_)))
            (case side2 => exact (Kd.R_reads' HO412.out).2.1)
            (case side3 => repeat (first | exact (by repeat (first | (with_reducible exact HR417_3.out) | (with_reducible refine Kd.C_alloc ?_ _) | (with_reducible refine Kd.C_drewN ?_ _) | (with_reducible refine Kd.C_drew ?_) | exact HR417_3.out)) | (with_reducible refine Kd.C_alloc ?_ _) | (with_reducible refine Kd.C_drewN ?_ _) | (with_reducible refine Kd.C_drew ?_)))
            (case side4 => exact HC417_3.out)
            rintro e w124 ⟨rfl, hb⟩
            have HS5_ := (hb.cell (World.block_lt_of_cell? _ _ (hHeld.2.2.2.2.2.1))).trans (hHeld.2.2.2.2.2.1)
            have HS6_ := (hb.cell (World.block_lt_of_cell? _ _ (hHeld.2.2.2.2.2.2.1))).trans (hHeld.2.2.2.2.2.2.1)
            have HS7_ := (hb.cell (World.block_lt_of_cell? _ _ (hHeld.2.2.2.2.2.2.2.1))).trans (hHeld.2.2.2.2.2.2.2.1)
            have HS8_ := (hb.cell (World.block_lt_of_cell? _ _ (hHeld.2.2.2.2.2.2.2.2.1))).trans (hHeld.2.2.2.2.2.2.2.2.1)
            have HS9_ := (hb.cell (World.block_lt_of_cell? _ _ (hHeld.2.2.2.2.2.2.2.2.2))).trans (hHeld.2.2.2.2.2.2.2.2.2)
            refine ⟨_, rfl, ?_⟩
            have n0_ := Aside0.mk (Kd.S_below (by (with_reducible repeat (first | apply Kd.S_alloc | apply Kd.S_drewN | apply Kd.S_drew)); exact HO_4.out) hb)
            have n1_ := Aside0.mk (Kd.R_below (by (with_reducible repeat (first | apply Kd.R_alloc | apply Kd.R_drewN | apply Kd.R_drew)); exact HO412.out) hb)
            have n2_ := Aside0.mk (Kd.R_below (by (with_reducible repeat (first | apply Kd.R_alloc | apply Kd.R_drewN | apply Kd.R_drew)); exact HL417_3.out) hb)
            have n3_ := Aside0.mk (blk_below (g := gb416) (o := .cells #[.int .i64 t407, .string t408, .string t409, .slice Ao121 t410.length co121, .bool t413] 27 (0, 0)) (by (with_reducible repeat (first | refine blk_drewN ?_ _ | refine blk_drew ?_ | refine blk_alloc ?_ _)); exact BK416.out) hb)
            have n4_ := Aside0.mk (Kd.C_below (by repeat (first | (with_reducible exact HR417_3.out) | (with_reducible refine Kd.C_alloc ?_ _) | (with_reducible refine Kd.C_drewN ?_ _) | (with_reducible refine Kd.C_drew ?_) | exact HR417_3.out)) hb)
            have n5_ := Aside0.mk (below_step (by repeat (first | (with_reducible first | exact HB.out | apply below_alloc | apply pw_below_drewN | apply below_drew1 | refine below_set ?_ GE416.out) | exact HB.out)) hb)
            clear HO_4
            clear HO412
            clear HL417_3
            clear BK416
            clear HR417_3
            clear HB
            have HO_4 := n0_
            have HO412 := n1_
            have HL417_3 := n2_
            have BK416 := n3_
            have HR417_3 := n4_
            have HB := n5_
            clear n0_ n1_ n2_ n3_ n4_ n5_
            (try clear hb)
            (try clear hb2)
            (try clear hk)
            (try clear hi)
            refine hK.out _ _ ⟨(blk_cell BK416.out 0).trans rfl, (blk_cell BK416.out 1).trans rfl, (blk_cell BK416.out 2).trans rfl, (blk_cell BK416.out 3).trans rfl, (blk_cell BK416.out 4).trans rfl, HS5_, HS6_, HS7_, HS8_, HS9_⟩ (fun hHeld => ?_)
            clear hK K
            refine norm_ (a' := ?_) ?_ ?_
            rotate_left
            ·show Act.put _ (some 55) _ = _
             simp only [Act.put, List.setIfInBounds_toArray, List.set_cons_zero, List.set_cons_succ, i64_w, i32_w]
             rfl
            refine KX.pq_ 20 (some 56) (KX.upTo 68 21) HT_ ?_
            refine KX.pq_ 21 (some 57) (KX.upTo 68 22) HT_ ?_
            refine KX.pq_ 22 (some 58) (KX.upTo 68 23) HT_ ?_
            refine KX.pq_ 23 (some 59) (KX.upTo 68 24) HT_ ?_
            refine take_ (i := 24) (N := some 60) (v := ?_) (a' := ?_) (KX.upTo 68 25) rfl rfl (take_ofW HT_.out HW_.out (by kernel_rfl)) (fun _ _ _ h => h) (Or.inl ⟨by rfl, ?_⟩) hHeld ?_ ?_
            rotate_left
            ·rintro w' ⟨s0, s1, s2, s3, s4, s5, s6, s7, s8, s9⟩
             go_simp
             with_reducible rfl
            rotate_left
            ·simp only [Act.put, List.setIfInBounds_toArray, List.set_cons_zero, List.set_cons_succ, i64_w, i32_w]
             rfl
            refine KX.pq_ 25 (some 61) (KX.upTo 68 26) HT_ ?_
            refine KX.pq_ 26 (some 62) (KX.upTo 68 27) HT_ ?_
            refine KX.pu_ 27 (some 63) (KX.upTo 68 28) HT_ ?_
            refine KX.pu_ 28 (some 64) (KX.upTo 68 29) HT_ ?_
            refine KX.pu_ 29 (some 65) (KX.upTo 68 30) HT_ ?_
            refine KX.pu_ 30 (some 66) (KX.upTo 68 31) HT_ ?_
            refine KX.pu_ 31 (some 67) (KX.upTo 68 32) HT_ ?_
            refine KX.pu_ 32 (some 68) (KX.upTo 68 33) HT_ ?_
            refine KX.pu_ 33 (some 69) (KX.upTo 68 34) HT_ ?_
            refine KX.pq_ 34 (some 70) (KX.upTo 68 35) HT_ ?_
            refine KX.pq_ 35 (some 71) (KX.upTo 68 36) HT_ ?_
            refine KX.pq_ 36 (some 72) (KX.upTo 68 37) HT_ ?_
            refine KX.pq_ 37 (some 73) (KX.upTo 68 38) HT_ ?_
            refine take_ (i := 38) (N := some 74) (v := ?_) (a' := ?_) (KX.upTo 68 39) rfl rfl (take_ofW HT_.out HW_.out (by kernel_rfl)) (fun _ _ _ h => h) (Or.inl ⟨by rfl, ?_⟩) hHeld ?_ ?_
            rotate_left
            ·rintro w' ⟨s0, s1, s2, s3, s4, s5, s6, s7, s8, s9⟩
             go_simp
             with_reducible rfl
            rotate_left
            ·simp only [Act.put, List.setIfInBounds_toArray, List.set_cons_zero, List.set_cons_succ, i64_w, i32_w]
             rfl
            refine KX.pq_ 39 (some 75) (KX.upTo 68 40) HT_ ?_
            refine KX.pq_ 40 (some 76) (KX.upTo 68 41) HT_ ?_
            refine KX.pu_ 41 (some 77) (KX.upTo 68 42) HT_ ?_
            refine KX.pu_ 42 (some 78) (KX.upTo 68 43) HT_ ?_
            refine KX.pu_ 43 (some 79) (KX.upTo 68 44) HT_ ?_
            refine KX.pu_ 44 (some 80) (KX.upTo 68 45) HT_ ?_
            refine KX.pu_ 45 (some 81) (KX.upTo 68 46) HT_ ?_
            refine KX.pu_ 46 (some 82) (KX.upTo 68 47) HT_ ?_
            refine KX.pu_ 47 (some 83) (KX.upTo 68 48) HT_ ?_
            refine KX.pu_ 48 (some 84) (KX.upTo 68 49) HT_ ?_
            refine KX.pu_ 49 (some 85) (KX.upTo 68 50) HT_ ?_
            refine KX.pq_ 50 (some 86) (KX.upTo 68 51) HT_ ?_
            refine KX.pq_ 51 (some 87) (KX.upTo 68 52) HT_ ?_
            refine KX.pq_ 52 (some 88) (KX.upTo 68 53) HT_ ?_
            refine KX.pq_ 53 (some 89) (KX.upTo 68 54) HT_ ?_
            refine take_ (i := 54) (N := some 90) (v := ?_) (a' := ?_) (KX.upTo 68 55) rfl rfl (take_ofW HT_.out HW_.out (by kernel_rfl)) (fun _ _ _ h => h) (Or.inl ⟨by rfl, ?_⟩) hHeld ?_ ?_
            rotate_left
            ·rintro w' ⟨s0, s1, s2, s3, s4, s5, s6, s7, s8, s9⟩
             go_simp
             with_reducible rfl
            rotate_left
            ·simp only [Act.put, List.setIfInBounds_toArray, List.set_cons_zero, List.set_cons_succ, i64_w, i32_w]
             rfl
            refine KX.pq_ 55 (some 91) (KX.upTo 68 56) HT_ ?_
            refine KX.pq_ 56 (some 92) (KX.upTo 68 57) HT_ ?_
            refine KX.pu_ 57 (some 93) (KX.upTo 68 58) HT_ ?_
            refine KX.pu_ 58 (some 94) (KX.upTo 68 59) HT_ ?_
            refine KX.pu_ 59 (some 95) (KX.upTo 68 60) HT_ ?_
            refine KX.pu_ 60 (some 96) (KX.upTo 68 61) HT_ ?_
            refine KX.pu_ 61 (some 97) (KX.upTo 68 62) HT_ ?_
            refine KX.pu_ 62 (some 98) (KX.upTo 68 63) HT_ ?_
            refine KX.pu_ 63 (some 99) (KX.upTo 68 64) HT_ ?_
            refine KX.pu_ 64 (some 100) (KX.upTo 68 65) HT_ ?_
            refine KX.pu_ 65 (some 101) (KX.upTo 68 66) HT_ ?_
            refine KX.pq_ 66 (some 102) (KX.upTo 68 67) HT_ ?_
            refine KX.pq_ 67 (some 103) (KX.upTo 68 68) HT_ ?_
            refine done_ (done_of HT_.out (by kernel_rfl)) ?_
            try go_wp2
            go_roundg k1
            case measure => have := HK1.out; omega
            case rel => exact ⟨(t414), (wrap64 (x8_1 + 1)), (by first | rfl | (simp; done) | (simp [*]; done)), (by first | rfl | (simp; done) | (simp [*]; done)), H', ⟨by have := HK1.out; omega⟩, ⟨by (with_reducible repeat (first | apply Kd.S_alloc | apply Kd.S_drewN | apply Kd.S_drew)); exact Kd.S_mono HO_4.out (fun _ hk => trivial)⟩, ⟨by repeat (first | (with_reducible first | exact HB.out | apply below_alloc | apply pw_below_drewN | apply below_drew1 | refine below_set ?_ GE416.out) | exact HB.out)⟩⟩
        ·replace c13 := Bool.eq_false_iff.mpr c13
         subst c13
         rw [if_neg (show ¬ (false = true) by decide)] at H
         try dsimp only at H
         exact absurd ((Option.some.inj H).trans hTrue.out) (by decide)
       ·rw [if_neg c11] at H
        exact absurd H (by simp)
    ·rw [if_neg c8] at H
     have c8b0 := beq_eq_false_iff_ne.mpr c8
     have c8b1 := bne_iff_ne.mpr c8
     exact absurd ((Option.some.inj H).trans hTrue.out) (by decide)
   ·rw [if_neg c6] at H
    have c6b0 := decide_eq_false c6
    clear c6
    replace H := Option.bind_eq_some_iff.mp H
    obtain ⟨⟨t396, t397, t398, t399, t402, t403, t404⟩, A1250, H⟩ := H
    try dsimp only at H
    have A125 := Aside0.mk A1250
    clear A1250
    replace H := Option.bind_eq_some_iff.mp H
    obtain ⟨t406, A1260, H⟩ := H
    try dsimp only at H
    have A126 := Aside0.mk A1260
    clear A1260
    by_cases c127 : t406 = true
    ·subst c127
     rw [if_pos rfl] at H
     try dsimp only at H
     by_cases c128 : x7_1 = t392
     ·rw [if_pos c128] at H
      have c128b0 := beq_iff_eq.mpr c128
      have c128b1 := bne_eq_false_iff_eq.mpr c128
      clear c128
      by_cases c129 : t393 = 0
      ·rw [if_pos c129] at H
       have c129b0 := beq_iff_eq.mpr c129
       have c129b1 := bne_eq_false_iff_eq.mpr c129
       clear c129
       by_cases c130 : t392 = (t390.size : Int)
       ·rw [if_pos c130] at H
        have c130b0 := beq_iff_eq.mpr c130
        have c130b1 := bne_eq_false_iff_eq.mpr c130
        clear c130
        by_cases c131 : t404 = 6
        ·rw [if_pos c131] at H
         have c131b0 := beq_iff_eq.mpr c131
         have c131b1 := bne_eq_false_iff_eq.mpr c131
         clear c131
         obtain rfl := Option.some.inj H
         obtain ⟨Ao132, co132, eo132⟩ := Kd.S_slice HO_4.out
         subst eo132
         go_wp2_with (first | ((with_reducible refine gate_callee (f := 15) rfl ?_); refine goesL_ (some 108) rfl rfl Tryd.func15 (by kernel_rfl) rfl #[.string t390, .int .i64 x7_1] rfl (by (try simp only [List.map_toArray, List.map_cons, List.map_nil]); first | done | rfl | (simp only [List.length_drop, List.length_take]; rfl)) ?_; (with_reducible refine (token_Next.calls k1 t390 x7_1 t396 t397 t398 t399 t402 t403 t404 _ (Env.below HE.out (by repeat (first | (with_reducible first | exact HB.out | apply below_alloc | apply pw_below_drewN | apply below_drew1) | exact HB.out))) A125.out).mono ?_); rintro e w133 ⟨v400, rfl, ho0, hb⟩; refine ⟨_, rfl, ?_⟩; have n0_ := Aside0.mk (Kd.S_elder' (by (with_reducible repeat (first | apply Kd.S_alloc | apply Kd.S_drewN | apply Kd.S_drew)); exact HO_4.out) (Kd.R_base ho0) hb); have n1_ := Aside0.mk (Kd.R_lower ho0 (below_size (by repeat (first | (with_reducible first | exact HB.out | apply below_alloc | apply pw_below_drewN | apply below_drew1) | exact HB.out)))); have n2_ := Aside0.mk (below_step (by repeat (first | (with_reducible first | exact HB.out | apply below_alloc | apply pw_below_drewN | apply below_drew1) | exact HB.out)) hb); clear HO_4; clear HB; have HO_4 := n0_; have HO401 := n1_; have HB := n2_; clear n0_ n1_ n2_; (try clear hb); (try clear hb2); (try clear hk); (try clear hi); (try clear ho0)) | ((with_reducible refine gate_dst (N := 12) rfl ?_); (try (refine gate_guard (by rfl) ?_; dsimp only)); refine box_event ?hg (N := 12) ?hd (cs := #[.int .i64 0, .string ⟨#[]⟩, .string ⟨#[]⟩, .slice none 0 0, .bool false]) (t := 27) ?hr ?_; (case hd => rfl); (case hg => rfl); (case hr => first | (go_simp; done) | (go_simp; rfl)); intro gb405 hg w134 hbox hb; have n0_ := Aside0.mk (Kd.S_below (Kd.S_elderB (by (with_reducible repeat (first | apply Kd.S_alloc | apply Kd.S_drewN | apply Kd.S_drew)); exact HO_4.out) gb405 (Nat.le_of_eq hg.symm)) hb); have n1_ := Aside0.mk (Kd.R_below (by (with_reducible repeat (first | apply Kd.R_alloc | apply Kd.R_drewN | apply Kd.R_drew)); exact HO401.out) hb); have n2_ := Aside0.mk (below_step (by repeat (first | (with_reducible first | exact HB.out | apply below_alloc | apply pw_below_drewN | apply below_drew1) | exact HB.out)) hb); have n3_ := Aside0.mk (hbox); have n4_ := Aside0.mk ((by rw [hg]; exact (below_size (by repeat (first | (with_reducible first | exact HB.out | apply below_alloc | apply pw_below_drewN | apply below_drew1) | exact HB.out))) : w.heap.size ≤ gb405)); have n5_ := Aside0.mk ((by rw [hg]; exact (below_size (by repeat (first | (with_reducible first | exact HB.out | apply below_alloc | apply pw_below_drewN | apply below_drew1) | exact HB.out))) : w.heap.size ≤ gb405)); clear HO_4; clear HO401; clear HB; have HO_4 := n0_; have HO401 := n1_; have HB := n2_; have BK405 := n3_; have GW405 := n4_; have GE405 := n5_; clear n0_ n1_ n2_ n3_ n4_ n5_; clear hb hbox hg; have hcz135_0 : w134.cell? ⟨gb405, 0, none⟩ = some (.int .i64 0) := (blk_cell BK405.out 0).trans rfl; have hcz135_1 : w134.cell? ⟨gb405, 1, none⟩ = some (.string ⟨#[]⟩) := (blk_cell BK405.out 1).trans rfl; have hcz135_2 : w134.cell? ⟨gb405, 2, none⟩ = some (.string ⟨#[]⟩) := (blk_cell BK405.out 2).trans rfl; have hcz135_3 : w134.cell? ⟨gb405, 3, none⟩ = some (.slice none 0 0) := (blk_cell BK405.out 3).trans rfl; have hcz135_4 : w134.cell? ⟨gb405, 4, none⟩ = some (.bool false) := (blk_cell BK405.out 4).trans rfl; have hfz135_0 := blk_frozen BK405.out 0; have hfz135_1 := blk_frozen BK405.out 1; have hfz135_2 := blk_frozen BK405.out 2; have hfz135_3 := blk_frozen BK405.out 3; have hfz135_4 := blk_frozen BK405.out 4; obtain ⟨Ao136, co136, eo136⟩ := Kd.R_slice HO401.out; subst eo136) | (go_at_call 14; (with_reducible refine (brackenlaw10_told.calls k1  true _ (Env.below HE.out (by repeat (first | (with_reducible first | exact HB.out | apply below_alloc | apply pw_below_drewN | apply below_drew1 | refine below_set ?_ GE405.out) | exact HB.out))) hidTrue A126.out).mono ?_); rintro e w137 ⟨rfl, hb⟩; have n0_ := Aside0.mk (Kd.S_below (by (with_reducible repeat (first | apply Kd.S_alloc | apply Kd.S_drewN | apply Kd.S_drew)); exact (Kd.S_mono (Kd.S_far (p := ⟨gb405, 4, none⟩) (Kd.S_far (p := ⟨gb405, 3, none⟩) (Kd.S_far (p := ⟨gb405, 2, none⟩) (Kd.S_far (p := ⟨gb405, 1, none⟩) (Kd.S_far (p := ⟨gb405, 0, none⟩) (Kd.S_mono HO_4.out (fun k_ hk => (⟨hk, hk.2⟩ : _ ∧ k_ ≠ gb405))) (fun _ hk => hk.2) (.int .i64 t396)) (fun _ hk => hk.2) (.string t397)) (fun _ hk => hk.2) (.string t398)) (fun _ hk => hk.2) (.slice Ao136 t399.length co136)) (fun _ hk => hk.2) (.bool t402)) (fun _ h_ => h_.1))) hb); have n1_ := Aside0.mk (Kd.R_below (by (with_reducible repeat (first | apply Kd.R_alloc | apply Kd.R_drewN | apply Kd.R_drew)); exact (Kd.R_mono (Kd.R_far (p := ⟨gb405, 4, none⟩) (Kd.R_far (p := ⟨gb405, 3, none⟩) (Kd.R_far (p := ⟨gb405, 2, none⟩) (Kd.R_far (p := ⟨gb405, 1, none⟩) (Kd.R_far (p := ⟨gb405, 0, none⟩) (Kd.R_types HO401.out BK405.out (by decide)) (fun _ hk => hk.2) (.int .i64 t396)) (fun _ hk => hk.2) (.string t397)) (fun _ hk => hk.2) (.string t398)) (fun _ hk => hk.2) (.slice Ao136 t399.length co136)) (fun _ hk => hk.2) (.bool t402)) (fun _ h_ => h_.1))) hb); have n2_ := Aside0.mk (blk_below (g := gb405) (o := .cells #[.int .i64 t396, .string t397, .string t398, .slice Ao136 t399.length co136, .bool t402] 27 (0, 0)) (by (with_reducible repeat (first | refine blk_drewN ?_ _ | refine blk_drew ?_ | refine blk_alloc ?_ _)); refine blk_put (cs := #[.int .i64 t396, .string t397, .string t398, .slice Ao136 t399.length co136, .bool false]) ?_ 4 _ rfl; (with_reducible repeat (first | refine blk_drewN ?_ _ | refine blk_drew ?_ | refine blk_alloc ?_ _)); refine blk_put (cs := #[.int .i64 t396, .string t397, .string t398, .slice none 0 0, .bool false]) ?_ 3 _ rfl; (with_reducible repeat (first | refine blk_drewN ?_ _ | refine blk_drew ?_ | refine blk_alloc ?_ _)); refine blk_put (cs := #[.int .i64 t396, .string t397, .string ⟨#[]⟩, .slice none 0 0, .bool false]) ?_ 2 _ rfl; (with_reducible repeat (first | refine blk_drewN ?_ _ | refine blk_drew ?_ | refine blk_alloc ?_ _)); refine blk_put (cs := #[.int .i64 t396, .string ⟨#[]⟩, .string ⟨#[]⟩, .slice none 0 0, .bool false]) ?_ 1 _ rfl; (with_reducible repeat (first | refine blk_drewN ?_ _ | refine blk_drew ?_ | refine blk_alloc ?_ _)); refine blk_put (cs := #[.int .i64 0, .string ⟨#[]⟩, .string ⟨#[]⟩, .slice none 0 0, .bool false]) ?_ 0 _ rfl; (with_reducible repeat (first | refine blk_drewN ?_ _ | refine blk_drew ?_ | refine blk_alloc ?_ _)); exact BK405.out) hb); have n3_ := Aside0.mk (below_step (by repeat (first | (with_reducible first | exact HB.out | apply below_alloc | apply pw_below_drewN | apply below_drew1 | refine below_set ?_ GE405.out) | exact HB.out)) hb); clear HO_4; clear HO401; clear BK405; clear HB; have HO_4 := n0_; have HO401 := n1_; have BK405 := n2_; have HB := n3_; clear n0_ n1_ n2_ n3_; (try clear hb); (try clear hb2); (try clear hk); (try clear hi)))
         go_ret
         exact ⟨by first | rfl | (simp [errW_none, errW_some] <;> rfl) | (simp [*, errW_none, errW_some] <;> rfl), by repeat (first | (with_reducible first | exact HB.out | apply below_alloc | apply pw_below_drewN | apply below_drew1 | refine below_set ?_ GE405.out) | exact HB.out)⟩
        ·rw [if_neg c131] at H
         have c131b0 := beq_eq_false_iff_ne.mpr c131
         have c131b1 := bne_iff_ne.mpr c131
         by_cases c138 : t393 = 2
         ·rw [if_pos c138] at H
          have c138b0 := beq_iff_eq.mpr c138
          have c138b1 := bne_eq_false_iff_eq.mpr c138
          clear c138
          obtain rfl := Option.some.inj H
          obtain ⟨Ao139, co139, eo139⟩ := Kd.S_slice HO_4.out
          subst eo139
          go_wp2_with (first | ((with_reducible refine gate_callee (f := 15) rfl ?_); refine goesL_ (some 108) rfl rfl Tryd.func15 (by kernel_rfl) rfl #[.string t390, .int .i64 x7_1] rfl (by (try simp only [List.map_toArray, List.map_cons, List.map_nil]); first | done | rfl | (simp only [List.length_drop, List.length_take]; rfl)) ?_; (with_reducible refine (token_Next.calls k1 t390 x7_1 t396 t397 t398 t399 t402 t403 t404 _ (Env.below HE.out (by repeat (first | (with_reducible first | exact HB.out | apply below_alloc | apply pw_below_drewN | apply below_drew1) | exact HB.out))) A125.out).mono ?_); rintro e w140 ⟨v400, rfl, ho0, hb⟩; refine ⟨_, rfl, ?_⟩; have n0_ := Aside0.mk (Kd.S_elder' (by (with_reducible repeat (first | apply Kd.S_alloc | apply Kd.S_drewN | apply Kd.S_drew)); exact HO_4.out) (Kd.R_base ho0) hb); have n1_ := Aside0.mk (Kd.R_lower ho0 (below_size (by repeat (first | (with_reducible first | exact HB.out | apply below_alloc | apply pw_below_drewN | apply below_drew1) | exact HB.out)))); have n2_ := Aside0.mk (below_step (by repeat (first | (with_reducible first | exact HB.out | apply below_alloc | apply pw_below_drewN | apply below_drew1) | exact HB.out)) hb); clear HO_4; clear HB; have HO_4 := n0_; have HO401 := n1_; have HB := n2_; clear n0_ n1_ n2_; (try clear hb); (try clear hb2); (try clear hk); (try clear hi); (try clear ho0)) | ((with_reducible refine gate_dst (N := 12) rfl ?_); (try (refine gate_guard (by rfl) ?_; dsimp only)); refine box_event ?hg (N := 12) ?hd (cs := #[.int .i64 0, .string ⟨#[]⟩, .string ⟨#[]⟩, .slice none 0 0, .bool false]) (t := 27) ?hr ?_; (case hd => rfl); (case hg => rfl); (case hr => first | (go_simp; done) | (go_simp; rfl)); intro gb405 hg w141 hbox hb; have n0_ := Aside0.mk (Kd.S_below (Kd.S_elderB (by (with_reducible repeat (first | apply Kd.S_alloc | apply Kd.S_drewN | apply Kd.S_drew)); exact HO_4.out) gb405 (Nat.le_of_eq hg.symm)) hb); have n1_ := Aside0.mk (Kd.R_below (by (with_reducible repeat (first | apply Kd.R_alloc | apply Kd.R_drewN | apply Kd.R_drew)); exact HO401.out) hb); have n2_ := Aside0.mk (below_step (by repeat (first | (with_reducible first | exact HB.out | apply below_alloc | apply pw_below_drewN | apply below_drew1) | exact HB.out)) hb); have n3_ := Aside0.mk (hbox); have n4_ := Aside0.mk ((by rw [hg]; exact (below_size (by repeat (first | (with_reducible first | exact HB.out | apply below_alloc | apply pw_below_drewN | apply below_drew1) | exact HB.out))) : w.heap.size ≤ gb405)); have n5_ := Aside0.mk ((by rw [hg]; exact (below_size (by repeat (first | (with_reducible first | exact HB.out | apply below_alloc | apply pw_below_drewN | apply below_drew1) | exact HB.out))) : w.heap.size ≤ gb405)); clear HO_4; clear HO401; clear HB; have HO_4 := n0_; have HO401 := n1_; have HB := n2_; have BK405 := n3_; have GW405 := n4_; have GE405 := n5_; clear n0_ n1_ n2_ n3_ n4_ n5_; clear hb hbox hg; have hcz142_0 : w141.cell? ⟨gb405, 0, none⟩ = some (.int .i64 0) := (blk_cell BK405.out 0).trans rfl; have hcz142_1 : w141.cell? ⟨gb405, 1, none⟩ = some (.string ⟨#[]⟩) := (blk_cell BK405.out 1).trans rfl; have hcz142_2 : w141.cell? ⟨gb405, 2, none⟩ = some (.string ⟨#[]⟩) := (blk_cell BK405.out 2).trans rfl; have hcz142_3 : w141.cell? ⟨gb405, 3, none⟩ = some (.slice none 0 0) := (blk_cell BK405.out 3).trans rfl; have hcz142_4 : w141.cell? ⟨gb405, 4, none⟩ = some (.bool false) := (blk_cell BK405.out 4).trans rfl; have hfz142_0 := blk_frozen BK405.out 0; have hfz142_1 := blk_frozen BK405.out 1; have hfz142_2 := blk_frozen BK405.out 2; have hfz142_3 := blk_frozen BK405.out 3; have hfz142_4 := blk_frozen BK405.out 4; obtain ⟨Ao143, co143, eo143⟩ := Kd.R_slice HO401.out; subst eo143) | (go_at_call 14; (with_reducible refine (brackenlaw10_told.calls k1  true _ (Env.below HE.out (by repeat (first | (with_reducible first | exact HB.out | apply below_alloc | apply pw_below_drewN | apply below_drew1 | refine below_set ?_ GE405.out) | exact HB.out))) hidTrue A126.out).mono ?_); rintro e w144 ⟨rfl, hb⟩; have n0_ := Aside0.mk (Kd.S_below (by (with_reducible repeat (first | apply Kd.S_alloc | apply Kd.S_drewN | apply Kd.S_drew)); exact (Kd.S_mono (Kd.S_far (p := ⟨gb405, 4, none⟩) (Kd.S_far (p := ⟨gb405, 3, none⟩) (Kd.S_far (p := ⟨gb405, 2, none⟩) (Kd.S_far (p := ⟨gb405, 1, none⟩) (Kd.S_far (p := ⟨gb405, 0, none⟩) (Kd.S_mono HO_4.out (fun k_ hk => (⟨hk, hk.2⟩ : _ ∧ k_ ≠ gb405))) (fun _ hk => hk.2) (.int .i64 t396)) (fun _ hk => hk.2) (.string t397)) (fun _ hk => hk.2) (.string t398)) (fun _ hk => hk.2) (.slice Ao143 t399.length co143)) (fun _ hk => hk.2) (.bool t402)) (fun _ h_ => h_.1))) hb); have n1_ := Aside0.mk (Kd.R_below (by (with_reducible repeat (first | apply Kd.R_alloc | apply Kd.R_drewN | apply Kd.R_drew)); exact (Kd.R_mono (Kd.R_far (p := ⟨gb405, 4, none⟩) (Kd.R_far (p := ⟨gb405, 3, none⟩) (Kd.R_far (p := ⟨gb405, 2, none⟩) (Kd.R_far (p := ⟨gb405, 1, none⟩) (Kd.R_far (p := ⟨gb405, 0, none⟩) (Kd.R_types HO401.out BK405.out (by decide)) (fun _ hk => hk.2) (.int .i64 t396)) (fun _ hk => hk.2) (.string t397)) (fun _ hk => hk.2) (.string t398)) (fun _ hk => hk.2) (.slice Ao143 t399.length co143)) (fun _ hk => hk.2) (.bool t402)) (fun _ h_ => h_.1))) hb); have n2_ := Aside0.mk (blk_below (g := gb405) (o := .cells #[.int .i64 t396, .string t397, .string t398, .slice Ao143 t399.length co143, .bool t402] 27 (0, 0)) (by (with_reducible repeat (first | refine blk_drewN ?_ _ | refine blk_drew ?_ | refine blk_alloc ?_ _)); refine blk_put (cs := #[.int .i64 t396, .string t397, .string t398, .slice Ao143 t399.length co143, .bool false]) ?_ 4 _ rfl; (with_reducible repeat (first | refine blk_drewN ?_ _ | refine blk_drew ?_ | refine blk_alloc ?_ _)); refine blk_put (cs := #[.int .i64 t396, .string t397, .string t398, .slice none 0 0, .bool false]) ?_ 3 _ rfl; (with_reducible repeat (first | refine blk_drewN ?_ _ | refine blk_drew ?_ | refine blk_alloc ?_ _)); refine blk_put (cs := #[.int .i64 t396, .string t397, .string ⟨#[]⟩, .slice none 0 0, .bool false]) ?_ 2 _ rfl; (with_reducible repeat (first | refine blk_drewN ?_ _ | refine blk_drew ?_ | refine blk_alloc ?_ _)); refine blk_put (cs := #[.int .i64 t396, .string ⟨#[]⟩, .string ⟨#[]⟩, .slice none 0 0, .bool false]) ?_ 1 _ rfl; (with_reducible repeat (first | refine blk_drewN ?_ _ | refine blk_drew ?_ | refine blk_alloc ?_ _)); refine blk_put (cs := #[.int .i64 0, .string ⟨#[]⟩, .string ⟨#[]⟩, .slice none 0 0, .bool false]) ?_ 0 _ rfl; (with_reducible repeat (first | refine blk_drewN ?_ _ | refine blk_drew ?_ | refine blk_alloc ?_ _)); exact BK405.out) hb); have n3_ := Aside0.mk (below_step (by repeat (first | (with_reducible first | exact HB.out | apply below_alloc | apply pw_below_drewN | apply below_drew1 | refine below_set ?_ GE405.out) | exact HB.out)) hb); clear HO_4; clear HO401; clear BK405; clear HB; have HO_4 := n0_; have HO401 := n1_; have BK405 := n2_; have HB := n3_; clear n0_ n1_ n2_ n3_; (try clear hb); (try clear hb2); (try clear hk); (try clear hi)))
          go_ret
          exact ⟨by first | rfl | (simp [errW_none, errW_some] <;> rfl) | (simp [*, errW_none, errW_some] <;> rfl), by repeat (first | (with_reducible first | exact HB.out | apply below_alloc | apply pw_below_drewN | apply below_drew1 | refine below_set ?_ GE405.out) | exact HB.out)⟩
         ·rw [if_neg c138] at H
          have c138b0 := beq_eq_false_iff_ne.mpr c138
          have c138b1 := bne_iff_ne.mpr c138
          exact absurd ((Option.some.inj H).trans hTrue.out) (by decide)
       ·rw [if_neg c130] at H
        have c130b0 := beq_eq_false_iff_ne.mpr c130
        have c130b1 := bne_iff_ne.mpr c130
        by_cases c145 : t393 = 2
        ·rw [if_pos c145] at H
         have c145b0 := beq_iff_eq.mpr c145
         have c145b1 := bne_eq_false_iff_eq.mpr c145
         clear c145
         obtain rfl := Option.some.inj H
         obtain ⟨Ao146, co146, eo146⟩ := Kd.S_slice HO_4.out
         subst eo146
         go_wp2_with (first | ((with_reducible refine gate_callee (f := 15) rfl ?_); refine goesL_ (some 108) rfl rfl Tryd.func15 (by kernel_rfl) rfl #[.string t390, .int .i64 x7_1] rfl (by (try simp only [List.map_toArray, List.map_cons, List.map_nil]); first | done | rfl | (simp only [List.length_drop, List.length_take]; rfl)) ?_; (with_reducible refine (token_Next.calls k1 t390 x7_1 t396 t397 t398 t399 t402 t403 t404 _ (Env.below HE.out (by repeat (first | (with_reducible first | exact HB.out | apply below_alloc | apply pw_below_drewN | apply below_drew1) | exact HB.out))) A125.out).mono ?_); rintro e w147 ⟨v400, rfl, ho0, hb⟩; refine ⟨_, rfl, ?_⟩; have n0_ := Aside0.mk (Kd.S_elder' (by (with_reducible repeat (first | apply Kd.S_alloc | apply Kd.S_drewN | apply Kd.S_drew)); exact HO_4.out) (Kd.R_base ho0) hb); have n1_ := Aside0.mk (Kd.R_lower ho0 (below_size (by repeat (first | (with_reducible first | exact HB.out | apply below_alloc | apply pw_below_drewN | apply below_drew1) | exact HB.out)))); have n2_ := Aside0.mk (below_step (by repeat (first | (with_reducible first | exact HB.out | apply below_alloc | apply pw_below_drewN | apply below_drew1) | exact HB.out)) hb); clear HO_4; clear HB; have HO_4 := n0_; have HO401 := n1_; have HB := n2_; clear n0_ n1_ n2_; (try clear hb); (try clear hb2); (try clear hk); (try clear hi); (try clear ho0)) | ((with_reducible refine gate_dst (N := 12) rfl ?_); (try (refine gate_guard (by rfl) ?_; dsimp only)); refine box_event ?hg (N := 12) ?hd (cs := #[.int .i64 0, .string ⟨#[]⟩, .string ⟨#[]⟩, .slice none 0 0, .bool false]) (t := 27) ?hr ?_; (case hd => rfl); (case hg => rfl); (case hr => first | (go_simp; done) | (go_simp; rfl)); intro gb405 hg w148 hbox hb; have n0_ := Aside0.mk (Kd.S_below (Kd.S_elderB (by (with_reducible repeat (first | apply Kd.S_alloc | apply Kd.S_drewN | apply Kd.S_drew)); exact HO_4.out) gb405 (Nat.le_of_eq hg.symm)) hb); have n1_ := Aside0.mk (Kd.R_below (by (with_reducible repeat (first | apply Kd.R_alloc | apply Kd.R_drewN | apply Kd.R_drew)); exact HO401.out) hb); have n2_ := Aside0.mk (below_step (by repeat (first | (with_reducible first | exact HB.out | apply below_alloc | apply pw_below_drewN | apply below_drew1) | exact HB.out)) hb); have n3_ := Aside0.mk (hbox); have n4_ := Aside0.mk ((by rw [hg]; exact (below_size (by repeat (first | (with_reducible first | exact HB.out | apply below_alloc | apply pw_below_drewN | apply below_drew1) | exact HB.out))) : w.heap.size ≤ gb405)); have n5_ := Aside0.mk ((by rw [hg]; exact (below_size (by repeat (first | (with_reducible first | exact HB.out | apply below_alloc | apply pw_below_drewN | apply below_drew1) | exact HB.out))) : w.heap.size ≤ gb405)); clear HO_4; clear HO401; clear HB; have HO_4 := n0_; have HO401 := n1_; have HB := n2_; have BK405 := n3_; have GW405 := n4_; have GE405 := n5_; clear n0_ n1_ n2_ n3_ n4_ n5_; clear hb hbox hg; have hcz149_0 : w148.cell? ⟨gb405, 0, none⟩ = some (.int .i64 0) := (blk_cell BK405.out 0).trans rfl; have hcz149_1 : w148.cell? ⟨gb405, 1, none⟩ = some (.string ⟨#[]⟩) := (blk_cell BK405.out 1).trans rfl; have hcz149_2 : w148.cell? ⟨gb405, 2, none⟩ = some (.string ⟨#[]⟩) := (blk_cell BK405.out 2).trans rfl; have hcz149_3 : w148.cell? ⟨gb405, 3, none⟩ = some (.slice none 0 0) := (blk_cell BK405.out 3).trans rfl; have hcz149_4 : w148.cell? ⟨gb405, 4, none⟩ = some (.bool false) := (blk_cell BK405.out 4).trans rfl; have hfz149_0 := blk_frozen BK405.out 0; have hfz149_1 := blk_frozen BK405.out 1; have hfz149_2 := blk_frozen BK405.out 2; have hfz149_3 := blk_frozen BK405.out 3; have hfz149_4 := blk_frozen BK405.out 4; obtain ⟨Ao150, co150, eo150⟩ := Kd.R_slice HO401.out; subst eo150) | (go_at_call 14; (with_reducible refine (brackenlaw10_told.calls k1  true _ (Env.below HE.out (by repeat (first | (with_reducible first | exact HB.out | apply below_alloc | apply pw_below_drewN | apply below_drew1 | refine below_set ?_ GE405.out) | exact HB.out))) hidTrue A126.out).mono ?_); rintro e w151 ⟨rfl, hb⟩; have n0_ := Aside0.mk (Kd.S_below (by (with_reducible repeat (first | apply Kd.S_alloc | apply Kd.S_drewN | apply Kd.S_drew)); exact (Kd.S_mono (Kd.S_far (p := ⟨gb405, 4, none⟩) (Kd.S_far (p := ⟨gb405, 3, none⟩) (Kd.S_far (p := ⟨gb405, 2, none⟩) (Kd.S_far (p := ⟨gb405, 1, none⟩) (Kd.S_far (p := ⟨gb405, 0, none⟩) (Kd.S_mono HO_4.out (fun k_ hk => (⟨hk, hk.2⟩ : _ ∧ k_ ≠ gb405))) (fun _ hk => hk.2) (.int .i64 t396)) (fun _ hk => hk.2) (.string t397)) (fun _ hk => hk.2) (.string t398)) (fun _ hk => hk.2) (.slice Ao150 t399.length co150)) (fun _ hk => hk.2) (.bool t402)) (fun _ h_ => h_.1))) hb); have n1_ := Aside0.mk (Kd.R_below (by (with_reducible repeat (first | apply Kd.R_alloc | apply Kd.R_drewN | apply Kd.R_drew)); exact (Kd.R_mono (Kd.R_far (p := ⟨gb405, 4, none⟩) (Kd.R_far (p := ⟨gb405, 3, none⟩) (Kd.R_far (p := ⟨gb405, 2, none⟩) (Kd.R_far (p := ⟨gb405, 1, none⟩) (Kd.R_far (p := ⟨gb405, 0, none⟩) (Kd.R_types HO401.out BK405.out (by decide)) (fun _ hk => hk.2) (.int .i64 t396)) (fun _ hk => hk.2) (.string t397)) (fun _ hk => hk.2) (.string t398)) (fun _ hk => hk.2) (.slice Ao150 t399.length co150)) (fun _ hk => hk.2) (.bool t402)) (fun _ h_ => h_.1))) hb); have n2_ := Aside0.mk (blk_below (g := gb405) (o := .cells #[.int .i64 t396, .string t397, .string t398, .slice Ao150 t399.length co150, .bool t402] 27 (0, 0)) (by (with_reducible repeat (first | refine blk_drewN ?_ _ | refine blk_drew ?_ | refine blk_alloc ?_ _)); refine blk_put (cs := #[.int .i64 t396, .string t397, .string t398, .slice Ao150 t399.length co150, .bool false]) ?_ 4 _ rfl; (with_reducible repeat (first | refine blk_drewN ?_ _ | refine blk_drew ?_ | refine blk_alloc ?_ _)); refine blk_put (cs := #[.int .i64 t396, .string t397, .string t398, .slice none 0 0, .bool false]) ?_ 3 _ rfl; (with_reducible repeat (first | refine blk_drewN ?_ _ | refine blk_drew ?_ | refine blk_alloc ?_ _)); refine blk_put (cs := #[.int .i64 t396, .string t397, .string ⟨#[]⟩, .slice none 0 0, .bool false]) ?_ 2 _ rfl; (with_reducible repeat (first | refine blk_drewN ?_ _ | refine blk_drew ?_ | refine blk_alloc ?_ _)); refine blk_put (cs := #[.int .i64 t396, .string ⟨#[]⟩, .string ⟨#[]⟩, .slice none 0 0, .bool false]) ?_ 1 _ rfl; (with_reducible repeat (first | refine blk_drewN ?_ _ | refine blk_drew ?_ | refine blk_alloc ?_ _)); refine blk_put (cs := #[.int .i64 0, .string ⟨#[]⟩, .string ⟨#[]⟩, .slice none 0 0, .bool false]) ?_ 0 _ rfl; (with_reducible repeat (first | refine blk_drewN ?_ _ | refine blk_drew ?_ | refine blk_alloc ?_ _)); exact BK405.out) hb); have n3_ := Aside0.mk (below_step (by repeat (first | (with_reducible first | exact HB.out | apply below_alloc | apply pw_below_drewN | apply below_drew1 | refine below_set ?_ GE405.out) | exact HB.out)) hb); clear HO_4; clear HO401; clear BK405; clear HB; have HO_4 := n0_; have HO401 := n1_; have BK405 := n2_; have HB := n3_; clear n0_ n1_ n2_ n3_; (try clear hb); (try clear hb2); (try clear hk); (try clear hi)))
         go_ret
         exact ⟨by first | rfl | (simp [errW_none, errW_some] <;> rfl) | (simp [*, errW_none, errW_some] <;> rfl), by repeat (first | (with_reducible first | exact HB.out | apply below_alloc | apply pw_below_drewN | apply below_drew1 | refine below_set ?_ GE405.out) | exact HB.out)⟩
        ·rw [if_neg c145] at H
         have c145b0 := beq_eq_false_iff_ne.mpr c145
         have c145b1 := bne_iff_ne.mpr c145
         exact absurd ((Option.some.inj H).trans hTrue.out) (by decide)
      ·rw [if_neg c129] at H
       have c129b0 := beq_eq_false_iff_ne.mpr c129
       have c129b1 := bne_iff_ne.mpr c129
       by_cases c152 : t393 = 2
       ·rw [if_pos c152] at H
        have c152b0 := beq_iff_eq.mpr c152
        have c152b1 := bne_eq_false_iff_eq.mpr c152
        clear c152
        obtain rfl := Option.some.inj H
        obtain ⟨Ao153, co153, eo153⟩ := Kd.S_slice HO_4.out
        subst eo153
        go_wp2_with (first | ((with_reducible refine gate_callee (f := 15) rfl ?_); refine goesL_ (some 108) rfl rfl Tryd.func15 (by kernel_rfl) rfl #[.string t390, .int .i64 x7_1] rfl (by (try simp only [List.map_toArray, List.map_cons, List.map_nil]); first | done | rfl | (simp only [List.length_drop, List.length_take]; rfl)) ?_; (with_reducible refine (token_Next.calls k1 t390 x7_1 t396 t397 t398 t399 t402 t403 t404 _ (Env.below HE.out (by repeat (first | (with_reducible first | exact HB.out | apply below_alloc | apply pw_below_drewN | apply below_drew1) | exact HB.out))) A125.out).mono ?_); rintro e w154 ⟨v400, rfl, ho0, hb⟩; refine ⟨_, rfl, ?_⟩; have n0_ := Aside0.mk (Kd.S_elder' (by (with_reducible repeat (first | apply Kd.S_alloc | apply Kd.S_drewN | apply Kd.S_drew)); exact HO_4.out) (Kd.R_base ho0) hb); have n1_ := Aside0.mk (Kd.R_lower ho0 (below_size (by repeat (first | (with_reducible first | exact HB.out | apply below_alloc | apply pw_below_drewN | apply below_drew1) | exact HB.out)))); have n2_ := Aside0.mk (below_step (by repeat (first | (with_reducible first | exact HB.out | apply below_alloc | apply pw_below_drewN | apply below_drew1) | exact HB.out)) hb); clear HO_4; clear HB; have HO_4 := n0_; have HO401 := n1_; have HB := n2_; clear n0_ n1_ n2_; (try clear hb); (try clear hb2); (try clear hk); (try clear hi); (try clear ho0)) | ((with_reducible refine gate_dst (N := 12) rfl ?_); (try (refine gate_guard (by rfl) ?_; dsimp only)); refine box_event ?hg (N := 12) ?hd (cs := #[.int .i64 0, .string ⟨#[]⟩, .string ⟨#[]⟩, .slice none 0 0, .bool false]) (t := 27) ?hr ?_; (case hd => rfl); (case hg => rfl); (case hr => first | (go_simp; done) | (go_simp; rfl)); intro gb405 hg w155 hbox hb; have n0_ := Aside0.mk (Kd.S_below (Kd.S_elderB (by (with_reducible repeat (first | apply Kd.S_alloc | apply Kd.S_drewN | apply Kd.S_drew)); exact HO_4.out) gb405 (Nat.le_of_eq hg.symm)) hb); have n1_ := Aside0.mk (Kd.R_below (by (with_reducible repeat (first | apply Kd.R_alloc | apply Kd.R_drewN | apply Kd.R_drew)); exact HO401.out) hb); have n2_ := Aside0.mk (below_step (by repeat (first | (with_reducible first | exact HB.out | apply below_alloc | apply pw_below_drewN | apply below_drew1) | exact HB.out)) hb); have n3_ := Aside0.mk (hbox); have n4_ := Aside0.mk ((by rw [hg]; exact (below_size (by repeat (first | (with_reducible first | exact HB.out | apply below_alloc | apply pw_below_drewN | apply below_drew1) | exact HB.out))) : w.heap.size ≤ gb405)); have n5_ := Aside0.mk ((by rw [hg]; exact (below_size (by repeat (first | (with_reducible first | exact HB.out | apply below_alloc | apply pw_below_drewN | apply below_drew1) | exact HB.out))) : w.heap.size ≤ gb405)); clear HO_4; clear HO401; clear HB; have HO_4 := n0_; have HO401 := n1_; have HB := n2_; have BK405 := n3_; have GW405 := n4_; have GE405 := n5_; clear n0_ n1_ n2_ n3_ n4_ n5_; clear hb hbox hg; have hcz156_0 : w155.cell? ⟨gb405, 0, none⟩ = some (.int .i64 0) := (blk_cell BK405.out 0).trans rfl; have hcz156_1 : w155.cell? ⟨gb405, 1, none⟩ = some (.string ⟨#[]⟩) := (blk_cell BK405.out 1).trans rfl; have hcz156_2 : w155.cell? ⟨gb405, 2, none⟩ = some (.string ⟨#[]⟩) := (blk_cell BK405.out 2).trans rfl; have hcz156_3 : w155.cell? ⟨gb405, 3, none⟩ = some (.slice none 0 0) := (blk_cell BK405.out 3).trans rfl; have hcz156_4 : w155.cell? ⟨gb405, 4, none⟩ = some (.bool false) := (blk_cell BK405.out 4).trans rfl; have hfz156_0 := blk_frozen BK405.out 0; have hfz156_1 := blk_frozen BK405.out 1; have hfz156_2 := blk_frozen BK405.out 2; have hfz156_3 := blk_frozen BK405.out 3; have hfz156_4 := blk_frozen BK405.out 4; obtain ⟨Ao157, co157, eo157⟩ := Kd.R_slice HO401.out; subst eo157) | (go_at_call 14; (with_reducible refine (brackenlaw10_told.calls k1  true _ (Env.below HE.out (by repeat (first | (with_reducible first | exact HB.out | apply below_alloc | apply pw_below_drewN | apply below_drew1 | refine below_set ?_ GE405.out) | exact HB.out))) hidTrue A126.out).mono ?_); rintro e w158 ⟨rfl, hb⟩; have n0_ := Aside0.mk (Kd.S_below (by (with_reducible repeat (first | apply Kd.S_alloc | apply Kd.S_drewN | apply Kd.S_drew)); exact (Kd.S_mono (Kd.S_far (p := ⟨gb405, 4, none⟩) (Kd.S_far (p := ⟨gb405, 3, none⟩) (Kd.S_far (p := ⟨gb405, 2, none⟩) (Kd.S_far (p := ⟨gb405, 1, none⟩) (Kd.S_far (p := ⟨gb405, 0, none⟩) (Kd.S_mono HO_4.out (fun k_ hk => (⟨hk, hk.2⟩ : _ ∧ k_ ≠ gb405))) (fun _ hk => hk.2) (.int .i64 t396)) (fun _ hk => hk.2) (.string t397)) (fun _ hk => hk.2) (.string t398)) (fun _ hk => hk.2) (.slice Ao157 t399.length co157)) (fun _ hk => hk.2) (.bool t402)) (fun _ h_ => h_.1))) hb); have n1_ := Aside0.mk (Kd.R_below (by (with_reducible repeat (first | apply Kd.R_alloc | apply Kd.R_drewN | apply Kd.R_drew)); exact (Kd.R_mono (Kd.R_far (p := ⟨gb405, 4, none⟩) (Kd.R_far (p := ⟨gb405, 3, none⟩) (Kd.R_far (p := ⟨gb405, 2, none⟩) (Kd.R_far (p := ⟨gb405, 1, none⟩) (Kd.R_far (p := ⟨gb405, 0, none⟩) (Kd.R_types HO401.out BK405.out (by decide)) (fun _ hk => hk.2) (.int .i64 t396)) (fun _ hk => hk.2) (.string t397)) (fun _ hk => hk.2) (.string t398)) (fun _ hk => hk.2) (.slice Ao157 t399.length co157)) (fun _ hk => hk.2) (.bool t402)) (fun _ h_ => h_.1))) hb); have n2_ := Aside0.mk (blk_below (g := gb405) (o := .cells #[.int .i64 t396, .string t397, .string t398, .slice Ao157 t399.length co157, .bool t402] 27 (0, 0)) (by (with_reducible repeat (first | refine blk_drewN ?_ _ | refine blk_drew ?_ | refine blk_alloc ?_ _)); refine blk_put (cs := #[.int .i64 t396, .string t397, .string t398, .slice Ao157 t399.length co157, .bool false]) ?_ 4 _ rfl; (with_reducible repeat (first | refine blk_drewN ?_ _ | refine blk_drew ?_ | refine blk_alloc ?_ _)); refine blk_put (cs := #[.int .i64 t396, .string t397, .string t398, .slice none 0 0, .bool false]) ?_ 3 _ rfl; (with_reducible repeat (first | refine blk_drewN ?_ _ | refine blk_drew ?_ | refine blk_alloc ?_ _)); refine blk_put (cs := #[.int .i64 t396, .string t397, .string ⟨#[]⟩, .slice none 0 0, .bool false]) ?_ 2 _ rfl; (with_reducible repeat (first | refine blk_drewN ?_ _ | refine blk_drew ?_ | refine blk_alloc ?_ _)); refine blk_put (cs := #[.int .i64 t396, .string ⟨#[]⟩, .string ⟨#[]⟩, .slice none 0 0, .bool false]) ?_ 1 _ rfl; (with_reducible repeat (first | refine blk_drewN ?_ _ | refine blk_drew ?_ | refine blk_alloc ?_ _)); refine blk_put (cs := #[.int .i64 0, .string ⟨#[]⟩, .string ⟨#[]⟩, .slice none 0 0, .bool false]) ?_ 0 _ rfl; (with_reducible repeat (first | refine blk_drewN ?_ _ | refine blk_drew ?_ | refine blk_alloc ?_ _)); exact BK405.out) hb); have n3_ := Aside0.mk (below_step (by repeat (first | (with_reducible first | exact HB.out | apply below_alloc | apply pw_below_drewN | apply below_drew1 | refine below_set ?_ GE405.out) | exact HB.out)) hb); clear HO_4; clear HO401; clear BK405; clear HB; have HO_4 := n0_; have HO401 := n1_; have BK405 := n2_; have HB := n3_; clear n0_ n1_ n2_ n3_; (try clear hb); (try clear hb2); (try clear hk); (try clear hi)))
        go_ret
        exact ⟨by first | rfl | (simp [errW_none, errW_some] <;> rfl) | (simp [*, errW_none, errW_some] <;> rfl), by repeat (first | (with_reducible first | exact HB.out | apply below_alloc | apply pw_below_drewN | apply below_drew1 | refine below_set ?_ GE405.out) | exact HB.out)⟩
       ·rw [if_neg c152] at H
        have c152b0 := beq_eq_false_iff_ne.mpr c152
        have c152b1 := bne_iff_ne.mpr c152
        exact absurd ((Option.some.inj H).trans hTrue.out) (by decide)
     ·rw [if_neg c128] at H
      have c128b0 := beq_eq_false_iff_ne.mpr c128
      have c128b1 := bne_iff_ne.mpr c128
      exact absurd ((Option.some.inj H).trans hTrue.out) (by decide)
    ·replace c127 := Bool.eq_false_iff.mpr c127
     subst c127
     rw [if_neg (show ¬ (false = true) by decide)] at H
     try dsimp only at H
     exact absurd ((Option.some.inj H).trans hTrue.out) (by decide)

/-- THE ONE PURE STATEMENT of brackenlaw10_TokenRows: yours. -/
def brackenlaw10_TokenRows.Pure : Prop := ∀ (l0 : List Int), l0.length ≤ maxLen → l0.length * 8 ≤ 140737488351232 → (∀ x ∈ l0, (Lit.int .i64 x).wf = true) → ∃ k, brackenlaw10_TokenRows.f k l0 = some true
theorem brackenlaw10_TokenRows.walk (P : brackenlaw10_TokenRows.Pure) (a0 : Option Addr) (len0 cap0 : Nat) (z0 : List Int) (w : World) (hE : Env w) (w0 : (a0 = none ∧ len0 = 0 ∧ cap0 = 0 ∧ z0 = []) ∨ ∃ x, a0 = some x ∧ len0 ≤ cap0 ∧ cap0 ≤ maxLen ∧ z0.length = cap0 ∧ (∀ i, i < z0.length → w.cell? (x.add i) = some (.int .i64 (z0.getD i 0))) ∧ ∀ n ∈ z0, (Lit.int .i64 n).wf = true) (y0 : len0 * 8 ≤ 140737488351232) :
  Calls Tryd.prog 5 #[.slice a0 len0 cap0] w fun e w' => e = .returned (.bool true) ∧ Below w.heap.size w w' := by
 obtain ⟨l0, rfl, hr0, hm0, hw0, hc0⟩ := ReadsInt.ofRowC w0
 obtain ⟨k, h⟩ := P l0 hm0 y0 hw0
 refine (brackenlaw10_TokenRows.calls k _ _ l0 true w hE hidTrue (Kd.C_of_reads (d := (0 : Int)) (h1 := fun _ => rfl) hr0) hc0 h).mono ?_
 rintro e w' ⟨rfl, hd⟩
 exact ⟨rfl, hd⟩

end Go.Proofs.YtmjdjpelhhibgaaDoor.R1
