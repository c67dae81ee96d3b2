-- written by wip/gen.py (this session's own driver of the kit's printer); Lean checks it
import Derived.Test.YtmjdjpelhhibgaaDoorR1x0
import Derived.Test.YtmjdjpelhhibgaaDoorR1x8
import Derived.Test.YtmjdjpelhhibgaaDoorR1x10
namespace Go.Proofs.YtmjdjpelhhibgaaDoor.R1
open Go.Proofs.YtmjdjpelhhibgaaDoor.Giv
open Go.RowKit Go.Proofs.YtmjdjpelhhibgaaDoorW.PrintWords Go.Proofs.YtmjdjpelhhibgaaDoorW.PrintLast Go.Proofs.YtmjdjpelhhibgaaDoorW.PrintMore
attribute [local go_sem] max2_int min2_int max_two min_two max_three min_three max_four min_four   -- for this text's walks alone
set_option linter.unusedVariables false
set_option linter.unusedSimpArgs false

/-! ### brackenlaw10_TokenAttrs: function 6 -/
mutual
def brackenlaw10_TokenAttrs.l0 : Nat → Int → Int → ByteArray → Int → Option (Bool)
 | 0, _, _, _, _ => none
 | k + 1, x0, x1, x2, x7 => if x7 < (x2.size : Int) then (if 0 ≤ x7 then (if (bt x2 x7) = 39 then ((brackenlaw10_told.f k).bind fun t420 => (some t420)) else (if (bt x2 x7) = 34 then ((brackenlaw10_told.f k).bind fun t421 => (some t421)) else (if (bt x2 x7) = 60 then ((brackenlaw10_told.f k).bind fun t422 => (some t422)) else (brackenlaw10_TokenAttrs.l0 k x0 x1 x2 (wrap64 (x7 + 1)))))) else (none)) else ((some (([(⟨#[32]⟩ : ByteArray), (⟨#[10, 32]⟩ : ByteArray), (⟨#[32, 32]⟩ : ByteArray)] : List ByteArray) : List ByteArray)).bind fun y423 => (if 0 ≤ (Int.tmod (IntKind.u64.wrap (x1)) 3) then (if (Int.tmod (IntKind.u64.wrap (x1)) 3) < (y423.length : Int) then ((some (([(⟨#[61]⟩ : ByteArray), (⟨#[32, 61, 32]⟩ : ByteArray), (⟨#[61, 9]⟩ : ByteArray)] : List ByteArray) : List ByteArray)).bind fun y427 => (if 0 ≤ (Int.tmod (IntKind.u64.wrap (Int.tdiv (IntKind.u64.wrap (x1)) 3)) 3) then (if (Int.tmod (IntKind.u64.wrap (Int.tdiv (IntKind.u64.wrap (x1)) 3)) 3) < (y427.length : Int) then ((some (([(⟨#[39]⟩ : ByteArray), (⟨#[34]⟩ : ByteArray)] : List ByteArray) : List ByteArray)).bind fun y431 => (if 0 ≤ (Int.tmod (IntKind.u64.wrap (Int.tdiv (IntKind.u64.wrap (x1)) 9)) 2) then (if (Int.tmod (IntKind.u64.wrap (Int.tdiv (IntKind.u64.wrap (x1)) 9)) 2) < (y431.length : Int) then (brackenlaw10_TokenAttrs.l1 k x2 (wrap64 (Int.tmod (IntKind.u64.wrap (x0)) 9)) (IntKind.u64.wrap (x1)) (rdOf ByteArray.empty y423 (Int.tmod (IntKind.u64.wrap (x1)) 3)) (rdOf ByteArray.empty y427 (Int.tmod (IntKind.u64.wrap (Int.tdiv (IntKind.u64.wrap (x1)) 3)) 3)) (rdOf ByteArray.empty y431 (Int.tmod (IntKind.u64.wrap (Int.tdiv (IntKind.u64.wrap (x1)) 9)) 2)) (⟨#[60, 112, 58, 97]⟩ : ByteArray) 0) else (none)) else (none))) else (none)) else (none))) else (none)) else (none)))
def brackenlaw10_TokenAttrs.l1 : Nat → ByteArray → Int → Int → ByteArray → ByteArray → ByteArray → ByteArray → Int → Option (Bool)
 | 0, _, _, _, _, _, _, _, _ => none
 | k + 1, x2, x8, x9, x10, x11, x12, x13, x14 => if x14 < x8 then (if x13.size + x10.size ≤ 9223372036854775807 then (if x13.size + x10.size + 1 ≤ 9223372036854775807 then (if 0 ≤ x14 then (if x14 ≤ (wrap64 (x14 + 1)) then (if (wrap64 (x14 + 1)) ≤ 8 then (if x13.size + x10.size + 1 + ((⟨#[97, 98, 99, 100, 101, 102, 103, 104]⟩ : ByteArray).extract (x14 : Int).toNat ((wrap64 (x14 + 1)) : Int).toNat).size ≤ 9223372036854775807 then (if x13.size + x10.size + 1 + (((⟨#[97, 98, 99, 100, 101, 102, 103, 104]⟩ : ByteArray).extract (x14 : Int).toNat ((wrap64 (x14 + 1)) : Int).toNat).size) + x11.size ≤ 9223372036854775807 then (if x13.size + x10.size + 1 + (((⟨#[97, 98, 99, 100, 101, 102, 103, 104]⟩ : ByteArray).extract (x14 : Int).toNat ((wrap64 (x14 + 1)) : Int).toNat).size) + x11.size + x12.size ≤ 9223372036854775807 then (if x13.size + x10.size + 1 + (((⟨#[97, 98, 99, 100, 101, 102, 103, 104]⟩ : ByteArray).extract (x14 : Int).toNat ((wrap64 (x14 + 1)) : Int).toNat).size) + x11.size + x12.size + x2.size ≤ 9223372036854775807 then (if x13.size + x10.size + 1 + (((⟨#[97, 98, 99, 100, 101, 102, 103, 104]⟩ : ByteArray).extract (x14 : Int).toNat ((wrap64 (x14 + 1)) : Int).toNat).size) + x11.size + x12.size + x2.size + x12.size ≤ 9223372036854775807 then (brackenlaw10_TokenAttrs.l1 k x2 x8 x9 x10 x11 x12 (((((((x13 ++ x10) ++ (⟨#[120]⟩ : ByteArray)) ++ ((⟨#[97, 98, 99, 100, 101, 102, 103, 104]⟩ : ByteArray).extract (x14 : Int).toNat ((wrap64 (x14 + 1)) : Int).toNat)) ++ x11) ++ x12) ++ x2) ++ x12) (wrap64 (x14 + 1))) else (none)) else (none)) else (none)) else (none)) else (none)) else (none)) else (none)) else (none)) else (none)) else (none)) else (if x10.size + 1 ≤ 9223372036854775807 then (if x10.size + 2 ≤ 9223372036854775807 then ((some (([(⟨#[62]⟩ : ByteArray), (⟨#[47, 62]⟩ : ByteArray), x10 ++ (⟨#[62]⟩ : ByteArray), x10 ++ (⟨#[47, 62]⟩ : ByteArray)] : List ByteArray) : List ByteArray)).bind fun y435 => (if 0 ≤ (Int.tmod (IntKind.u64.wrap (Int.tdiv x9 18)) 4) then (if (Int.tmod (IntKind.u64.wrap (Int.tdiv x9 18)) 4) < (y435.length : Int) then (if x13.size + (rdOf ByteArray.empty y435 (Int.tmod (IntKind.u64.wrap (Int.tdiv x9 18)) 4)).size ≤ 9223372036854775807 then (if x13.size + (rdOf ByteArray.empty y435 (Int.tmod (IntKind.u64.wrap (Int.tdiv x9 18)) 4)).size + 4 ≤ 9223372036854775807 then ((token_Next.f k ((x13 ++ (rdOf ByteArray.empty y435 (Int.tmod (IntKind.u64.wrap (Int.tdiv x9 18)) 4))) ++ (⟨#[114, 101, 115, 116]⟩ : ByteArray)) 0).bind fun bt439 => (if bt439.2.2.2.2.2.2 = 0 then (if bt439.2.2.2.2.2.1 = ((x13 ++ (rdOf ByteArray.empty y435 (Int.tmod (IntKind.u64.wrap (Int.tdiv x9 18)) 4))).size : Int) then (if bt439.1 = 2 then (if bt439.2.1.toList = ([112, 58, 97] : List UInt8) then (if (bt439.2.2.2.2.1 != ((Int.tmod (IntKind.u64.wrap (Int.tdiv x9 18)) 2) == 1)) = true then (brackenlaw10_TokenAttrs.j2 k x2 x8 true bt439.1 bt439.2.1 bt439.2.2.1 bt439.2.2.2.1 bt439.2.2.2.2.1) else (brackenlaw10_TokenAttrs.j2 k x2 x8 ((bt439.2.2.2.1.length : Int) != x8) bt439.1 bt439.2.1 bt439.2.2.1 bt439.2.2.2.1 bt439.2.2.2.2.1)) else (brackenlaw10_TokenAttrs.j2 k x2 x8 true bt439.1 bt439.2.1 bt439.2.2.1 bt439.2.2.2.1 bt439.2.2.2.2.1)) else (brackenlaw10_TokenAttrs.j2 k x2 x8 true bt439.1 bt439.2.1 bt439.2.2.1 bt439.2.2.2.1 bt439.2.2.2.2.1)) else (brackenlaw10_TokenAttrs.j2 k x2 x8 true bt439.1 bt439.2.1 bt439.2.2.1 bt439.2.2.2.1 bt439.2.2.2.2.1)) else (brackenlaw10_TokenAttrs.j2 k x2 x8 true bt439.1 bt439.2.1 bt439.2.2.1 bt439.2.2.2.1 bt439.2.2.2.2.1))) else (none)) else (none)) else (none)) else (none))) else (none)) else (none))
def brackenlaw10_TokenAttrs.j2 : Nat → ByteArray → Int → Bool → Int → ByteArray → ByteArray → List (S42) → Bool → Option (Bool)
 | 0, _, _, _, _, _, _, _, _ => none
 | k + 1, x2, x8, x146, x449000, x449001, x449002, x449003, x449004 => if x146 = true then (some false) else (brackenlaw10_TokenAttrs.l2 k x2 x8 0 x449000 x449001 x449002 x449003 x449004)
def brackenlaw10_TokenAttrs.l2 : Nat → ByteArray → Int → Int → Int → ByteArray → ByteArray → List (S42) → Bool → Option (Bool)
 | 0, _, _, _, _, _, _, _, _ => none
 | k + 1, x2, x8, x19, x449000, x449001, x449002, x449003, x449004 => if x19 < x8 then (if 0 ≤ x19 then (if x19 < (x449003.length : Int) then (if x19 ≤ (wrap64 (x19 + 1)) then (if (wrap64 (x19 + 1)) ≤ 8 then (if 1 + ((⟨#[97, 98, 99, 100, 101, 102, 103, 104]⟩ : ByteArray).extract (x19 : Int).toNat ((wrap64 (x19 + 1)) : Int).toNat).size ≤ 9223372036854775807 then (if ((rd_T42 x449003 x19).f0).toList = ((⟨#[120]⟩ : ByteArray) ++ ((⟨#[97, 98, 99, 100, 101, 102, 103, 104]⟩ : ByteArray).extract (x19 : Int).toNat ((wrap64 (x19 + 1)) : Int).toNat)).toList then (if ((rd_T42 x449003 x19).f1).toList = x2.toList then (brackenlaw10_TokenAttrs.l2 k x2 x8 (wrap64 (x19 + 1)) x449000 x449001 x449002 x449003 x449004) else (some false)) else (some false)) else (none)) else (none)) else (none)) else (none)) else (none)) else ((brackenlaw10_told.f k).bind fun t451 => (some t451))
end
def brackenlaw10_TokenAttrs.f (k : Nat) (a0 : Int) (a1 : Int) (a2 : ByteArray) : Option (Bool) := if (a2.size : Int) > 20 then ((brackenlaw10_told.f k).bind fun t419 => (some t419)) else (brackenlaw10_TokenAttrs.l0 k a0 a1 a2 0)
theorem brackenlaw10_TokenAttrs.mono_l : ∀ k, (∀ y0 y1 y2 y3, LeO (brackenlaw10_TokenAttrs.l0 k y0 y1 y2 y3) (brackenlaw10_TokenAttrs.l0 (k + 1) y0 y1 y2 y3)) ∧ (∀ y0 y1 y2 y3 y4 y5 y6 y7, LeO (brackenlaw10_TokenAttrs.l1 k y0 y1 y2 y3 y4 y5 y6 y7) (brackenlaw10_TokenAttrs.l1 (k + 1) y0 y1 y2 y3 y4 y5 y6 y7)) ∧ (∀ y0 y1 y2 y3 y4 y5 y6 y7, LeO (brackenlaw10_TokenAttrs.j2 k y0 y1 y2 y3 y4 y5 y6 y7) (brackenlaw10_TokenAttrs.j2 (k + 1) y0 y1 y2 y3 y4 y5 y6 y7)) ∧ (∀ y0 y1 y2 y3 y4 y5 y6 y7, LeO (brackenlaw10_TokenAttrs.l2 k y0 y1 y2 y3 y4 y5 y6 y7) (brackenlaw10_TokenAttrs.l2 (k + 1) y0 y1 y2 y3 y4 y5 y6 y7))
 | 0 => ⟨fun _ _ _ _ r h => by simp [brackenlaw10_TokenAttrs.l0] at h, fun _ _ _ _ _ _ _ _ r h => by simp [brackenlaw10_TokenAttrs.l1] at h, fun _ _ _ _ _ _ _ _ r h => by simp [brackenlaw10_TokenAttrs.j2] at h, fun _ _ _ _ _ _ _ _ r h => by simp [brackenlaw10_TokenAttrs.l2] at h⟩
 | k + 1 => by
  obtain ⟨ih0, ih1, ih2, ih3⟩ := brackenlaw10_TokenAttrs.mono_l k
  refine ⟨?_, ?_, ?_, ?_⟩
  ·intro y0 y1 y2 y3
   unfold brackenlaw10_TokenAttrs.l0
   repeat' first
   | (with_reducible exact ih0 _ _ _ _)
   | (with_reducible exact ih1 _ _ _ _ _ _ _ _)
   | (with_reducible exact ih2 _ _ _ _ _ _ _ _)
   | (with_reducible exact ih3 _ _ _ _ _ _ _ _)
   | (with_reducible exact brackenlaw10_told.mono _)
   | (with_reducible exact token_Next.mono _ _ _)
   | (with_reducible exact LeO.refl _)
   | (with_reducible exact LeO.none _)
   | (with_reducible refine LeO.ite ?_ ?_)
   | (with_reducible refine LeO.bind ?_ (fun _ => ?_))
   | exact ih0 _ _ _ _
   | exact ih1 _ _ _ _ _ _ _ _
   | exact ih2 _ _ _ _ _ _ _ _
   | exact ih3 _ _ _ _ _ _ _ _
   | exact brackenlaw10_told.mono _
   | exact token_Next.mono _ _ _
   | exact LeO.none _
   | refine LeO.ite ?_ ?_
   | refine LeO.bind ?_ (fun _ => ?_)
  ·intro y0 y1 y2 y3 y4 y5 y6 y7
   unfold brackenlaw10_TokenAttrs.l1
   repeat' first
   | (with_reducible exact ih0 _ _ _ _)
   | (with_reducible exact ih1 _ _ _ _ _ _ _ _)
   | (with_reducible exact ih2 _ _ _ _ _ _ _ _)
   | (with_reducible exact ih3 _ _ _ _ _ _ _ _)
   | (with_reducible exact brackenlaw10_told.mono _)
   | (with_reducible exact token_Next.mono _ _ _)
   | (with_reducible exact LeO.refl _)
   | (with_reducible exact LeO.none _)
   | (with_reducible refine LeO.ite ?_ ?_)
   | (with_reducible refine LeO.bind ?_ (fun _ => ?_))
   | exact ih0 _ _ _ _
   | exact ih1 _ _ _ _ _ _ _ _
   | exact ih2 _ _ _ _ _ _ _ _
   | exact ih3 _ _ _ _ _ _ _ _
   | exact brackenlaw10_told.mono _
   | exact token_Next.mono _ _ _
   | exact LeO.none _
   | refine LeO.ite ?_ ?_
   | refine LeO.bind ?_ (fun _ => ?_)
  ·intro y0 y1 y2 y3 y4 y5 y6 y7
   unfold brackenlaw10_TokenAttrs.j2
   repeat' first
   | (with_reducible exact ih0 _ _ _ _)
   | (with_reducible exact ih1 _ _ _ _ _ _ _ _)
   | (with_reducible exact ih2 _ _ _ _ _ _ _ _)
   | (with_reducible exact ih3 _ _ _ _ _ _ _ _)
   | (with_reducible exact brackenlaw10_told.mono _)
   | (with_reducible exact token_Next.mono _ _ _)
   | (with_reducible exact LeO.refl _)
   | (with_reducible exact LeO.none _)
   | (with_reducible refine LeO.ite ?_ ?_)
   | (with_reducible refine LeO.bind ?_ (fun _ => ?_))
   | exact ih0 _ _ _ _
   | exact ih1 _ _ _ _ _ _ _ _
   | exact ih2 _ _ _ _ _ _ _ _
   | exact ih3 _ _ _ _ _ _ _ _
   | exact brackenlaw10_told.mono _
   | exact token_Next.mono _ _ _
   | exact LeO.none _
   | refine LeO.ite ?_ ?_
   | refine LeO.bind ?_ (fun _ => ?_)
  ·intro y0 y1 y2 y3 y4 y5 y6 y7
   unfold brackenlaw10_TokenAttrs.l2
   repeat' first
   | (with_reducible exact ih0 _ _ _ _)
   | (with_reducible exact ih1 _ _ _ _ _ _ _ _)
   | (with_reducible exact ih2 _ _ _ _ _ _ _ _)
   | (with_reducible exact ih3 _ _ _ _ _ _ _ _)
   | (with_reducible exact brackenlaw10_told.mono _)
   | (with_reducible exact token_Next.mono _ _ _)
   | (with_reducible exact LeO.refl _)
   | (with_reducible exact LeO.none _)
   | (with_reducible refine LeO.ite ?_ ?_)
   | (with_reducible refine LeO.bind ?_ (fun _ => ?_))
   | exact ih0 _ _ _ _
   | exact ih1 _ _ _ _ _ _ _ _
   | exact ih2 _ _ _ _ _ _ _ _
   | exact ih3 _ _ _ _ _ _ _ _
   | exact brackenlaw10_told.mono _
   | exact token_Next.mono _ _ _
   | exact LeO.none _
   | refine LeO.ite ?_ ?_
   | refine LeO.bind ?_ (fun _ => ?_)
theorem brackenlaw10_TokenAttrs.mono : ∀ a0 a1 a2 k, LeO (brackenlaw10_TokenAttrs.f k a0 a1 a2) (brackenlaw10_TokenAttrs.f (k + 1) a0 a1 a2) := by
 intro a0 a1 a2 k
 obtain ⟨ih0, ih1, ih2, ih3⟩ := brackenlaw10_TokenAttrs.mono_l k
 unfold brackenlaw10_TokenAttrs.f
 repeat' first
   | (with_reducible exact ih0 _ _ _ _)
   | (with_reducible exact ih1 _ _ _ _ _ _ _ _)
   | (with_reducible exact ih2 _ _ _ _ _ _ _ _)
   | (with_reducible exact ih3 _ _ _ _ _ _ _ _)
   | (with_reducible exact brackenlaw10_told.mono _)
   | (with_reducible exact token_Next.mono _ _ _)
   | (with_reducible exact LeO.refl _)
   | (with_reducible exact LeO.none _)
   | (with_reducible refine LeO.ite ?_ ?_)
   | (with_reducible refine LeO.bind ?_ (fun _ => ?_))
   | exact ih0 _ _ _ _
   | exact ih1 _ _ _ _ _ _ _ _
   | exact ih2 _ _ _ _ _ _ _ _
   | exact ih3 _ _ _ _ _ _ _ _
   | exact brackenlaw10_told.mono _
   | exact token_Next.mono _ _ _
   | exact LeO.none _
   | refine LeO.ite ?_ ?_
   | refine LeO.bind ?_ (fun _ => ?_)
set_option maxHeartbeats 8000000 in
set_option maxRecDepth 100000 in
theorem brackenlaw10_TokenAttrs.calls (k : Nat) (a0 : Int) (a1 : Int) (a2 : ByteArray) (r : Bool) (w : World) (hE : Env w) (hTrue : Hid (r = true)) (h : brackenlaw10_TokenAttrs.f k a0 a1 a2 = some r) :
  Calls Tryd.prog 6 #[.int .i64 a0, .int .i64 a1, .string a2] w fun e w' => e = .returned (.bool r) ∧ Below w.heap.size w w' := by
 have hu27 := Tryd.underlying27
 have HE := Aside0.mk hE
 clear hE
 have HB := Aside0.mk (Below.refl w.heap.size w)
 have H : (if (a2.size : Int) > 20 then ((brackenlaw10_told.f k).bind fun t419 => (some t419)) else (brackenlaw10_TokenAttrs.l0 k a0 a1 a2 0)) = some r := h
 clear h
 by_cases c4 : (a2.size : Int) > 20
 ·rw [if_pos c4] at H
  have c4b0 : decide (20 < (a2.size : Int)) = true := decide_eq_true c4
  have c4b1 : decide (20 < a2.size) = true := decide_eq_true (by omega)
  clear c4
  replace H := Option.bind_eq_some_iff.mp H
  obtain ⟨t419, A50, H⟩ := H
  replace H : (some t419) = some r := H
  have A5 := Aside0.mk A50
  clear A50
  obtain rfl := Option.some.inj H
  go_enter Tryd.func6, Tryd.ntmps6
  go_wp2_with (first | (go_at_call 14; (with_reducible refine (brackenlaw10_told.calls k  t419 _ (Env.below HE.out (by repeat (first | (with_reducible first | exact HB.out | apply below_alloc | apply pw_below_drewN | apply below_drew1) | exact HB.out))) hTrue A5.out).mono ?_); rintro e w6 ⟨rfl, hb⟩; have n0_ := Aside0.mk (below_step (by repeat (first | (with_reducible first | exact HB.out | apply below_alloc | apply pw_below_drewN | apply below_drew1) | exact HB.out)) hb); clear HB; have HB := n0_; clear n0_; (try clear hb); (try clear hb2); (try clear hk); (try clear hi)))
  repeat (go_quiet (first | (go_at_call 14; (with_reducible refine (brackenlaw10_told.calls k  t419 _ (Env.below HE.out (by repeat (first | (with_reducible first | exact HB.out | apply below_alloc | apply pw_below_drewN | apply below_drew1) | exact HB.out))) hTrue A5.out).mono ?_); rintro e w6 ⟨rfl, hb⟩; have n0_ := Aside0.mk (below_step (by repeat (first | (with_reducible first | exact HB.out | apply below_alloc | apply pw_below_drewN | apply below_drew1) | exact HB.out)) hb); clear HB; have HB := n0_; clear n0_; (try clear hb); (try clear hb2); (try clear hk); (try clear hi))); try go_wp2_with (first | (go_at_call 14; (with_reducible refine (brackenlaw10_told.calls k  t419 _ (Env.below HE.out (by repeat (first | (with_reducible first | exact HB.out | apply below_alloc | apply pw_below_drewN | apply below_drew1) | exact HB.out))) hTrue A5.out).mono ?_); rintro e w6 ⟨rfl, hb⟩; have n0_ := Aside0.mk (below_step (by repeat (first | (with_reducible first | exact HB.out | apply below_alloc | apply pw_below_drewN | apply below_drew1) | exact HB.out)) hb); clear HB; have HB := n0_; clear n0_; (try clear hb); (try clear hb2); (try clear hk); (try clear hi))))
  go_ret
  exact ⟨by first | rfl | (simp [errW_none, errW_some] <;> rfl) | (simp [*, errW_none, errW_some] <;> rfl), by repeat (first | (with_reducible first | exact HB.out | apply below_alloc | apply pw_below_drewN | apply below_drew1) | exact HB.out)⟩
 ·rw [if_neg c4] at H
  have c4b0 : decide (20 < (a2.size : Int)) = false := decide_eq_false c4
  have c4b1 : decide (20 < a2.size) = false := decide_eq_false (by omega)
  clear c4
  have H' := Aside0.mk H
  clear H
  go_enter Tryd.func6, Tryd.ntmps6
  go_wp2
  repeat (go_quiet (fail); try go_wp2)
  go_loopg [7] k (fun kq v7 w' => ∃ (x7_1 : Int), v7 = .int .i64 x7_1 ∧ Aside0 (brackenlaw10_TokenAttrs.l0 kq a0 a1 a2 x7_1 = some r) ∧ Aside0 (kq ≤ k) ∧ Aside0 (Below w.heap.size w w'))
  case atStart => exact ⟨(0), (by first | rfl | (simp; done) | (simp [*]; done)), H', ⟨Nat.le_refl _⟩, ⟨by repeat (first | (with_reducible first | exact HB.out | apply below_alloc | apply pw_below_drewN | apply below_drew1) | exact HB.out)⟩⟩
  case round =>
   clear H'
   try clear p2
   try clear c4
   try clear c4b0
   try clear c4b1
   try clear c6
   obtain ⟨x7_1, rfl, HA, HK1, HB⟩ := hrel
   cases gk with
   | zero => exact absurd HA.out (by simp [brackenlaw10_TokenAttrs.l0])
   | succ k1 =>
    have H := HA.out
    clear HA
    simp only [brackenlaw10_TokenAttrs.l0] at H
    by_cases c7 : x7_1 < (a2.size : Int)
    ·rw [if_pos c7] at H
     have c7b0 : decide (x7_1 < (a2.size : Int)) = true := decide_eq_true c7
     clear c7
     by_cases c8 : 0 ≤ x7_1
     ·rw [if_pos c8] at H
      have c8b0 : decide (0 ≤ x7_1) = true := decide_eq_true c8
      clear c8
      by_cases c10 : (bt a2 x7_1) = 39
      ·rw [if_pos c10] at H
       have c10b0 : ((bt a2 x7_1) == 39) = true := beq_iff_eq.mpr c10
       have c10b1 : ((bt a2 x7_1) != 39) = false := bne_eq_false_iff_eq.mpr c10
       clear c10
       replace H := Option.bind_eq_some_iff.mp H
       obtain ⟨t420, A110, H⟩ := H
       replace H : (some t420) = some r := H
       have A11 := Aside0.mk A110
       clear A110
       obtain rfl := Option.some.inj H
       have p9 : 0 ≤ (x7_1 : Int) := of_decide_eq_true (by first | (with_reducible assumption) | assumption)
       have q9 : x7_1 < (a2.size : Int) := of_decide_eq_true (by first | (with_reducible assumption) | assumption)
       have hx9 := bt_at a2 x7_1
       replace p9 := eq_true p9
       replace q9 := eq_true q9
       go_wp2_with (first | (go_at_call 14; (with_reducible refine (brackenlaw10_told.calls k1  t420 _ (Env.below HE.out (by repeat (first | (with_reducible first | exact HB.out | apply below_alloc | apply pw_below_drewN | apply below_drew1) | exact HB.out))) hTrue A11.out).mono ?_); rintro e w12 ⟨rfl, hb⟩; have n0_ := Aside0.mk (below_step (by repeat (first | (with_reducible first | exact HB.out | apply below_alloc | apply pw_below_drewN | apply below_drew1) | exact HB.out)) hb); clear HB; have HB := n0_; clear n0_; (try clear hb); (try clear hb2); (try clear hk); (try clear hi)))
       repeat (go_quiet (first | (go_at_call 14; (with_reducible refine (brackenlaw10_told.calls k1  t420 _ (Env.below HE.out (by repeat (first | (with_reducible first | exact HB.out | apply below_alloc | apply pw_below_drewN | apply below_drew1) | exact HB.out))) hTrue A11.out).mono ?_); rintro e w12 ⟨rfl, hb⟩; have n0_ := Aside0.mk (below_step (by repeat (first | (with_reducible first | exact HB.out | apply below_alloc | apply pw_below_drewN | apply below_drew1) | exact HB.out)) hb); clear HB; have HB := n0_; clear n0_; (try clear hb); (try clear hb2); (try clear hk); (try clear hi))); try go_wp2_with (first | (go_at_call 14; (with_reducible refine (brackenlaw10_told.calls k1  t420 _ (Env.below HE.out (by repeat (first | (with_reducible first | exact HB.out | apply below_alloc | apply pw_below_drewN | apply below_drew1) | exact HB.out))) hTrue A11.out).mono ?_); rintro e w12 ⟨rfl, hb⟩; have n0_ := Aside0.mk (below_step (by repeat (first | (with_reducible first | exact HB.out | apply below_alloc | apply pw_below_drewN | apply below_drew1) | exact HB.out)) hb); clear HB; have HB := n0_; clear n0_; (try clear hb); (try clear hb2); (try clear hk); (try clear hi))))
       go_ret
       exact ⟨by first | rfl | (simp [errW_none, errW_some] <;> rfl) | (simp [*, errW_none, errW_some] <;> rfl), by repeat (first | (with_reducible first | exact HB.out | apply below_alloc | apply pw_below_drewN | apply below_drew1) | exact HB.out)⟩
      ·rw [if_neg c10] at H
       have c10b0 : ((bt a2 x7_1) == 39) = false := beq_eq_false_iff_ne.mpr c10
       have c10b1 : ((bt a2 x7_1) != 39) = true := bne_iff_ne.mpr c10
       by_cases c14 : (bt a2 x7_1) = 34
       ·rw [if_pos c14] at H
        have c14b0 : ((bt a2 x7_1) == 34) = true := beq_iff_eq.mpr c14
        have c14b1 : ((bt a2 x7_1) != 34) = false := bne_eq_false_iff_eq.mpr c14
        clear c14
        replace H := Option.bind_eq_some_iff.mp H
        obtain ⟨t421, A150, H⟩ := H
        replace H : (some t421) = some r := H
        have A15 := Aside0.mk A150
        clear A150
        obtain rfl := Option.some.inj H
        have p9 : 0 ≤ (x7_1 : Int) := of_decide_eq_true (by first | (with_reducible assumption) | assumption)
        have q9 : x7_1 < (a2.size : Int) := of_decide_eq_true (by first | (with_reducible assumption) | assumption)
        have hx9 := bt_at a2 x7_1
        replace p9 := eq_true p9
        replace q9 := eq_true q9
        have p13 : 0 ≤ (x7_1 : Int) := of_decide_eq_true (by first | (with_reducible assumption) | assumption)
        have q13 : x7_1 < (a2.size : Int) := of_decide_eq_true (by first | (with_reducible assumption) | assumption)
        have hx13 := bt_at a2 x7_1
        replace p13 := eq_true p13
        replace q13 := eq_true q13
        go_wp2_with (first | (go_at_call 14; (with_reducible refine (brackenlaw10_told.calls k1  t421 _ (Env.below HE.out (by repeat (first | (with_reducible first | exact HB.out | apply below_alloc | apply pw_below_drewN | apply below_drew1) | exact HB.out))) hTrue A15.out).mono ?_); rintro e w16 ⟨rfl, hb⟩; have n0_ := Aside0.mk (below_step (by repeat (first | (with_reducible first | exact HB.out | apply below_alloc | apply pw_below_drewN | apply below_drew1) | exact HB.out)) hb); clear HB; have HB := n0_; clear n0_; (try clear hb); (try clear hb2); (try clear hk); (try clear hi)))
        repeat (go_quiet (first | (go_at_call 14; (with_reducible refine (brackenlaw10_told.calls k1  t421 _ (Env.below HE.out (by repeat (first | (with_reducible first | exact HB.out | apply below_alloc | apply pw_below_drewN | apply below_drew1) | exact HB.out))) hTrue A15.out).mono ?_); rintro e w16 ⟨rfl, hb⟩; have n0_ := Aside0.mk (below_step (by repeat (first | (with_reducible first | exact HB.out | apply below_alloc | apply pw_below_drewN | apply below_drew1) | exact HB.out)) hb); clear HB; have HB := n0_; clear n0_; (try clear hb); (try clear hb2); (try clear hk); (try clear hi))); try go_wp2_with (first | (go_at_call 14; (with_reducible refine (brackenlaw10_told.calls k1  t421 _ (Env.below HE.out (by repeat (first | (with_reducible first | exact HB.out | apply below_alloc | apply pw_below_drewN | apply below_drew1) | exact HB.out))) hTrue A15.out).mono ?_); rintro e w16 ⟨rfl, hb⟩; have n0_ := Aside0.mk (below_step (by repeat (first | (with_reducible first | exact HB.out | apply below_alloc | apply pw_below_drewN | apply below_drew1) | exact HB.out)) hb); clear HB; have HB := n0_; clear n0_; (try clear hb); (try clear hb2); (try clear hk); (try clear hi))))
        go_ret
        exact ⟨by first | rfl | (simp [errW_none, errW_some] <;> rfl) | (simp [*, errW_none, errW_some] <;> rfl), by repeat (first | (with_reducible first | exact HB.out | apply below_alloc | apply pw_below_drewN | apply below_drew1) | exact HB.out)⟩
       ·rw [if_neg c14] at H
        have c14b0 : ((bt a2 x7_1) == 34) = false := beq_eq_false_iff_ne.mpr c14
        have c14b1 : ((bt a2 x7_1) != 34) = true := bne_iff_ne.mpr c14
        by_cases c18 : (bt a2 x7_1) = 60
        ·rw [if_pos c18] at H
         have c18b0 : ((bt a2 x7_1) == 60) = true := beq_iff_eq.mpr c18
         have c18b1 : ((bt a2 x7_1) != 60) = false := bne_eq_false_iff_eq.mpr c18
         clear c18
         replace H := Option.bind_eq_some_iff.mp H
         obtain ⟨t422, A190, H⟩ := H
         replace H : (some t422) = some r := H
         have A19 := Aside0.mk A190
         clear A190
         obtain rfl := Option.some.inj H
         have p9 : 0 ≤ (x7_1 : Int) := of_decide_eq_true (by first | (with_reducible assumption) | assumption)
         have q9 : x7_1 < (a2.size : Int) := of_decide_eq_true (by first | (with_reducible assumption) | assumption)
         have hx9 := bt_at a2 x7_1
         replace p9 := eq_true p9
         replace q9 := eq_true q9
         have p13 : 0 ≤ (x7_1 : Int) := of_decide_eq_true (by first | (with_reducible assumption) | assumption)
         have q13 : x7_1 < (a2.size : Int) := of_decide_eq_true (by first | (with_reducible assumption) | assumption)
         have hx13 := bt_at a2 x7_1
         replace p13 := eq_true p13
         replace q13 := eq_true q13
         have p17 : 0 ≤ (x7_1 : Int) := of_decide_eq_true (by first | (with_reducible assumption) | assumption)
         have q17 : x7_1 < (a2.size : Int) := of_decide_eq_true (by first | (with_reducible assumption) | assumption)
         have hx17 := bt_at a2 x7_1
         replace p17 := eq_true p17
         replace q17 := eq_true q17
         go_wp2_with (first | (go_at_call 14; (with_reducible refine (brackenlaw10_told.calls k1  t422 _ (Env.below HE.out (by repeat (first | (with_reducible first | exact HB.out | apply below_alloc | apply pw_below_drewN | apply below_drew1) | exact HB.out))) hTrue A19.out).mono ?_); rintro e w20 ⟨rfl, hb⟩; have n0_ := Aside0.mk (below_step (by repeat (first | (with_reducible first | exact HB.out | apply below_alloc | apply pw_below_drewN | apply below_drew1) | exact HB.out)) hb); clear HB; have HB := n0_; clear n0_; (try clear hb); (try clear hb2); (try clear hk); (try clear hi)))
         repeat (go_quiet (first | (go_at_call 14; (with_reducible refine (brackenlaw10_told.calls k1  t422 _ (Env.below HE.out (by repeat (first | (with_reducible first | exact HB.out | apply below_alloc | apply pw_below_drewN | apply below_drew1) | exact HB.out))) hTrue A19.out).mono ?_); rintro e w20 ⟨rfl, hb⟩; have n0_ := Aside0.mk (below_step (by repeat (first | (with_reducible first | exact HB.out | apply below_alloc | apply pw_below_drewN | apply below_drew1) | exact HB.out)) hb); clear HB; have HB := n0_; clear n0_; (try clear hb); (try clear hb2); (try clear hk); (try clear hi))); try go_wp2_with (first | (go_at_call 14; (with_reducible refine (brackenlaw10_told.calls k1  t422 _ (Env.below HE.out (by repeat (first | (with_reducible first | exact HB.out | apply below_alloc | apply pw_below_drewN | apply below_drew1) | exact HB.out))) hTrue A19.out).mono ?_); rintro e w20 ⟨rfl, hb⟩; have n0_ := Aside0.mk (below_step (by repeat (first | (with_reducible first | exact HB.out | apply below_alloc | apply pw_below_drewN | apply below_drew1) | exact HB.out)) hb); clear HB; have HB := n0_; clear n0_; (try clear hb); (try clear hb2); (try clear hk); (try clear hi))))
         go_ret
         exact ⟨by first | rfl | (simp [errW_none, errW_some] <;> rfl) | (simp [*, errW_none, errW_some] <;> rfl), by repeat (first | (with_reducible first | exact HB.out | apply below_alloc | apply pw_below_drewN | apply below_drew1) | exact HB.out)⟩
        ·rw [if_neg c18] at H
         have c18b0 : ((bt a2 x7_1) == 60) = false := beq_eq_false_iff_ne.mpr c18
         have c18b1 : ((bt a2 x7_1) != 60) = true := bne_iff_ne.mpr c18
         have H' := Aside0.mk H
         clear H
         have p9 : 0 ≤ (x7_1 : Int) := of_decide_eq_true (by first | (with_reducible assumption) | assumption)
         have q9 : x7_1 < (a2.size : Int) := of_decide_eq_true (by first | (with_reducible assumption) | assumption)
         have hx9 := bt_at a2 x7_1
         replace p9 := eq_true p9
         replace q9 := eq_true q9
         have p13 : 0 ≤ (x7_1 : Int) := of_decide_eq_true (by first | (with_reducible assumption) | assumption)
         have q13 : x7_1 < (a2.size : Int) := of_decide_eq_true (by first | (with_reducible assumption) | assumption)
         have hx13 := bt_at a2 x7_1
         replace p13 := eq_true p13
         replace q13 := eq_true q13
         have p17 : 0 ≤ (x7_1 : Int) := of_decide_eq_true (by first | (with_reducible assumption) | assumption)
         have q17 : x7_1 < (a2.size : Int) := of_decide_eq_true (by first | (with_reducible assumption) | assumption)
         have hx17 := bt_at a2 x7_1
         replace p17 := eq_true p17
         replace q17 := eq_true q17
         go_wp2
         repeat (go_quiet (fail); try go_wp2)
         go_roundg k1
         case measure => have := HK1.out; omega
         case rel => exact ⟨(wrap64 (x7_1 + 1)), (by first | rfl | (simp; done) | (simp [*]; done)), H', ⟨by have := HK1.out; omega⟩, ⟨by repeat (first | (with_reducible first | exact HB.out | apply below_alloc | apply pw_below_drewN | apply below_drew1) | exact HB.out)⟩⟩
     ·rw [if_neg c8] at H
      exact absurd H (by simp)
    ·rw [if_neg c7] at H
     have c7b0 : decide (x7_1 < (a2.size : Int)) = false := decide_eq_false c7
     clear c7
     obtain ⟨y423, hy423⟩ : ∃ y_ : List ByteArray, y_ = (([(⟨#[32]⟩ : ByteArray), (⟨#[10, 32]⟩ : ByteArray), (⟨#[32, 32]⟩ : ByteArray)] : List ByteArray)) := ⟨_, rfl⟩
     replace H : (if 0 ≤ (Int.tmod (IntKind.u64.wrap (a1)) 3) then (if (Int.tmod (IntKind.u64.wrap (a1)) 3) < (y423.length : Int) then ((some (([(⟨#[61]⟩ : ByteArray), (⟨#[32, 61, 32]⟩ : ByteArray), (⟨#[61, 9]⟩ : ByteArray)] : List ByteArray) : List ByteArray)).bind fun y427 => (if 0 ≤ (Int.tmod (IntKind.u64.wrap (Int.tdiv (IntKind.u64.wrap (a1)) 3)) 3) then (if (Int.tmod (IntKind.u64.wrap (Int.tdiv (IntKind.u64.wrap (a1)) 3)) 3) < (y427.length : Int) then ((some (([(⟨#[39]⟩ : ByteArray), (⟨#[34]⟩ : ByteArray)] : List ByteArray) : List ByteArray)).bind fun y431 => (if 0 ≤ (Int.tmod (IntKind.u64.wrap (Int.tdiv (IntKind.u64.wrap (a1)) 9)) 2) then (if (Int.tmod (IntKind.u64.wrap (Int.tdiv (IntKind.u64.wrap (a1)) 9)) 2) < (y431.length : Int) then (brackenlaw10_TokenAttrs.l1 k1 a2 (wrap64 (Int.tmod (IntKind.u64.wrap (a0)) 9)) (IntKind.u64.wrap (a1)) (rdOf ByteArray.empty y423 (Int.tmod (IntKind.u64.wrap (a1)) 3)) (rdOf ByteArray.empty y427 (Int.tmod (IntKind.u64.wrap (Int.tdiv (IntKind.u64.wrap (a1)) 3)) 3)) (rdOf ByteArray.empty y431 (Int.tmod (IntKind.u64.wrap (Int.tdiv (IntKind.u64.wrap (a1)) 9)) 2)) (⟨#[60, 112, 58, 97]⟩ : ByteArray) 0) else (none)) else (none))) else (none)) else (none))) else (none)) else (none)) = some r := by first | (rw [hy423]; with_reducible exact H) | (have H2_ := (Option.bind_some _ _).symm.trans H; rw [hy423]; with_reducible exact H2_) | (have H2_ := (Option.bind_some _ _).symm.trans H; with_reducible exact H2_) | with_reducible exact H | (rw [hy423]; exact H) | exact H
     have Ny423 := Aside0.mk hy423
     clear hy423
     obtain ⟨ji21, hji21⟩ : ∃ j_ : Int, (Int.tmod (IntKind.u64.wrap (a1)) 3) = j_ := ⟨_, rfl⟩
     replace H : (if 0 ≤ (ji21) then (if (ji21) < (y423.length : Int) then ((some (([(⟨#[61]⟩ : ByteArray), (⟨#[32, 61, 32]⟩ : ByteArray), (⟨#[61, 9]⟩ : ByteArray)] : List ByteArray) : List ByteArray)).bind fun y427 => (if 0 ≤ (Int.tmod (IntKind.u64.wrap (Int.tdiv (IntKind.u64.wrap (a1)) 3)) 3) then (if (Int.tmod (IntKind.u64.wrap (Int.tdiv (IntKind.u64.wrap (a1)) 3)) 3) < (y427.length : Int) then ((some (([(⟨#[39]⟩ : ByteArray), (⟨#[34]⟩ : ByteArray)] : List ByteArray) : List ByteArray)).bind fun y431 => (if 0 ≤ (Int.tmod (IntKind.u64.wrap (Int.tdiv (IntKind.u64.wrap (a1)) 9)) 2) then (if (Int.tmod (IntKind.u64.wrap (Int.tdiv (IntKind.u64.wrap (a1)) 9)) 2) < (y431.length : Int) then (brackenlaw10_TokenAttrs.l1 k1 a2 (wrap64 (Int.tmod (IntKind.u64.wrap (a0)) 9)) (IntKind.u64.wrap (a1)) (rdOf ByteArray.empty y423 (ji21)) (rdOf ByteArray.empty y427 (Int.tmod (IntKind.u64.wrap (Int.tdiv (IntKind.u64.wrap (a1)) 3)) 3)) (rdOf ByteArray.empty y431 (Int.tmod (IntKind.u64.wrap (Int.tdiv (IntKind.u64.wrap (a1)) 9)) 2)) (⟨#[60, 112, 58, 97]⟩ : ByteArray) 0) else (none)) else (none))) else (none)) else (none))) else (none)) else (none)) = some r := by first | (rw [hji21] at H; exact H) | (simp only [hji21] at H ⊢; exact H)
     by_cases c22 : 0 ≤ (ji21)
     ·rw [if_pos c22] at H
      have c22b0 : decide (0 ≤ (ji21)) = true := decide_eq_true c22
      clear c22
      by_cases c23 : (ji21) < (y423.length : Int)
      ·rw [if_pos c23] at H
       have c23b0 : decide ((ji21) < (y423.length : Int)) = true := decide_eq_true c23
       clear c23
       obtain ⟨y427, hy427⟩ : ∃ y_ : List ByteArray, y_ = (([(⟨#[61]⟩ : ByteArray), (⟨#[32, 61, 32]⟩ : ByteArray), (⟨#[61, 9]⟩ : ByteArray)] : List ByteArray)) := ⟨_, rfl⟩
       replace H : (if 0 ≤ (Int.tmod (IntKind.u64.wrap (Int.tdiv (IntKind.u64.wrap (a1)) 3)) 3) then (if (Int.tmod (IntKind.u64.wrap (Int.tdiv (IntKind.u64.wrap (a1)) 3)) 3) < (y427.length : Int) then ((some (([(⟨#[39]⟩ : ByteArray), (⟨#[34]⟩ : ByteArray)] : List ByteArray) : List ByteArray)).bind fun y431 => (if 0 ≤ (Int.tmod (IntKind.u64.wrap (Int.tdiv (IntKind.u64.wrap (a1)) 9)) 2) then (if (Int.tmod (IntKind.u64.wrap (Int.tdiv (IntKind.u64.wrap (a1)) 9)) 2) < (y431.length : Int) then (brackenlaw10_TokenAttrs.l1 k1 a2 (wrap64 (Int.tmod (IntKind.u64.wrap (a0)) 9)) (IntKind.u64.wrap (a1)) (rdOf ByteArray.empty y423 (ji21)) (rdOf ByteArray.empty y427 (Int.tmod (IntKind.u64.wrap (Int.tdiv (IntKind.u64.wrap (a1)) 3)) 3)) (rdOf ByteArray.empty y431 (Int.tmod (IntKind.u64.wrap (Int.tdiv (IntKind.u64.wrap (a1)) 9)) 2)) (⟨#[60, 112, 58, 97]⟩ : ByteArray) 0) else (none)) else (none))) else (none)) else (none)) = some r := by first | (rw [hy427]; with_reducible exact H) | (have H2_ := (Option.bind_some _ _).symm.trans H; rw [hy427]; with_reducible exact H2_) | (have H2_ := (Option.bind_some _ _).symm.trans H; with_reducible exact H2_) | with_reducible exact H | (rw [hy427]; exact H) | exact H
       have Ny427 := Aside0.mk hy427
       clear hy427
       obtain ⟨ji24, hji24⟩ : ∃ j_ : Int, (Int.tmod (IntKind.u64.wrap (Int.tdiv (IntKind.u64.wrap (a1)) 3)) 3) = j_ := ⟨_, rfl⟩
       replace H : (if 0 ≤ (ji24) then (if (ji24) < (y427.length : Int) then ((some (([(⟨#[39]⟩ : ByteArray), (⟨#[34]⟩ : ByteArray)] : List ByteArray) : List ByteArray)).bind fun y431 => (if 0 ≤ (Int.tmod (IntKind.u64.wrap (Int.tdiv (IntKind.u64.wrap (a1)) 9)) 2) then (if (Int.tmod (IntKind.u64.wrap (Int.tdiv (IntKind.u64.wrap (a1)) 9)) 2) < (y431.length : Int) then (brackenlaw10_TokenAttrs.l1 k1 a2 (wrap64 (Int.tmod (IntKind.u64.wrap (a0)) 9)) (IntKind.u64.wrap (a1)) (rdOf ByteArray.empty y423 (ji21)) (rdOf ByteArray.empty y427 (ji24)) (rdOf ByteArray.empty y431 (Int.tmod (IntKind.u64.wrap (Int.tdiv (IntKind.u64.wrap (a1)) 9)) 2)) (⟨#[60, 112, 58, 97]⟩ : ByteArray) 0) else (none)) else (none))) else (none)) else (none)) = some r := by first | (rw [hji24] at H; exact H) | (simp only [hji24] at H ⊢; exact H)
       by_cases c25 : 0 ≤ (ji24)
       ·rw [if_pos c25] at H
        have c25b0 : decide (0 ≤ (ji24)) = true := decide_eq_true c25
        clear c25
        by_cases c26 : (ji24) < (y427.length : Int)
        ·rw [if_pos c26] at H
         have c26b0 : decide ((ji24) < (y427.length : Int)) = true := decide_eq_true c26
         clear c26
         obtain ⟨y431, hy431⟩ : ∃ y_ : List ByteArray, y_ = (([(⟨#[39]⟩ : ByteArray), (⟨#[34]⟩ : ByteArray)] : List ByteArray)) := ⟨_, rfl⟩
         replace H : (if 0 ≤ (Int.tmod (IntKind.u64.wrap (Int.tdiv (IntKind.u64.wrap (a1)) 9)) 2) then (if (Int.tmod (IntKind.u64.wrap (Int.tdiv (IntKind.u64.wrap (a1)) 9)) 2) < (y431.length : Int) then (brackenlaw10_TokenAttrs.l1 k1 a2 (wrap64 (Int.tmod (IntKind.u64.wrap (a0)) 9)) (IntKind.u64.wrap (a1)) (rdOf ByteArray.empty y423 (ji21)) (rdOf ByteArray.empty y427 (ji24)) (rdOf ByteArray.empty y431 (Int.tmod (IntKind.u64.wrap (Int.tdiv (IntKind.u64.wrap (a1)) 9)) 2)) (⟨#[60, 112, 58, 97]⟩ : ByteArray) 0) else (none)) else (none)) = some r := by first | (rw [hy431]; with_reducible exact H) | (have H2_ := (Option.bind_some _ _).symm.trans H; rw [hy431]; with_reducible exact H2_) | (have H2_ := (Option.bind_some _ _).symm.trans H; with_reducible exact H2_) | with_reducible exact H | (rw [hy431]; exact H) | exact H
         have Ny431 := Aside0.mk hy431
         clear hy431
         obtain ⟨ji27, hji27⟩ : ∃ j_ : Int, (Int.tmod (IntKind.u64.wrap (Int.tdiv (IntKind.u64.wrap (a1)) 9)) 2) = j_ := ⟨_, rfl⟩
         replace H : (if 0 ≤ (ji27) then (if (ji27) < (y431.length : Int) then (brackenlaw10_TokenAttrs.l1 k1 a2 (wrap64 (Int.tmod (IntKind.u64.wrap (a0)) 9)) (IntKind.u64.wrap (a1)) (rdOf ByteArray.empty y423 (ji21)) (rdOf ByteArray.empty y427 (ji24)) (rdOf ByteArray.empty y431 (ji27)) (⟨#[60, 112, 58, 97]⟩ : ByteArray) 0) else (none)) else (none)) = some r := by first | (rw [hji27] at H; exact H) | (simp only [hji27] at H ⊢; exact H)
         by_cases c28 : 0 ≤ (ji27)
         ·rw [if_pos c28] at H
          have c28b0 : decide (0 ≤ (ji27)) = true := decide_eq_true c28
          clear c28
          by_cases c29 : (ji27) < (y431.length : Int)
          ·rw [if_pos c29] at H
           have c29b0 : decide ((ji27) < (y431.length : Int)) = true := decide_eq_true c29
           clear c29
           have H' := Aside0.mk H
           clear H
           go_wp2_with (first | ((with_reducible refine gate_dst (N := 53) rfl ?_); (try (refine gate_guard (by rfl) ?_; dsimp only)); refine Kd.R_lit Kd.string _ 9 ?hg (N := 53) ?hd (xs := ([(⟨#[32]⟩ : ByteArray), (⟨#[10, 32]⟩ : ByteArray), (⟨#[32, 32]⟩ : ByteArray)] : List ByteArray)) (inner := [.string (⟨#[32]⟩ : ByteArray), .string (⟨#[10, 32]⟩ : ByteArray), .string (⟨#[32, 32]⟩ : ByteArray)]) (ok := fun _ => True) (okp := fun _ => True) ?hr ?hp (fun _ hk => hk) trivial (Below.refl _ _) (Nat.le_refl _) (by simp) ?_; (case hd => rfl); (case hg => rfl); (case hr => first | (go_simp; done) | (go_simp; rfl)); (case hp => exact (Reps.one (show Kd.M Kd.string _ _ _ (⟨#[32]⟩ : ByteArray) [.string (⟨#[32]⟩ : ByteArray)] from rfl) (Reps.one (show Kd.M Kd.string _ _ _ (⟨#[10, 32]⟩ : ByteArray) [.string (⟨#[10, 32]⟩ : ByteArray)] from rfl) (Reps.one (show Kd.M Kd.string _ _ _ (⟨#[32, 32]⟩ : ByteArray) [.string (⟨#[32, 32]⟩ : ByteArray)] from rfl) (Reps.none _ _))))); intro v424 w30 ho31 hb hg_ hnew_; clear hg_ hnew_; (first | rw [← Ny423.out] at ho31 | (simp only [Int.reduceToNat] at ho31; rw [← Ny423.out] at ho31)); have n0_ := Aside0.mk (Kd.R_lower ho31 (below_size (by repeat (first | (with_reducible first | exact HB.out | apply below_alloc | apply pw_below_drewN | apply below_drew1) | exact HB.out)))); have n1_ := Aside0.mk (below_step (by repeat (first | (with_reducible first | exact HB.out | apply below_alloc | apply pw_below_drewN | apply below_drew1) | exact HB.out)) hb); clear HB; have HO425 := n0_; have HB := n1_; clear n0_ n1_; clear hb ho31; obtain ⟨Ao32, co32, eo32⟩ := Kd.R_slice HO425.out; subst eo32; have p426 : 0 ≤ ((ji21) : Int) := of_decide_eq_true (by first | (with_reducible assumption) | assumption); have q426 : (ji21) < (y423.length : Int) := of_decide_eq_true (by first | (with_reducible assumption) | assumption); obtain ⟨ad426, e426, hx426_0⟩ := Kd.at_string (Kd.R_reads' HO425.out).2.2 (ji21) p426 q426; cases e426; replace p426 := eq_true p426; replace q426 := eq_true q426) | ((with_reducible refine gate_dst (N := 58) rfl ?_); (try (refine gate_guard (by rfl) ?_; dsimp only)); refine Kd.R_lit Kd.string _ 9 ?hg (N := 58) ?hd (xs := ([(⟨#[61]⟩ : ByteArray), (⟨#[32, 61, 32]⟩ : ByteArray), (⟨#[61, 9]⟩ : ByteArray)] : List ByteArray)) (inner := [.string (⟨#[61]⟩ : ByteArray), .string (⟨#[32, 61, 32]⟩ : ByteArray), .string (⟨#[61, 9]⟩ : ByteArray)]) (ok := fun _ => True) (okp := fun _ => True) ?hr ?hp (fun _ hk => hk) trivial (Below.refl _ _) (Nat.le_refl _) (by simp) ?_; (case hd => rfl); (case hg => rfl); (case hr => first | (go_simp; done) | (go_simp; rfl)); (case hp => exact (Reps.one (show Kd.M Kd.string _ _ _ (⟨#[61]⟩ : ByteArray) [.string (⟨#[61]⟩ : ByteArray)] from rfl) (Reps.one (show Kd.M Kd.string _ _ _ (⟨#[32, 61, 32]⟩ : ByteArray) [.string (⟨#[32, 61, 32]⟩ : ByteArray)] from rfl) (Reps.one (show Kd.M Kd.string _ _ _ (⟨#[61, 9]⟩ : ByteArray) [.string (⟨#[61, 9]⟩ : ByteArray)] from rfl) (Reps.none _ _))))); intro v428 w33 ho34 hb hg_ hnew_; clear hg_ hnew_; (first | rw [← Ny427.out] at ho34 | (simp only [Int.reduceToNat] at ho34; rw [← Ny427.out] at ho34)); have n0_ := Aside0.mk (Kd.R_elder' (by (with_reducible repeat (first | apply Kd.R_alloc | apply Kd.R_drewN | apply Kd.R_drew)); exact HO425.out) (Kd.R_base ho34) hb); have n1_ := Aside0.mk (Kd.R_lower (Kd.R_new' ho34 (Kd.R_lt (by (with_reducible repeat (first | apply Kd.R_alloc | apply Kd.R_drewN | apply Kd.R_drew)); exact HO425.out))) (below_size (by repeat (first | (with_reducible first | exact HB.out | apply below_alloc | apply pw_below_drewN | apply below_drew1) | exact HB.out)))); have n2_ := Aside0.mk (below_step (by repeat (first | (with_reducible first | exact HB.out | apply below_alloc | apply pw_below_drewN | apply below_drew1) | exact HB.out)) hb); clear HO425; clear HB; have HO425 := n0_; have HO429 := n1_; have HB := n2_; clear n0_ n1_ n2_; clear hb ho34; obtain ⟨Ao35, co35, eo35⟩ := Kd.R_slice HO429.out; subst eo35; have p430 : 0 ≤ ((ji24) : Int) := of_decide_eq_true (by first | (with_reducible assumption) | assumption); have q430 : (ji24) < (y427.length : Int) := of_decide_eq_true (by first | (with_reducible assumption) | assumption); obtain ⟨ad430, e430, hx430_0⟩ := Kd.at_string (Kd.R_reads' HO429.out).2.2 (ji24) p430 q430; cases e430; replace p430 := eq_true p430; replace q430 := eq_true q430) | ((with_reducible refine gate_dst (N := 64) rfl ?_); (try (refine gate_guard (by rfl) ?_; dsimp only)); refine Kd.R_lit Kd.string _ 9 ?hg (N := 64) ?hd (xs := ([(⟨#[39]⟩ : ByteArray), (⟨#[34]⟩ : ByteArray)] : List ByteArray)) (inner := [.string (⟨#[39]⟩ : ByteArray), .string (⟨#[34]⟩ : ByteArray)]) (ok := fun _ => True) (okp := fun _ => True) ?hr ?hp (fun _ hk => hk) trivial (Below.refl _ _) (Nat.le_refl _) (by simp) ?_; (case hd => rfl); (case hg => rfl); (case hr => first | (go_simp; done) | (go_simp; rfl)); (case hp => exact (Reps.one (show Kd.M Kd.string _ _ _ (⟨#[39]⟩ : ByteArray) [.string (⟨#[39]⟩ : ByteArray)] from rfl) (Reps.one (show Kd.M Kd.string _ _ _ (⟨#[34]⟩ : ByteArray) [.string (⟨#[34]⟩ : ByteArray)] from rfl) (Reps.none _ _)))); intro v432 w36 ho37 hb hg_ hnew_; clear hg_ hnew_; (first | rw [← Ny431.out] at ho37 | (simp only [Int.reduceToNat] at ho37; rw [← Ny431.out] at ho37)); have n0_ := Aside0.mk (Kd.R_elder' (by (with_reducible repeat (first | apply Kd.R_alloc | apply Kd.R_drewN | apply Kd.R_drew)); exact HO425.out) (Kd.R_base ho37) hb); have n1_ := Aside0.mk (Kd.R_elder' (by (with_reducible repeat (first | apply Kd.R_alloc | apply Kd.R_drewN | apply Kd.R_drew)); exact HO429.out) (Kd.R_base ho37) hb); have n2_ := Aside0.mk (Kd.R_lower (Kd.R_new' (Kd.R_new' ho37 (Kd.R_lt (by (with_reducible repeat (first | apply Kd.R_alloc | apply Kd.R_drewN | apply Kd.R_drew)); exact HO425.out))) (Kd.R_lt (by (with_reducible repeat (first | apply Kd.R_alloc | apply Kd.R_drewN | apply Kd.R_drew)); exact HO429.out))) (below_size (by repeat (first | (with_reducible first | exact HB.out | apply below_alloc | apply pw_below_drewN | apply below_drew1) | exact HB.out)))); have n3_ := Aside0.mk (below_step (by repeat (first | (with_reducible first | exact HB.out | apply below_alloc | apply pw_below_drewN | apply below_drew1) | exact HB.out)) hb); clear HO425; clear HO429; clear HB; have HO425 := n0_; have HO429 := n1_; have HO433 := n2_; have HB := n3_; clear n0_ n1_ n2_ n3_; clear hb ho37; obtain ⟨Ao38, co38, eo38⟩ := Kd.R_slice HO433.out; subst eo38; have p434 : 0 ≤ ((ji27) : Int) := of_decide_eq_true (by first | (with_reducible assumption) | assumption); have q434 : (ji27) < (y431.length : Int) := of_decide_eq_true (by first | (with_reducible assumption) | assumption); obtain ⟨ad434, e434, hx434_0⟩ := Kd.at_string (Kd.R_reads' HO433.out).2.2 (ji27) p434 q434; cases e434; replace p434 := eq_true p434; replace q434 := eq_true q434))
           repeat (go_quiet (first | ((with_reducible refine gate_dst (N := 53) rfl ?_); (try (refine gate_guard (by rfl) ?_; dsimp only)); refine Kd.R_lit Kd.string _ 9 ?hg (N := 53) ?hd (xs := ([(⟨#[32]⟩ : ByteArray), (⟨#[10, 32]⟩ : ByteArray), (⟨#[32, 32]⟩ : ByteArray)] : List ByteArray)) (inner := [.string (⟨#[32]⟩ : ByteArray), .string (⟨#[10, 32]⟩ : ByteArray), .string (⟨#[32, 32]⟩ : ByteArray)]) (ok := fun _ => True) (okp := fun _ => True) ?hr ?hp (fun _ hk => hk) trivial (Below.refl _ _) (Nat.le_refl _) (by simp) ?_; (case hd => rfl); (case hg => rfl); (case hr => first | (go_simp; done) | (go_simp; rfl)); (case hp => exact (Reps.one (show Kd.M Kd.string _ _ _ (⟨#[32]⟩ : ByteArray) [.string (⟨#[32]⟩ : ByteArray)] from rfl) (Reps.one (show Kd.M Kd.string _ _ _ (⟨#[10, 32]⟩ : ByteArray) [.string (⟨#[10, 32]⟩ : ByteArray)] from rfl) (Reps.one (show Kd.M Kd.string _ _ _ (⟨#[32, 32]⟩ : ByteArray) [.string (⟨#[32, 32]⟩ : ByteArray)] from rfl) (Reps.none _ _))))); intro v424 w30 ho31 hb hg_ hnew_; clear hg_ hnew_; (first | rw [← Ny423.out] at ho31 | (simp only [Int.reduceToNat] at ho31; rw [← Ny423.out] at ho31)); have n0_ := Aside0.mk (Kd.R_lower ho31 (below_size (by repeat (first | (with_reducible first | exact HB.out | apply below_alloc | apply pw_below_drewN | apply below_drew1) | exact HB.out)))); have n1_ := Aside0.mk (below_step (by repeat (first | (with_reducible first | exact HB.out | apply below_alloc | apply pw_below_drewN | apply below_drew1) | exact HB.out)) hb); clear HB; have HO425 := n0_; have HB := n1_; clear n0_ n1_; clear hb ho31; obtain ⟨Ao32, co32, eo32⟩ := Kd.R_slice HO425.out; subst eo32; have p426 : 0 ≤ ((ji21) : Int) := of_decide_eq_true (by first | (with_reducible assumption) | assumption); have q426 : (ji21) < (y423.length : Int) := of_decide_eq_true (by first | (with_reducible assumption) | assumption); obtain ⟨ad426, e426, hx426_0⟩ := Kd.at_string (Kd.R_reads' HO425.out).2.2 (ji21) p426 q426; cases e426; replace p426 := eq_true p426; replace q426 := eq_true q426) | ((with_reducible refine gate_dst (N := 58) rfl ?_); (try (refine gate_guard (by rfl) ?_; dsimp only)); refine Kd.R_lit Kd.string _ 9 ?hg (N := 58) ?hd (xs := ([(⟨#[61]⟩ : ByteArray), (⟨#[32, 61, 32]⟩ : ByteArray), (⟨#[61, 9]⟩ : ByteArray)] : List ByteArray)) (inner := [.string (⟨#[61]⟩ : ByteArray), .string (⟨#[32, 61, 32]⟩ : ByteArray), .string (⟨#[61, 9]⟩ : ByteArray)]) (ok := fun _ => True) (okp := fun _ => True) ?hr ?hp (fun _ hk => hk) trivial (Below.refl _ _) (Nat.le_refl _) (by simp) ?_; (case hd => rfl); (case hg => rfl); (case hr => first | (go_simp; done) | (go_simp; rfl)); (case hp => exact (Reps.one (show Kd.M Kd.string _ _ _ (⟨#[61]⟩ : ByteArray) [.string (⟨#[61]⟩ : ByteArray)] from rfl) (Reps.one (show Kd.M Kd.string _ _ _ (⟨#[32, 61, 32]⟩ : ByteArray) [.string (⟨#[32, 61, 32]⟩ : ByteArray)] from rfl) (Reps.one (show Kd.M Kd.string _ _ _ (⟨#[61, 9]⟩ : ByteArray) [.string (⟨#[61, 9]⟩ : ByteArray)] from rfl) (Reps.none _ _))))); intro v428 w33 ho34 hb hg_ hnew_; clear hg_ hnew_; (first | rw [← Ny427.out] at ho34 | (simp only [Int.reduceToNat] at ho34; rw [← Ny427.out] at ho34)); have n0_ := Aside0.mk (Kd.R_elder' (by (with_reducible repeat (first | apply Kd.R_alloc | apply Kd.R_drewN | apply Kd.R_drew)); exact HO425.out) (Kd.R_base ho34) hb); have n1_ := Aside0.mk (Kd.R_lower (Kd.R_new' ho34 (Kd.R_lt (by (with_reducible repeat (first | apply Kd.R_alloc | apply Kd.R_drewN | apply Kd.R_drew)); exact HO425.out))) (below_size (by repeat (first | (with_reducible first | exact HB.out | apply below_alloc | apply pw_below_drewN | apply below_drew1) | exact HB.out)))); have n2_ := Aside0.mk (below_step (by repeat (first | (with_reducible first | exact HB.out | apply below_alloc | apply pw_below_drewN | apply below_drew1) | exact HB.out)) hb); clear HO425; clear HB; have HO425 := n0_; have HO429 := n1_; have HB := n2_; clear n0_ n1_ n2_; clear hb ho34; obtain ⟨Ao35, co35, eo35⟩ := Kd.R_slice HO429.out; subst eo35; have p430 : 0 ≤ ((ji24) : Int) := of_decide_eq_true (by first | (with_reducible assumption) | assumption); have q430 : (ji24) < (y427.length : Int) := of_decide_eq_true (by first | (with_reducible assumption) | assumption); obtain ⟨ad430, e430, hx430_0⟩ := Kd.at_string (Kd.R_reads' HO429.out).2.2 (ji24) p430 q430; cases e430; replace p430 := eq_true p430; replace q430 := eq_true q430) | ((with_reducible refine gate_dst (N := 64) rfl ?_); (try (refine gate_guard (by rfl) ?_; dsimp only)); refine Kd.R_lit Kd.string _ 9 ?hg (N := 64) ?hd (xs := ([(⟨#[39]⟩ : ByteArray), (⟨#[34]⟩ : ByteArray)] : List ByteArray)) (inner := [.string (⟨#[39]⟩ : ByteArray), .string (⟨#[34]⟩ : ByteArray)]) (ok := fun _ => True) (okp := fun _ => True) ?hr ?hp (fun _ hk => hk) trivial (Below.refl _ _) (Nat.le_refl _) (by simp) ?_; (case hd => rfl); (case hg => rfl); (case hr => first | (go_simp; done) | (go_simp; rfl)); (case hp => exact (Reps.one (show Kd.M Kd.string _ _ _ (⟨#[39]⟩ : ByteArray) [.string (⟨#[39]⟩ : ByteArray)] from rfl) (Reps.one (show Kd.M Kd.string _ _ _ (⟨#[34]⟩ : ByteArray) [.string (⟨#[34]⟩ : ByteArray)] from rfl) (Reps.none _ _)))); intro v432 w36 ho37 hb hg_ hnew_; clear hg_ hnew_; (first | rw [← Ny431.out] at ho37 | (simp only [Int.reduceToNat] at ho37; rw [← Ny431.out] at ho37)); have n0_ := Aside0.mk (Kd.R_elder' (by (with_reducible repeat (first | apply Kd.R_alloc | apply Kd.R_drewN | apply Kd.R_drew)); exact HO425.out) (Kd.R_base ho37) hb); have n1_ := Aside0.mk (Kd.R_elder' (by (with_reducible repeat (first | apply Kd.R_alloc | apply Kd.R_drewN | apply Kd.R_drew)); exact HO429.out) (Kd.R_base ho37) hb); have n2_ := Aside0.mk (Kd.R_lower (Kd.R_new' (Kd.R_new' ho37 (Kd.R_lt (by (with_reducible repeat (first | apply Kd.R_alloc | apply Kd.R_drewN | apply Kd.R_drew)); exact HO425.out))) (Kd.R_lt (by (with_reducible repeat (first | apply Kd.R_alloc | apply Kd.R_drewN | apply Kd.R_drew)); exact HO429.out))) (below_size (by repeat (first | (with_reducible first | exact HB.out | apply below_alloc | apply pw_below_drewN | apply below_drew1) | exact HB.out)))); have n3_ := Aside0.mk (below_step (by repeat (first | (with_reducible first | exact HB.out | apply below_alloc | apply pw_below_drewN | apply below_drew1) | exact HB.out)) hb); clear HO425; clear HO429; clear HB; have HO425 := n0_; have HO429 := n1_; have HO433 := n2_; have HB := n3_; clear n0_ n1_ n2_ n3_; clear hb ho37; obtain ⟨Ao38, co38, eo38⟩ := Kd.R_slice HO433.out; subst eo38; have p434 : 0 ≤ ((ji27) : Int) := of_decide_eq_true (by first | (with_reducible assumption) | assumption); have q434 : (ji27) < (y431.length : Int) := of_decide_eq_true (by first | (with_reducible assumption) | assumption); obtain ⟨ad434, e434, hx434_0⟩ := Kd.at_string (Kd.R_reads' HO433.out).2.2 (ji27) p434 q434; cases e434; replace p434 := eq_true p434; replace q434 := eq_true q434)); try go_wp2_with (first | ((with_reducible refine gate_dst (N := 53) rfl ?_); (try (refine gate_guard (by rfl) ?_; dsimp only)); refine Kd.R_lit Kd.string _ 9 ?hg (N := 53) ?hd (xs := ([(⟨#[32]⟩ : ByteArray), (⟨#[10, 32]⟩ : ByteArray), (⟨#[32, 32]⟩ : ByteArray)] : List ByteArray)) (inner := [.string (⟨#[32]⟩ : ByteArray), .string (⟨#[10, 32]⟩ : ByteArray), .string (⟨#[32, 32]⟩ : ByteArray)]) (ok := fun _ => True) (okp := fun _ => True) ?hr ?hp (fun _ hk => hk) trivial (Below.refl _ _) (Nat.le_refl _) (by simp) ?_; (case hd => rfl); (case hg => rfl); (case hr => first | (go_simp; done) | (go_simp; rfl)); (case hp => exact (Reps.one (show Kd.M Kd.string _ _ _ (⟨#[32]⟩ : ByteArray) [.string (⟨#[32]⟩ : ByteArray)] from rfl) (Reps.one (show Kd.M Kd.string _ _ _ (⟨#[10, 32]⟩ : ByteArray) [.string (⟨#[10, 32]⟩ : ByteArray)] from rfl) (Reps.one (show Kd.M Kd.string _ _ _ (⟨#[32, 32]⟩ : ByteArray) [.string (⟨#[32, 32]⟩ : ByteArray)] from rfl) (Reps.none _ _))))); intro v424 w30 ho31 hb hg_ hnew_; clear hg_ hnew_; (first | rw [← Ny423.out] at ho31 | (simp only [Int.reduceToNat] at ho31; rw [← Ny423.out] at ho31)); have n0_ := Aside0.mk (Kd.R_lower ho31 (below_size (by repeat (first | (with_reducible first | exact HB.out | apply below_alloc | apply pw_below_drewN | apply below_drew1) | exact HB.out)))); have n1_ := Aside0.mk (below_step (by repeat (first | (with_reducible first | exact HB.out | apply below_alloc | apply pw_below_drewN | apply below_drew1) | exact HB.out)) hb); clear HB; have HO425 := n0_; have HB := n1_; clear n0_ n1_; clear hb ho31; obtain ⟨Ao32, co32, eo32⟩ := Kd.R_slice HO425.out; subst eo32; have p426 : 0 ≤ ((ji21) : Int) := of_decide_eq_true (by first | (with_reducible assumption) | assumption); have q426 : (ji21) < (y423.length : Int) := of_decide_eq_true (by first | (with_reducible assumption) | assumption); obtain ⟨ad426, e426, hx426_0⟩ := Kd.at_string (Kd.R_reads' HO425.out).2.2 (ji21) p426 q426; cases e426; replace p426 := eq_true p426; replace q426 := eq_true q426) | ((with_reducible refine gate_dst (N := 58) rfl ?_); (try (refine gate_guard (by rfl) ?_; dsimp only)); refine Kd.R_lit Kd.string _ 9 ?hg (N := 58) ?hd (xs := ([(⟨#[61]⟩ : ByteArray), (⟨#[32, 61, 32]⟩ : ByteArray), (⟨#[61, 9]⟩ : ByteArray)] : List ByteArray)) (inner := [.string (⟨#[61]⟩ : ByteArray), .string (⟨#[32, 61, 32]⟩ : ByteArray), .string (⟨#[61, 9]⟩ : ByteArray)]) (ok := fun _ => True) (okp := fun _ => True) ?hr ?hp (fun _ hk => hk) trivial (Below.refl _ _) (Nat.le_refl _) (by simp) ?_; (case hd => rfl); (case hg => rfl); (case hr => first | (go_simp; done) | (go_simp; rfl)); (case hp => exact (Reps.one (show Kd.M Kd.string _ _ _ (⟨#[61]⟩ : ByteArray) [.string (⟨#[61]⟩ : ByteArray)] from rfl) (Reps.one (show Kd.M Kd.string _ _ _ (⟨#[32, 61, 32]⟩ : ByteArray) [.string (⟨#[32, 61, 32]⟩ : ByteArray)] from rfl) (Reps.one (show Kd.M Kd.string _ _ _ (⟨#[61, 9]⟩ : ByteArray) [.string (⟨#[61, 9]⟩ : ByteArray)] from rfl) (Reps.none _ _))))); intro v428 w33 ho34 hb hg_ hnew_; clear hg_ hnew_; (first | rw [← Ny427.out] at ho34 | (simp only [Int.reduceToNat] at ho34; rw [← Ny427.out] at ho34)); have n0_ := Aside0.mk (Kd.R_elder' (by (with_reducible repeat (first | apply Kd.R_alloc | apply Kd.R_drewN | apply Kd.R_drew)); exact HO425.out) (Kd.R_base ho34) hb); have n1_ := Aside0.mk (Kd.R_lower (Kd.R_new' ho34 (Kd.R_lt (by (with_reducible repeat (first | apply Kd.R_alloc | apply Kd.R_drewN | apply Kd.R_drew)); exact HO425.out))) (below_size (by repeat (first | (with_reducible first | exact HB.out | apply below_alloc | apply pw_below_drewN | apply below_drew1) | exact HB.out)))); have n2_ := Aside0.mk (below_step (by repeat (first | (with_reducible first | exact HB.out | apply below_alloc | apply pw_below_drewN | apply below_drew1) | exact HB.out)) hb); clear HO425; clear HB; have HO425 := n0_; have HO429 := n1_; have HB := n2_; clear n0_ n1_ n2_; clear hb ho34; obtain ⟨Ao35, co35, eo35⟩ := Kd.R_slice HO429.out; subst eo35; have p430 : 0 ≤ ((ji24) : Int) := of_decide_eq_true (by first | (with_reducible assumption) | assumption); have q430 : (ji24) < (y427.length : Int) := of_decide_eq_true (by first | (with_reducible assumption) | assumption); obtain ⟨ad430, e430, hx430_0⟩ := Kd.at_string (Kd.R_reads' HO429.out).2.2 (ji24) p430 q430; cases e430; replace p430 := eq_true p430; replace q430 := eq_true q430) | ((with_reducible refine gate_dst (N := 64) rfl ?_); (try (refine gate_guard (by rfl) ?_; dsimp only)); refine Kd.R_lit Kd.string _ 9 ?hg (N := 64) ?hd (xs := ([(⟨#[39]⟩ : ByteArray), (⟨#[34]⟩ : ByteArray)] : List ByteArray)) (inner := [.string (⟨#[39]⟩ : ByteArray), .string (⟨#[34]⟩ : ByteArray)]) (ok := fun _ => True) (okp := fun _ => True) ?hr ?hp (fun _ hk => hk) trivial (Below.refl _ _) (Nat.le_refl _) (by simp) ?_; (case hd => rfl); (case hg => rfl); (case hr => first | (go_simp; done) | (go_simp; rfl)); (case hp => exact (Reps.one (show Kd.M Kd.string _ _ _ (⟨#[39]⟩ : ByteArray) [.string (⟨#[39]⟩ : ByteArray)] from rfl) (Reps.one (show Kd.M Kd.string _ _ _ (⟨#[34]⟩ : ByteArray) [.string (⟨#[34]⟩ : ByteArray)] from rfl) (Reps.none _ _)))); intro v432 w36 ho37 hb hg_ hnew_; clear hg_ hnew_; (first | rw [← Ny431.out] at ho37 | (simp only [Int.reduceToNat] at ho37; rw [← Ny431.out] at ho37)); have n0_ := Aside0.mk (Kd.R_elder' (by (with_reducible repeat (first | apply Kd.R_alloc | apply Kd.R_drewN | apply Kd.R_drew)); exact HO425.out) (Kd.R_base ho37) hb); have n1_ := Aside0.mk (Kd.R_elder' (by (with_reducible repeat (first | apply Kd.R_alloc | apply Kd.R_drewN | apply Kd.R_drew)); exact HO429.out) (Kd.R_base ho37) hb); have n2_ := Aside0.mk (Kd.R_lower (Kd.R_new' (Kd.R_new' ho37 (Kd.R_lt (by (with_reducible repeat (first | apply Kd.R_alloc | apply Kd.R_drewN | apply Kd.R_drew)); exact HO425.out))) (Kd.R_lt (by (with_reducible repeat (first | apply Kd.R_alloc | apply Kd.R_drewN | apply Kd.R_drew)); exact HO429.out))) (below_size (by repeat (first | (with_reducible first | exact HB.out | apply below_alloc | apply pw_below_drewN | apply below_drew1) | exact HB.out)))); have n3_ := Aside0.mk (below_step (by repeat (first | (with_reducible first | exact HB.out | apply below_alloc | apply pw_below_drewN | apply below_drew1) | exact HB.out)) hb); clear HO425; clear HO429; clear HB; have HO425 := n0_; have HO429 := n1_; have HO433 := n2_; have HB := n3_; clear n0_ n1_ n2_ n3_; clear hb ho37; obtain ⟨Ao38, co38, eo38⟩ := Kd.R_slice HO433.out; subst eo38; have p434 : 0 ≤ ((ji27) : Int) := of_decide_eq_true (by first | (with_reducible assumption) | assumption); have q434 : (ji27) < (y431.length : Int) := of_decide_eq_true (by first | (with_reducible assumption) | assumption); obtain ⟨ad434, e434, hx434_0⟩ := Kd.at_string (Kd.R_reads' HO433.out).2.2 (ji27) p434 q434; cases e434; replace p434 := eq_true p434; replace q434 := eq_true q434)))
           go_loopg [13, 14] k1 (fun kq v13 v14 w' => ∃ (x13_2 : ByteArray) (x14_2 : Int), v13 = .string x13_2 ∧ v14 = .int .i64 x14_2 ∧ Aside0 (brackenlaw10_TokenAttrs.l1 kq a2 (wrap64 (Int.tmod (IntKind.u64.wrap (a0)) 9)) (IntKind.u64.wrap (a1)) (rdOf ByteArray.empty y423 (ji21)) (rdOf ByteArray.empty y427 (ji24)) (rdOf ByteArray.empty y431 (ji27)) x13_2 x14_2 = some r) ∧ Aside0 (kq ≤ k1) ∧ Aside0 (Below w.heap.size w w'))
           case atStart => exact ⟨((⟨#[60, 112, 58, 97]⟩ : ByteArray)), (0), (by first | rfl | (simp; done) | (simp [*]; done)), (by first | rfl | (simp; done) | (simp [*]; done)), H', ⟨Nat.le_refl _⟩, ⟨by repeat (first | (with_reducible first | exact HB.out | apply below_alloc | apply pw_below_drewN | apply below_drew1) | exact HB.out)⟩⟩
           case round =>
            clear H'
            try clear c1
            try clear p1
            try clear q1
            try clear hx1
            try clear c2
            try clear p2
            try clear c4
            try clear c4b0
            try clear c4b1
            try clear p4
            try clear q4
            try clear hx4
            try clear c6
            try clear p6
            try clear c7
            try clear c7b0
            try clear c8
            try clear c8b0
            try clear p9
            try clear q9
            try clear hx9
            try clear c10
            try clear c10b0
            try clear c10b1
            try clear p13
            try clear q13
            try clear hx13
            try clear c14
            try clear c14b0
            try clear c14b1
            try clear p17
            try clear q17
            try clear hx17
            try clear c18
            try clear c18b0
            try clear c18b1
            try clear c22
            try clear c22b0
            try clear c23
            try clear c23b0
            try clear c25
            try clear c25b0
            try clear c26
            try clear c26b0
            try clear c28
            try clear c28b0
            try clear c29
            try clear c29b0
            try clear hx426_0
            try clear hx430_0
            try clear hx434_0
            try clear p13
            try clear p17
            try clear p2
            try clear p426
            try clear p430
            try clear p434
            try clear p9
            try clear q13
            try clear q17
            try clear q426
            try clear q430
            try clear q434
            try clear q9
            obtain ⟨x13_2, x14_2, rfl, rfl, HA, HK2, HB⟩ := hrel
            cases gk with
            | zero => exact absurd HA.out (by simp [brackenlaw10_TokenAttrs.l1])
            | succ k2 =>
             have H := HA.out
             clear HA
             simp only [brackenlaw10_TokenAttrs.l1] at H
             by_cases c39 : x14_2 < (wrap64 (Int.tmod (IntKind.u64.wrap (a0)) 9))
             ·rw [if_pos c39] at H
              have c39b0 : decide (x14_2 < (wrap64 (Int.tmod (IntKind.u64.wrap (a0)) 9))) = true := decide_eq_true c39
              clear c39
              by_cases c40 : x13_2.size + (rdOf ByteArray.empty y423 (ji21)).size ≤ 9223372036854775807
              ·rw [if_pos c40] at H
               have c40b0 := eq_true c40
               have c40b1 : decide (x13_2.size + (rdOf ByteArray.empty y423 (ji21)).size ≤ 9223372036854775807) = true := decide_eq_true c40
               try have c40b2 : (9223372036854775807 < x13_2.size + (rdOf ByteArray.empty y423 (ji21)).size) = False := eq_false (Nat.not_lt.2 c40)
               by_cases c41 : x13_2.size + (rdOf ByteArray.empty y423 (ji21)).size + 1 ≤ 9223372036854775807
               ·rw [if_pos c41] at H
                have c41b0 := eq_true c41
                have c41b1 : decide (x13_2.size + (rdOf ByteArray.empty y423 (ji21)).size + 1 ≤ 9223372036854775807) = true := decide_eq_true c41
                try have c41b2 : (9223372036854775807 < x13_2.size + (rdOf ByteArray.empty y423 (ji21)).size + 1) = False := eq_false (Nat.not_lt.2 c41)
                by_cases c42 : 0 ≤ x14_2
                ·rw [if_pos c42] at H
                 have c42b0 := eq_true c42
                 have c42b1 : decide (0 ≤ x14_2) = true := decide_eq_true c42
                 clear c42
                 by_cases c43 : x14_2 ≤ (wrap64 (x14_2 + 1))
                 ·rw [if_pos c43] at H
                  have c43b0 := eq_true c43
                  have c43b1 : decide (x14_2 ≤ (wrap64 (x14_2 + 1))) = true := decide_eq_true c43
                  by_cases c44 : (wrap64 (x14_2 + 1)) ≤ 8
                  ·rw [if_pos c44] at H
                   have c44b0 := eq_true c44
                   have c44b1 : decide ((wrap64 (x14_2 + 1)) ≤ 8) = true := decide_eq_true c44
                   obtain ⟨Ex14_2, hE_x14_2⟩ : ∃ X, (⟨#[97, 98, 99, 100, 101, 102, 103, 104]⟩ : ByteArray).extract (x14_2 : Int).toNat ((wrap64 (x14_2 + 1)) : Int).toNat = X := ⟨_, rfl⟩
                   rw [hE_x14_2] at H
                   by_cases c45 : x13_2.size + (rdOf ByteArray.empty y423 (ji21)).size + 1 + Ex14_2.size ≤ 9223372036854775807
                   ·rw [if_pos c45] at H
                    have c45b0 := eq_true c45
                    have c45b1 : decide (x13_2.size + (rdOf ByteArray.empty y423 (ji21)).size + 1 + Ex14_2.size ≤ 9223372036854775807) = true := decide_eq_true c45
                    try have c45b2 : (9223372036854775807 < x13_2.size + (rdOf ByteArray.empty y423 (ji21)).size + 1 + Ex14_2.size) = False := eq_false (Nat.not_lt.2 c45)
                    by_cases c46 : x13_2.size + (rdOf ByteArray.empty y423 (ji21)).size + 1 + (Ex14_2.size) + (rdOf ByteArray.empty y427 (ji24)).size ≤ 9223372036854775807
                    ·rw [if_pos c46] at H
                     have c46b0 := eq_true c46
                     have c46b1 : decide (x13_2.size + (rdOf ByteArray.empty y423 (ji21)).size + 1 + (Ex14_2.size) + (rdOf ByteArray.empty y427 (ji24)).size ≤ 9223372036854775807) = true := decide_eq_true c46
                     try have c46b2 : (9223372036854775807 < x13_2.size + (rdOf ByteArray.empty y423 (ji21)).size + 1 + (Ex14_2.size) + (rdOf ByteArray.empty y427 (ji24)).size) = False := eq_false (Nat.not_lt.2 c46)
                     by_cases c47 : x13_2.size + (rdOf ByteArray.empty y423 (ji21)).size + 1 + (Ex14_2.size) + (rdOf ByteArray.empty y427 (ji24)).size + (rdOf ByteArray.empty y431 (ji27)).size ≤ 9223372036854775807
                     ·rw [if_pos c47] at H
                      have c47b0 := eq_true c47
                      have c47b1 : decide (x13_2.size + (rdOf ByteArray.empty y423 (ji21)).size + 1 + (Ex14_2.size) + (rdOf ByteArray.empty y427 (ji24)).size + (rdOf ByteArray.empty y431 (ji27)).size ≤ 9223372036854775807) = true := decide_eq_true c47
                      try have c47b2 : (9223372036854775807 < x13_2.size + (rdOf ByteArray.empty y423 (ji21)).size + 1 + (Ex14_2.size) + (rdOf ByteArray.empty y427 (ji24)).size + (rdOf ByteArray.empty y431 (ji27)).size) = False := eq_false (Nat.not_lt.2 c47)
                      by_cases c48 : x13_2.size + (rdOf ByteArray.empty y423 (ji21)).size + 1 + (Ex14_2.size) + (rdOf ByteArray.empty y427 (ji24)).size + (rdOf ByteArray.empty y431 (ji27)).size + a2.size ≤ 9223372036854775807
                      ·rw [if_pos c48] at H
                       have c48b0 := eq_true c48
                       have c48b1 : decide (x13_2.size + (rdOf ByteArray.empty y423 (ji21)).size + 1 + (Ex14_2.size) + (rdOf ByteArray.empty y427 (ji24)).size + (rdOf ByteArray.empty y431 (ji27)).size + a2.size ≤ 9223372036854775807) = true := decide_eq_true c48
                       try have c48b2 : (9223372036854775807 < x13_2.size + (rdOf ByteArray.empty y423 (ji21)).size + 1 + (Ex14_2.size) + (rdOf ByteArray.empty y427 (ji24)).size + (rdOf ByteArray.empty y431 (ji27)).size + a2.size) = False := eq_false (Nat.not_lt.2 c48)
                       by_cases c49 : x13_2.size + (rdOf ByteArray.empty y423 (ji21)).size + 1 + (Ex14_2.size) + (rdOf ByteArray.empty y427 (ji24)).size + (rdOf ByteArray.empty y431 (ji27)).size + a2.size + (rdOf ByteArray.empty y431 (ji27)).size ≤ 9223372036854775807
                       ·rw [if_pos c49] at H
                        have c49b0 := eq_true c49
                        have c49b1 : decide (x13_2.size + (rdOf ByteArray.empty y423 (ji21)).size + 1 + (Ex14_2.size) + (rdOf ByteArray.empty y427 (ji24)).size + (rdOf ByteArray.empty y431 (ji27)).size + a2.size + (rdOf ByteArray.empty y431 (ji27)).size ≤ 9223372036854775807) = true := decide_eq_true c49
                        try have c49b2 : (9223372036854775807 < x13_2.size + (rdOf ByteArray.empty y423 (ji21)).size + 1 + (Ex14_2.size) + (rdOf ByteArray.empty y427 (ji24)).size + (rdOf ByteArray.empty y431 (ji27)).size + a2.size + (rdOf ByteArray.empty y431 (ji27)).size) = False := eq_false (Nat.not_lt.2 c49)
                        have H' := Aside0.mk H
                        clear H
                        go_wp2
                        repeat (go_quiet (fail); try go_wp2)
                        go_roundg k2
                        case measure => have := HK1.out; have := HK2.out; omega
                        case rel => exact ⟨(((((((x13_2 ++ (rdOf ByteArray.empty y423 (ji21))) ++ (⟨#[120]⟩ : ByteArray)) ++ Ex14_2) ++ (rdOf ByteArray.empty y427 (ji24))) ++ (rdOf ByteArray.empty y431 (ji27))) ++ a2) ++ (rdOf ByteArray.empty y431 (ji27))), (wrap64 (x14_2 + 1)), (by first | rfl | (simp; done) | (simp only [← hji21, ← hji24, ← hji27] <;> (first | rfl | simp)) | (simp [*]; done)), (by first | rfl | (simp; done) | (simp [*]; done)), H', ⟨by have := HK1.out; have := HK2.out; omega⟩, ⟨by repeat (first | (with_reducible first | exact HB.out | apply below_alloc | apply pw_below_drewN | apply below_drew1) | exact HB.out)⟩⟩
                       ·rw [if_neg c49] at H
                        exact absurd H (by simp)
                      ·rw [if_neg c48] at H
                       exact absurd H (by simp)
                     ·rw [if_neg c47] at H
                      exact absurd H (by simp)
                    ·rw [if_neg c46] at H
                     exact absurd H (by simp)
                   ·rw [if_neg c45] at H
                    exact absurd H (by simp)
                  ·rw [if_neg c44] at H
                   exact absurd H (by simp)
                 ·rw [if_neg c43] at H
                  exact absurd H (by simp)
                ·rw [if_neg c42] at H
                 exact absurd H (by simp)
               ·rw [if_neg c41] at H
                exact absurd H (by simp)
              ·rw [if_neg c40] at H
               exact absurd H (by simp)
             ·rw [if_neg c39] at H
              have c39b0 : decide (x14_2 < (wrap64 (Int.tmod (IntKind.u64.wrap (a0)) 9))) = false := decide_eq_false c39
              clear c39
              by_cases c50 : (rdOf ByteArray.empty y423 (ji21)).size + 1 ≤ 9223372036854775807
              ·rw [if_pos c50] at H
               have c50b0 := eq_true c50
               have c50b1 : decide ((rdOf ByteArray.empty y423 (ji21)).size + 1 ≤ 9223372036854775807) = true := decide_eq_true c50
               try have c50b2 : (9223372036854775807 < (rdOf ByteArray.empty y423 (ji21)).size + 1) = False := eq_false (Nat.not_lt.2 c50)
               by_cases c51 : (rdOf ByteArray.empty y423 (ji21)).size + 2 ≤ 9223372036854775807
               ·rw [if_pos c51] at H
                have c51b0 := eq_true c51
                have c51b1 : decide ((rdOf ByteArray.empty y423 (ji21)).size + 2 ≤ 9223372036854775807) = true := decide_eq_true c51
                try have c51b2 : (9223372036854775807 < (rdOf ByteArray.empty y423 (ji21)).size + 2) = False := eq_false (Nat.not_lt.2 c51)
                obtain ⟨y435, hy435⟩ : ∃ y_ : List ByteArray, y_ = (([(⟨#[62]⟩ : ByteArray), (⟨#[47, 62]⟩ : ByteArray), (rdOf ByteArray.empty y423 (ji21)) ++ (⟨#[62]⟩ : ByteArray), (rdOf ByteArray.empty y423 (ji21)) ++ (⟨#[47, 62]⟩ : ByteArray)] : List ByteArray)) := ⟨_, rfl⟩
                replace H : (if 0 ≤ (Int.tmod (IntKind.u64.wrap (Int.tdiv (IntKind.u64.wrap (a1)) 18)) 4) then (if (Int.tmod (IntKind.u64.wrap (Int.tdiv (IntKind.u64.wrap (a1)) 18)) 4) < (y435.length : Int) then (if x13_2.size + (rdOf ByteArray.empty y435 (Int.tmod (IntKind.u64.wrap (Int.tdiv (IntKind.u64.wrap (a1)) 18)) 4)).size ≤ 9223372036854775807 then (if x13_2.size + (rdOf ByteArray.empty y435 (Int.tmod (IntKind.u64.wrap (Int.tdiv (IntKind.u64.wrap (a1)) 18)) 4)).size + 4 ≤ 9223372036854775807 then ((token_Next.f k2 ((x13_2 ++ (rdOf ByteArray.empty y435 (Int.tmod (IntKind.u64.wrap (Int.tdiv (IntKind.u64.wrap (a1)) 18)) 4))) ++ (⟨#[114, 101, 115, 116]⟩ : ByteArray)) 0).bind fun bt439 => (if bt439.2.2.2.2.2.2 = 0 then (if bt439.2.2.2.2.2.1 = ((x13_2 ++ (rdOf ByteArray.empty y435 (Int.tmod (IntKind.u64.wrap (Int.tdiv (IntKind.u64.wrap (a1)) 18)) 4))).size : Int) then (if bt439.1 = 2 then (if bt439.2.1.toList = ([112, 58, 97] : List UInt8) then (if (bt439.2.2.2.2.1 != ((Int.tmod (IntKind.u64.wrap (Int.tdiv (IntKind.u64.wrap (a1)) 18)) 2) == 1)) = true then (brackenlaw10_TokenAttrs.j2 k2 a2 (wrap64 (Int.tmod (IntKind.u64.wrap (a0)) 9)) true bt439.1 bt439.2.1 bt439.2.2.1 bt439.2.2.2.1 bt439.2.2.2.2.1) else (brackenlaw10_TokenAttrs.j2 k2 a2 (wrap64 (Int.tmod (IntKind.u64.wrap (a0)) 9)) ((bt439.2.2.2.1.length : Int) != (wrap64 (Int.tmod (IntKind.u64.wrap (a0)) 9))) bt439.1 bt439.2.1 bt439.2.2.1 bt439.2.2.2.1 bt439.2.2.2.2.1)) else (brackenlaw10_TokenAttrs.j2 k2 a2 (wrap64 (Int.tmod (IntKind.u64.wrap (a0)) 9)) true bt439.1 bt439.2.1 bt439.2.2.1 bt439.2.2.2.1 bt439.2.2.2.2.1)) else (brackenlaw10_TokenAttrs.j2 k2 a2 (wrap64 (Int.tmod (IntKind.u64.wrap (a0)) 9)) true bt439.1 bt439.2.1 bt439.2.2.1 bt439.2.2.2.1 bt439.2.2.2.2.1)) else (brackenlaw10_TokenAttrs.j2 k2 a2 (wrap64 (Int.tmod (IntKind.u64.wrap (a0)) 9)) true bt439.1 bt439.2.1 bt439.2.2.1 bt439.2.2.2.1 bt439.2.2.2.2.1)) else (brackenlaw10_TokenAttrs.j2 k2 a2 (wrap64 (Int.tmod (IntKind.u64.wrap (a0)) 9)) true bt439.1 bt439.2.1 bt439.2.2.1 bt439.2.2.2.1 bt439.2.2.2.2.1))) else (none)) else (none)) else (none)) else (none)) = some r := by first | (rw [hy435]; with_reducible exact H) | (have H2_ := (Option.bind_some _ _).symm.trans H; rw [hy435]; with_reducible exact H2_) | (have H2_ := (Option.bind_some _ _).symm.trans H; with_reducible exact H2_) | with_reducible exact H | (rw [hy435]; exact H) | exact H
                have Ny435 := Aside0.mk hy435
                clear hy435
                obtain ⟨ji52, hji52⟩ : ∃ j_ : Int, (Int.tmod (IntKind.u64.wrap (Int.tdiv (IntKind.u64.wrap (a1)) 18)) 4) = j_ := ⟨_, rfl⟩
                replace H : (if 0 ≤ (ji52) then (if (ji52) < (y435.length : Int) then (if x13_2.size + (rdOf ByteArray.empty y435 (ji52)).size ≤ 9223372036854775807 then (if x13_2.size + (rdOf ByteArray.empty y435 (ji52)).size + 4 ≤ 9223372036854775807 then ((token_Next.f k2 ((x13_2 ++ (rdOf ByteArray.empty y435 (ji52))) ++ (⟨#[114, 101, 115, 116]⟩ : ByteArray)) 0).bind fun bt439 => (if bt439.2.2.2.2.2.2 = 0 then (if bt439.2.2.2.2.2.1 = ((x13_2 ++ (rdOf ByteArray.empty y435 (ji52))).size : Int) then (if bt439.1 = 2 then (if bt439.2.1.toList = ([112, 58, 97] : List UInt8) then (if (bt439.2.2.2.2.1 != ((Int.tmod (IntKind.u64.wrap (Int.tdiv (IntKind.u64.wrap (a1)) 18)) 2) == 1)) = true then (brackenlaw10_TokenAttrs.j2 k2 a2 (wrap64 (Int.tmod (IntKind.u64.wrap (a0)) 9)) true bt439.1 bt439.2.1 bt439.2.2.1 bt439.2.2.2.1 bt439.2.2.2.2.1) else (brackenlaw10_TokenAttrs.j2 k2 a2 (wrap64 (Int.tmod (IntKind.u64.wrap (a0)) 9)) ((bt439.2.2.2.1.length : Int) != (wrap64 (Int.tmod (IntKind.u64.wrap (a0)) 9))) bt439.1 bt439.2.1 bt439.2.2.1 bt439.2.2.2.1 bt439.2.2.2.2.1)) else (brackenlaw10_TokenAttrs.j2 k2 a2 (wrap64 (Int.tmod (IntKind.u64.wrap (a0)) 9)) true bt439.1 bt439.2.1 bt439.2.2.1 bt439.2.2.2.1 bt439.2.2.2.2.1)) else (brackenlaw10_TokenAttrs.j2 k2 a2 (wrap64 (Int.tmod (IntKind.u64.wrap (a0)) 9)) true bt439.1 bt439.2.1 bt439.2.2.1 bt439.2.2.2.1 bt439.2.2.2.2.1)) else (brackenlaw10_TokenAttrs.j2 k2 a2 (wrap64 (Int.tmod (IntKind.u64.wrap (a0)) 9)) true bt439.1 bt439.2.1 bt439.2.2.1 bt439.2.2.2.1 bt439.2.2.2.2.1)) else (brackenlaw10_TokenAttrs.j2 k2 a2 (wrap64 (Int.tmod (IntKind.u64.wrap (a0)) 9)) true bt439.1 bt439.2.1 bt439.2.2.1 bt439.2.2.2.1 bt439.2.2.2.2.1))) else (none)) else (none)) else (none)) else (none)) = some r := by first | (rw [hji52] at H; exact H) | (simp only [hji52] at H ⊢; exact H)
                by_cases c53 : 0 ≤ (ji52)
                ·rw [if_pos c53] at H
                 have c53b0 : decide (0 ≤ (ji52)) = true := decide_eq_true c53
                 clear c53
                 by_cases c54 : (ji52) < (y435.length : Int)
                 ·rw [if_pos c54] at H
                  have c54b0 : decide ((ji52) < (y435.length : Int)) = true := decide_eq_true c54
                  clear c54
                  by_cases c55 : x13_2.size + (rdOf ByteArray.empty y435 (ji52)).size ≤ 9223372036854775807
                  ·rw [if_pos c55] at H
                   have c55b0 := eq_true c55
                   have c55b1 : decide (x13_2.size + (rdOf ByteArray.empty y435 (ji52)).size ≤ 9223372036854775807) = true := decide_eq_true c55
                   try have c55b2 : (9223372036854775807 < x13_2.size + (rdOf ByteArray.empty y435 (ji52)).size) = False := eq_false (Nat.not_lt.2 c55)
                   by_cases c56 : x13_2.size + (rdOf ByteArray.empty y435 (ji52)).size + 4 ≤ 9223372036854775807
                   ·rw [if_pos c56] at H
                    have c56b0 := eq_true c56
                    have c56b1 : decide (x13_2.size + (rdOf ByteArray.empty y435 (ji52)).size + 4 ≤ 9223372036854775807) = true := decide_eq_true c56
                    try have c56b2 : (9223372036854775807 < x13_2.size + (rdOf ByteArray.empty y435 (ji52)).size + 4) = False := eq_false (Nat.not_lt.2 c56)
                    replace H := Option.bind_eq_some_iff.mp H
                    obtain ⟨⟨t439, t440, t441, t442, t445, t446, t447⟩, A570, H⟩ := H
                    try dsimp only at H
                    have A57 := Aside0.mk A570
                    clear A570
                    have HC58 := Aside0.mk H
                    clear H
                    go_upto_region 19 with (first | ((with_reducible refine gate_dst (N := 96) rfl ?_); (try (refine gate_guard (by rfl) ?_; dsimp only)); refine Kd.R_lit Kd.string _ 9 ?hg (N := 96) ?hd (xs := ([(⟨#[62]⟩ : ByteArray), (⟨#[47, 62]⟩ : ByteArray), (rdOf ByteArray.empty y423 (ji21)) ++ (⟨#[62]⟩ : ByteArray), (rdOf ByteArray.empty y423 (ji21)) ++ (⟨#[47, 62]⟩ : ByteArray)] : List ByteArray)) (inner := [.string (⟨#[62]⟩ : ByteArray), .string (⟨#[47, 62]⟩ : ByteArray), .string ((rdOf ByteArray.empty y423 (ji21)) ++ (⟨#[62]⟩ : ByteArray)), .string ((rdOf ByteArray.empty y423 (ji21)) ++ (⟨#[47, 62]⟩ : ByteArray))]) (ok := fun _ => True) (okp := fun _ => True) ?hr ?hp (fun _ hk => hk) trivial (Below.refl _ _) (Nat.le_refl _) (by simp) ?_; (case hd => rfl); (case hg => rfl); (case hr => first | (go_simp; done) | (go_simp; rfl)); (case hp => exact (Reps.one (show Kd.M Kd.string _ _ _ (⟨#[62]⟩ : ByteArray) [.string (⟨#[62]⟩ : ByteArray)] from rfl) (Reps.one (show Kd.M Kd.string _ _ _ (⟨#[47, 62]⟩ : ByteArray) [.string (⟨#[47, 62]⟩ : ByteArray)] from rfl) (Reps.one (show Kd.M Kd.string _ _ _ ((rdOf ByteArray.empty y423 (ji21)) ++ (⟨#[62]⟩ : ByteArray)) [.string ((rdOf ByteArray.empty y423 (ji21)) ++ (⟨#[62]⟩ : ByteArray))] from rfl) (Reps.one (show Kd.M Kd.string _ _ _ ((rdOf ByteArray.empty y423 (ji21)) ++ (⟨#[47, 62]⟩ : ByteArray)) [.string ((rdOf ByteArray.empty y423 (ji21)) ++ (⟨#[47, 62]⟩ : ByteArray))] from rfl) (Reps.none _ _)))))); intro v436 w59 ho60 hb hg_ hnew_; clear hg_ hnew_; (first | rw [← Ny435.out] at ho60 | (simp only [Int.reduceToNat] at ho60; rw [← Ny435.out] at ho60)); have n0_ := Aside0.mk (Kd.R_lower ho60 (below_size (by repeat (first | (with_reducible first | exact HB.out | apply below_alloc | apply pw_below_drewN | apply below_drew1) | exact HB.out)))); have n1_ := Aside0.mk (below_step (by repeat (first | (with_reducible first | exact HB.out | apply below_alloc | apply pw_below_drewN | apply below_drew1) | exact HB.out)) hb); clear HB; have HO437 := n0_; have HB := n1_; clear n0_ n1_; clear hb ho60; obtain ⟨Ao61, co61, eo61⟩ := Kd.R_slice HO437.out; subst eo61; have p438 : 0 ≤ ((ji52) : Int) := of_decide_eq_true (by first | (with_reducible assumption) | assumption); have q438 : (ji52) < (y435.length : Int) := of_decide_eq_true (by first | (with_reducible assumption) | assumption); obtain ⟨ad438, e438, hx438_0⟩ := Kd.at_string (Kd.R_reads' HO437.out).2.2 (ji52) p438 q438; cases e438; replace p438 := eq_true p438; replace q438 := eq_true q438) | (go_at_call 15; (with_reducible refine (token_Next.calls k2 ((x13_2 ++ (rdOf ByteArray.empty y435 (ji52))) ++ (⟨#[114, 101, 115, 116]⟩ : ByteArray)) 0 t439 t440 t441 t442 t445 t446 t447 _ (Env.below HE.out (by repeat (first | (with_reducible first | exact HB.out | apply below_alloc | apply pw_below_drewN | apply below_drew1) | exact HB.out))) A57.out).mono ?_); rintro e w62 ⟨v443, rfl, ho0, hb⟩; have n0_ := Aside0.mk (Kd.R_below (by (with_reducible repeat (first | apply Kd.R_alloc | apply Kd.R_drewN | apply Kd.R_drew)); exact HO437.out) hb); have n1_ := Aside0.mk (Kd.R_lower ho0 (below_size (by repeat (first | (with_reducible first | exact HB.out | apply below_alloc | apply pw_below_drewN | apply below_drew1) | exact HB.out)))); have n2_ := Aside0.mk (below_step (by repeat (first | (with_reducible first | exact HB.out | apply below_alloc | apply pw_below_drewN | apply below_drew1) | exact HB.out)) hb); clear HO437; clear HB; have HO437 := n0_; have HO444 := n1_; have HB := n2_; clear n0_ n1_ n2_; (try clear hb); (try clear hb2); (try clear hk); (try clear hi); (try clear ho0)) | ((with_reducible refine gate_dst (N := 16) rfl ?_); (try (refine gate_guard (by rfl) ?_; dsimp only)); refine box_event ?hg (N := 16) ?hd (cs := #[.int .i64 0, .string (⟨#[]⟩ : ByteArray), .string (⟨#[]⟩ : ByteArray), .slice none 0 0, .bool false]) (t := 27) ?hr ?_; (case hd => rfl); (case hg => rfl); (case hr => first | (go_simp; done) | (go_simp; rfl)); intro gb448 hg w63 hbox hb; have n0_ := Aside0.mk (Kd.R_below (by (with_reducible repeat (first | apply Kd.R_alloc | apply Kd.R_drewN | apply Kd.R_drew)); exact HO437.out) hb); have n1_ := Aside0.mk (Kd.R_below (by (with_reducible repeat (first | apply Kd.R_alloc | apply Kd.R_drewN | apply Kd.R_drew)); exact HO444.out) hb); have n2_ := Aside0.mk (below_step (by repeat (first | (with_reducible first | exact HB.out | apply below_alloc | apply pw_below_drewN | apply below_drew1) | exact HB.out)) hb); have n3_ := Aside0.mk (hbox); have n4_ := Aside0.mk ((by rw [hg]; exact (below_size (by repeat (first | (with_reducible first | exact HB.out | apply below_alloc | apply pw_below_drewN | apply below_drew1) | exact HB.out))) : w.heap.size ≤ gb448)); have n5_ := Aside0.mk ((by rw [hg]; exact (below_size (by repeat (first | (with_reducible first | exact HB.out | apply below_alloc | apply pw_below_drewN | apply below_drew1) | exact HB.out))) : w.heap.size ≤ gb448)); clear HO437; clear HO444; clear HB; have HO437 := n0_; have HO444 := n1_; have HB := n2_; have BK448 := n3_; have GW448 := n4_; have GE448 := n5_; clear n0_ n1_ n2_ n3_ n4_ n5_; clear hb hbox hg; have hcz64_0 : w63.cell? ⟨gb448, 0, none⟩ = some (.int .i64 0) := (blk_cell BK448.out 0).trans rfl; have hcz64_1 : w63.cell? ⟨gb448, 1, none⟩ = some (.string (⟨#[]⟩ : ByteArray)) := (blk_cell BK448.out 1).trans rfl; have hcz64_2 : w63.cell? ⟨gb448, 2, none⟩ = some (.string (⟨#[]⟩ : ByteArray)) := (blk_cell BK448.out 2).trans rfl; have hcz64_3 : w63.cell? ⟨gb448, 3, none⟩ = some (.slice none 0 0) := (blk_cell BK448.out 3).trans rfl; have hcz64_4 : w63.cell? ⟨gb448, 4, none⟩ = some (.bool false) := (blk_cell BK448.out 4).trans rfl; have hfz64_0 := blk_frozen BK448.out 0; have hfz64_1 := blk_frozen BK448.out 1; have hfz64_2 := blk_frozen BK448.out 2; have hfz64_3 := blk_frozen BK448.out 3; have hfz64_4 := blk_frozen BK448.out 4; obtain ⟨Ao65, co65, eo65⟩ := Kd.R_slice HO444.out; subst eo65))
                    repeat (go_quiet (first | ((with_reducible refine gate_dst (N := 96) rfl ?_); (try (refine gate_guard (by rfl) ?_; dsimp only)); refine Kd.R_lit Kd.string _ 9 ?hg (N := 96) ?hd (xs := ([(⟨#[62]⟩ : ByteArray), (⟨#[47, 62]⟩ : ByteArray), (rdOf ByteArray.empty y423 (ji21)) ++ (⟨#[62]⟩ : ByteArray), (rdOf ByteArray.empty y423 (ji21)) ++ (⟨#[47, 62]⟩ : ByteArray)] : List ByteArray)) (inner := [.string (⟨#[62]⟩ : ByteArray), .string (⟨#[47, 62]⟩ : ByteArray), .string ((rdOf ByteArray.empty y423 (ji21)) ++ (⟨#[62]⟩ : ByteArray)), .string ((rdOf ByteArray.empty y423 (ji21)) ++ (⟨#[47, 62]⟩ : ByteArray))]) (ok := fun _ => True) (okp := fun _ => True) ?hr ?hp (fun _ hk => hk) trivial (Below.refl _ _) (Nat.le_refl _) (by simp) ?_; (case hd => rfl); (case hg => rfl); (case hr => first | (go_simp; done) | (go_simp; rfl)); (case hp => exact (Reps.one (show Kd.M Kd.string _ _ _ (⟨#[62]⟩ : ByteArray) [.string (⟨#[62]⟩ : ByteArray)] from rfl) (Reps.one (show Kd.M Kd.string _ _ _ (⟨#[47, 62]⟩ : ByteArray) [.string (⟨#[47, 62]⟩ : ByteArray)] from rfl) (Reps.one (show Kd.M Kd.string _ _ _ ((rdOf ByteArray.empty y423 (ji21)) ++ (⟨#[62]⟩ : ByteArray)) [.string ((rdOf ByteArray.empty y423 (ji21)) ++ (⟨#[62]⟩ : ByteArray))] from rfl) (Reps.one (show Kd.M Kd.string _ _ _ ((rdOf ByteArray.empty y423 (ji21)) ++ (⟨#[47, 62]⟩ : ByteArray)) [.string ((rdOf ByteArray.empty y423 (ji21)) ++ (⟨#[47, 62]⟩ : ByteArray))] from rfl) (Reps.none _ _)))))); intro v436 w59 ho60 hb hg_ hnew_; clear hg_ hnew_; (first | rw [← Ny435.out] at ho60 | (simp only [Int.reduceToNat] at ho60; rw [← Ny435.out] at ho60)); have n0_ := Aside0.mk (Kd.R_lower ho60 (below_size (by repeat (first | (with_reducible first | exact HB.out | apply below_alloc | apply pw_below_drewN | apply below_drew1) | exact HB.out)))); have n1_ := Aside0.mk (below_step (by repeat (first | (with_reducible first | exact HB.out | apply below_alloc | apply pw_below_drewN | apply below_drew1) | exact HB.out)) hb); clear HB; have HO437 := n0_; have HB := n1_; clear n0_ n1_; clear hb ho60; obtain ⟨Ao61, co61, eo61⟩ := Kd.R_slice HO437.out; subst eo61; have p438 : 0 ≤ ((ji52) : Int) := of_decide_eq_true (by first | (with_reducible assumption) | assumption); have q438 : (ji52) < (y435.length : Int) := of_decide_eq_true (by first | (with_reducible assumption) | assumption); obtain ⟨ad438, e438, hx438_0⟩ := Kd.at_string (Kd.R_reads' HO437.out).2.2 (ji52) p438 q438; cases e438; replace p438 := eq_true p438; replace q438 := eq_true q438) | (go_at_call 15; (with_reducible refine (token_Next.calls k2 ((x13_2 ++ (rdOf ByteArray.empty y435 (ji52))) ++ (⟨#[114, 101, 115, 116]⟩ : ByteArray)) 0 t439 t440 t441 t442 t445 t446 t447 _ (Env.below HE.out (by repeat (first | (with_reducible first | exact HB.out | apply below_alloc | apply pw_below_drewN | apply below_drew1) | exact HB.out))) A57.out).mono ?_); rintro e w62 ⟨v443, rfl, ho0, hb⟩; have n0_ := Aside0.mk (Kd.R_below (by (with_reducible repeat (first | apply Kd.R_alloc | apply Kd.R_drewN | apply Kd.R_drew)); exact HO437.out) hb); have n1_ := Aside0.mk (Kd.R_lower ho0 (below_size (by repeat (first | (with_reducible first | exact HB.out | apply below_alloc | apply pw_below_drewN | apply below_drew1) | exact HB.out)))); have n2_ := Aside0.mk (below_step (by repeat (first | (with_reducible first | exact HB.out | apply below_alloc | apply pw_below_drewN | apply below_drew1) | exact HB.out)) hb); clear HO437; clear HB; have HO437 := n0_; have HO444 := n1_; have HB := n2_; clear n0_ n1_ n2_; (try clear hb); (try clear hb2); (try clear hk); (try clear hi); (try clear ho0)) | ((with_reducible refine gate_dst (N := 16) rfl ?_); (try (refine gate_guard (by rfl) ?_; dsimp only)); refine box_event ?hg (N := 16) ?hd (cs := #[.int .i64 0, .string (⟨#[]⟩ : ByteArray), .string (⟨#[]⟩ : ByteArray), .slice none 0 0, .bool false]) (t := 27) ?hr ?_; (case hd => rfl); (case hg => rfl); (case hr => first | (go_simp; done) | (go_simp; rfl)); intro gb448 hg w63 hbox hb; have n0_ := Aside0.mk (Kd.R_below (by (with_reducible repeat (first | apply Kd.R_alloc | apply Kd.R_drewN | apply Kd.R_drew)); exact HO437.out) hb); have n1_ := Aside0.mk (Kd.R_below (by (with_reducible repeat (first | apply Kd.R_alloc | apply Kd.R_drewN | apply Kd.R_drew)); exact HO444.out) hb); have n2_ := Aside0.mk (below_step (by repeat (first | (with_reducible first | exact HB.out | apply below_alloc | apply pw_below_drewN | apply below_drew1) | exact HB.out)) hb); have n3_ := Aside0.mk (hbox); have n4_ := Aside0.mk ((by rw [hg]; exact (below_size (by repeat (first | (with_reducible first | exact HB.out | apply below_alloc | apply pw_below_drewN | apply below_drew1) | exact HB.out))) : w.heap.size ≤ gb448)); have n5_ := Aside0.mk ((by rw [hg]; exact (below_size (by repeat (first | (with_reducible first | exact HB.out | apply below_alloc | apply pw_below_drewN | apply below_drew1) | exact HB.out))) : w.heap.size ≤ gb448)); clear HO437; clear HO444; clear HB; have HO437 := n0_; have HO444 := n1_; have HB := n2_; have BK448 := n3_; have GW448 := n4_; have GE448 := n5_; clear n0_ n1_ n2_ n3_ n4_ n5_; clear hb hbox hg; have hcz64_0 : w63.cell? ⟨gb448, 0, none⟩ = some (.int .i64 0) := (blk_cell BK448.out 0).trans rfl; have hcz64_1 : w63.cell? ⟨gb448, 1, none⟩ = some (.string (⟨#[]⟩ : ByteArray)) := (blk_cell BK448.out 1).trans rfl; have hcz64_2 : w63.cell? ⟨gb448, 2, none⟩ = some (.string (⟨#[]⟩ : ByteArray)) := (blk_cell BK448.out 2).trans rfl; have hcz64_3 : w63.cell? ⟨gb448, 3, none⟩ = some (.slice none 0 0) := (blk_cell BK448.out 3).trans rfl; have hcz64_4 : w63.cell? ⟨gb448, 4, none⟩ = some (.bool false) := (blk_cell BK448.out 4).trans rfl; have hfz64_0 := blk_frozen BK448.out 0; have hfz64_1 := blk_frozen BK448.out 1; have hfz64_2 := blk_frozen BK448.out 2; have hfz64_3 := blk_frozen BK448.out 3; have hfz64_4 := blk_frozen BK448.out 4; obtain ⟨Ao65, co65, eo65⟩ := Kd.R_slice HO444.out; subst eo65)); go_upto_region 19 with (first | ((with_reducible refine gate_dst (N := 96) rfl ?_); (try (refine gate_guard (by rfl) ?_; dsimp only)); refine Kd.R_lit Kd.string _ 9 ?hg (N := 96) ?hd (xs := ([(⟨#[62]⟩ : ByteArray), (⟨#[47, 62]⟩ : ByteArray), (rdOf ByteArray.empty y423 (ji21)) ++ (⟨#[62]⟩ : ByteArray), (rdOf ByteArray.empty y423 (ji21)) ++ (⟨#[47, 62]⟩ : ByteArray)] : List ByteArray)) (inner := [.string (⟨#[62]⟩ : ByteArray), .string (⟨#[47, 62]⟩ : ByteArray), .string ((rdOf ByteArray.empty y423 (ji21)) ++ (⟨#[62]⟩ : ByteArray)), .string ((rdOf ByteArray.empty y423 (ji21)) ++ (⟨#[47, 62]⟩ : ByteArray))]) (ok := fun _ => True) (okp := fun _ => True) ?hr ?hp (fun _ hk => hk) trivial (Below.refl _ _) (Nat.le_refl _) (by simp) ?_; (case hd => rfl); (case hg => rfl); (case hr => first | (go_simp; done) | (go_simp; rfl)); (case hp => exact (Reps.one (show Kd.M Kd.string _ _ _ (⟨#[62]⟩ : ByteArray) [.string (⟨#[62]⟩ : ByteArray)] from rfl) (Reps.one (show Kd.M Kd.string _ _ _ (⟨#[47, 62]⟩ : ByteArray) [.string (⟨#[47, 62]⟩ : ByteArray)] from rfl) (Reps.one (show Kd.M Kd.string _ _ _ ((rdOf ByteArray.empty y423 (ji21)) ++ (⟨#[62]⟩ : ByteArray)) [.string ((rdOf ByteArray.empty y423 (ji21)) ++ (⟨#[62]⟩ : ByteArray))] from rfl) (Reps.one (show Kd.M Kd.string _ _ _ ((rdOf ByteArray.empty y423 (ji21)) ++ (⟨#[47, 62]⟩ : ByteArray)) [.string ((rdOf ByteArray.empty y423 (ji21)) ++ (⟨#[47, 62]⟩ : ByteArray))] from rfl) (Reps.none _ _)))))); intro v436 w59 ho60 hb hg_ hnew_; clear hg_ hnew_; (first | rw [← Ny435.out] at ho60 | (simp only [Int.reduceToNat] at ho60; rw [← Ny435.out] at ho60)); have n0_ := Aside0.mk (Kd.R_lower ho60 (below_size (by repeat (first | (with_reducible first | exact HB.out | apply below_alloc | apply pw_below_drewN | apply below_drew1) | exact HB.out)))); have n1_ := Aside0.mk (below_step (by repeat (first | (with_reducible first | exact HB.out | apply below_alloc | apply pw_below_drewN | apply below_drew1) | exact HB.out)) hb); clear HB; have HO437 := n0_; have HB := n1_; clear n0_ n1_; clear hb ho60; obtain ⟨Ao61, co61, eo61⟩ := Kd.R_slice HO437.out; subst eo61; have p438 : 0 ≤ ((ji52) : Int) := of_decide_eq_true (by first | (with_reducible assumption) | assumption); have q438 : (ji52) < (y435.length : Int) := of_decide_eq_true (by first | (with_reducible assumption) | assumption); obtain ⟨ad438, e438, hx438_0⟩ := Kd.at_string (Kd.R_reads' HO437.out).2.2 (ji52) p438 q438; cases e438; replace p438 := eq_true p438; replace q438 := eq_true q438) | (go_at_call 15; (with_reducible refine (token_Next.calls k2 ((x13_2 ++ (rdOf ByteArray.empty y435 (ji52))) ++ (⟨#[114, 101, 115, 116]⟩ : ByteArray)) 0 t439 t440 t441 t442 t445 t446 t447 _ (Env.below HE.out (by repeat (first | (with_reducible first | exact HB.out | apply below_alloc | apply pw_below_drewN | apply below_drew1) | exact HB.out))) A57.out).mono ?_); rintro e w62 ⟨v443, rfl, ho0, hb⟩; have n0_ := Aside0.mk (Kd.R_below (by (with_reducible repeat (first | apply Kd.R_alloc | apply Kd.R_drewN | apply Kd.R_drew)); exact HO437.out) hb); have n1_ := Aside0.mk (Kd.R_lower ho0 (below_size (by repeat (first | (with_reducible first | exact HB.out | apply below_alloc | apply pw_below_drewN | apply below_drew1) | exact HB.out)))); have n2_ := Aside0.mk (below_step (by repeat (first | (with_reducible first | exact HB.out | apply below_alloc | apply pw_below_drewN | apply below_drew1) | exact HB.out)) hb); clear HO437; clear HB; have HO437 := n0_; have HO444 := n1_; have HB := n2_; clear n0_ n1_ n2_; (try clear hb); (try clear hb2); (try clear hk); (try clear hi); (try clear ho0)) | ((with_reducible refine gate_dst (N := 16) rfl ?_); (try (refine gate_guard (by rfl) ?_; dsimp only)); refine box_event ?hg (N := 16) ?hd (cs := #[.int .i64 0, .string (⟨#[]⟩ : ByteArray), .string (⟨#[]⟩ : ByteArray), .slice none 0 0, .bool false]) (t := 27) ?hr ?_; (case hd => rfl); (case hg => rfl); (case hr => first | (go_simp; done) | (go_simp; rfl)); intro gb448 hg w63 hbox hb; have n0_ := Aside0.mk (Kd.R_below (by (with_reducible repeat (first | apply Kd.R_alloc | apply Kd.R_drewN | apply Kd.R_drew)); exact HO437.out) hb); have n1_ := Aside0.mk (Kd.R_below (by (with_reducible repeat (first | apply Kd.R_alloc | apply Kd.R_drewN | apply Kd.R_drew)); exact HO444.out) hb); have n2_ := Aside0.mk (below_step (by repeat (first | (with_reducible first | exact HB.out | apply below_alloc | apply pw_below_drewN | apply below_drew1) | exact HB.out)) hb); have n3_ := Aside0.mk (hbox); have n4_ := Aside0.mk ((by rw [hg]; exact (below_size (by repeat (first | (with_reducible first | exact HB.out | apply below_alloc | apply pw_below_drewN | apply below_drew1) | exact HB.out))) : w.heap.size ≤ gb448)); have n5_ := Aside0.mk ((by rw [hg]; exact (below_size (by repeat (first | (with_reducible first | exact HB.out | apply below_alloc | apply pw_below_drewN | apply below_drew1) | exact HB.out))) : w.heap.size ≤ gb448)); clear HO437; clear HO444; clear HB; have HO437 := n0_; have HO444 := n1_; have HB := n2_; have BK448 := n3_; have GW448 := n4_; have GE448 := n5_; clear n0_ n1_ n2_ n3_ n4_ n5_; clear hb hbox hg; have hcz64_0 : w63.cell? ⟨gb448, 0, none⟩ = some (.int .i64 0) := (blk_cell BK448.out 0).trans rfl; have hcz64_1 : w63.cell? ⟨gb448, 1, none⟩ = some (.string (⟨#[]⟩ : ByteArray)) := (blk_cell BK448.out 1).trans rfl; have hcz64_2 : w63.cell? ⟨gb448, 2, none⟩ = some (.string (⟨#[]⟩ : ByteArray)) := (blk_cell BK448.out 2).trans rfl; have hcz64_3 : w63.cell? ⟨gb448, 3, none⟩ = some (.slice none 0 0) := (blk_cell BK448.out 3).trans rfl; have hcz64_4 : w63.cell? ⟨gb448, 4, none⟩ = some (.bool false) := (blk_cell BK448.out 4).trans rfl; have hfz64_0 := blk_frozen BK448.out 0; have hfz64_1 := blk_frozen BK448.out 1; have hfz64_2 := blk_frozen BK448.out 2; have hfz64_3 := blk_frozen BK448.out 3; have hfz64_4 := blk_frozen BK448.out 4; obtain ⟨Ao65, co65, eo65⟩ := Kd.R_slice HO444.out; subst eo65)))
                    (try simp only [Act.put, List.setIfInBounds_toArray, List.set_cons_zero, List.set_cons_succ])
                    go_cut [146] (fun v146 wc => ∃ (kq : Nat) (x146_57 : Bool), v146 = .bool x146_57 ∧ Aside0 (brackenlaw10_TokenAttrs.j2 kq a2 (wrap64 (Int.tmod (IntKind.u64.wrap (a0)) 9)) x146_57 t439 t440 t441 t442 t445 = some r) ∧ Aside0 (kq ≤ k2) ∧ Aside0 (Kd.R k42 42 wc w.heap.size (fun _ => True) (.slice Ao65 t442.length co65) t442) ∧ Aside0 (wc.heap[gb448]? = some (.cells #[.int .i64 t439, .string t440, .string t441, (.slice Ao65 t442.length co65), .bool t445] 27 (0, 0))) ∧ Aside0 (Below w.heap.size w wc))
                    case first =>
                     have H := HC58.out
                     clear HC58
                     by_cases c66 : t447 = 0
                     ·rw [if_pos c66] at H
                      have c66b0 : (t447 == 0) = true := beq_iff_eq.mpr c66
                      have c66b1 : (t447 != 0) = false := bne_eq_false_iff_eq.mpr c66
                      clear c66
                      (first | rw [c66b0] | (simp only [i64_w, i32_w]; rw [c66b0]) | skip)
                      by_cases c67 : t446 = ((x13_2 ++ (rdOf ByteArray.empty y435 (ji52))).size : Int)
                      ·rw [if_pos c67] at H
                       have c67b0 : (t446 == ((x13_2 ++ (rdOf ByteArray.empty y435 (ji52))).size : Int)) = true := beq_iff_eq.mpr c67
                       have c67b1 : (t446 != ((x13_2 ++ (rdOf ByteArray.empty y435 (ji52))).size : Int)) = false := bne_eq_false_iff_eq.mpr c67
                       have c67e : ((x13_2 ++ (rdOf ByteArray.empty y435 (ji52))).size : Int) = (x13_2.size : Int) + ((rdOf ByteArray.empty y435 (ji52)).size : Int) := by rw [ByteArray.size_append]; exact Int.natCast_add _ _
                       have c67b2 : (t446 == ((x13_2.size : Int) + ((rdOf ByteArray.empty y435 (ji52)).size : Int))) = true := by rw [← c67e]; exact c67b0
                       have c67b3 : (t446 != ((x13_2.size : Int) + ((rdOf ByteArray.empty y435 (ji52)).size : Int))) = false := by rw [← c67e]; exact c67b1
                       clear c67e
                       clear c67
                       by_cases c68 : t439 = 2
                       ·rw [if_pos c68] at H
                        have c68b0 : (t439 == 2) = true := beq_iff_eq.mpr c68
                        have c68b1 : (t439 != 2) = false := bne_eq_false_iff_eq.mpr c68
                        clear c68
                        by_cases c69 : t440.toList = ([112, 58, 97] : List UInt8)
                        ·rw [if_pos c69] at H
                         have c69b0 : (t440.toList == ([112, 58, 97] : List UInt8)) = true := beq_iff_eq.mpr c69
                         have c69b1 : (t440.toList != ([112, 58, 97] : List UInt8)) = false := bne_eq_false_iff_eq.mpr c69
                         clear c69
                         by_cases c70 : (t445 != ((Int.tmod (IntKind.u64.wrap (Int.tdiv (IntKind.u64.wrap (a1)) 18)) 2) == 1)) = true
                         ·rw [if_pos c70] at H
                          have c70b0 : (t445 != ((Int.tmod (IntKind.u64.wrap (Int.tdiv (IntKind.u64.wrap (a1)) 18)) 2) == 1)) = true := c70
                          (try (have c70b1 : decide (t445 = ((Int.tmod (IntKind.u64.wrap (Int.tdiv (IntKind.u64.wrap (a1)) 18)) 2) == 1)) = false := by simpa using c70))
                          (try (have c70b2 : (t445 == ((Int.tmod (IntKind.u64.wrap (Int.tdiv (IntKind.u64.wrap (a1)) 18)) 2) == 1)) = false := by simpa using c70))
                          (try (have c70b3 : ¬ (t445 = ((Int.tmod (IntKind.u64.wrap (Int.tdiv (IntKind.u64.wrap (a1)) 18)) 2) == 1)) := by simpa using c70))
                          clear c70
                          have H' := Aside0.mk H
                          clear H
                          have hcz71_0 : w63.cell? ⟨gb448, 0, none⟩ = some (.int .i64 0) := (blk_cell BK448.out 0).trans rfl
                          have hcz71_1 : w63.cell? ⟨gb448, 1, none⟩ = some (.string (⟨#[]⟩ : ByteArray)) := (blk_cell BK448.out 1).trans rfl
                          have hcz71_2 : w63.cell? ⟨gb448, 2, none⟩ = some (.string (⟨#[]⟩ : ByteArray)) := (blk_cell BK448.out 2).trans rfl
                          have hcz71_3 : w63.cell? ⟨gb448, 3, none⟩ = some (.slice none 0 0) := (blk_cell BK448.out 3).trans rfl
                          have hcz71_4 : w63.cell? ⟨gb448, 4, none⟩ = some (.bool false) := (blk_cell BK448.out 4).trans rfl
                          have hfz71_0 := blk_frozen BK448.out 0
                          have hfz71_1 := blk_frozen BK448.out 1
                          have hfz71_2 := blk_frozen BK448.out 2
                          have hfz71_3 := blk_frozen BK448.out 3
                          have hfz71_4 := blk_frozen BK448.out 4
                          go_wp2
                          repeat (go_quiet (fail); try go_wp2)
                          go_meet
                          case rel => exact ⟨_, (true), (by first | rfl | (simp; done) | (simp [*]; done)), H', ⟨by have := HK1.out; have := HK2.out; first | omega | exact Nat.le_refl _⟩, ⟨by (with_reducible repeat (first | apply Kd.R_alloc | apply Kd.R_drewN | apply Kd.R_drew)); exact Kd.R_mono (Kd.R_far (p := ⟨gb448, 4, none⟩) (Kd.R_far (p := ⟨gb448, 3, none⟩) (Kd.R_far (p := ⟨gb448, 2, none⟩) (Kd.R_far (p := ⟨gb448, 1, none⟩) (Kd.R_far (p := ⟨gb448, 0, none⟩) (Kd.R_types HO444.out BK448.out (by decide)) (fun _ hk => hk.2) (.int .i64 t439)) (fun _ hk => hk.2) (.string t440)) (fun _ hk => hk.2) (.string t441)) (fun _ hk => hk.2) (.slice Ao65 t442.length co65)) (fun _ hk => hk.2) (.bool t445)) (fun _ hk => trivial)⟩, ⟨by (with_reducible repeat (first | refine blk_drewN ?_ _ | refine blk_drew ?_ | refine blk_alloc ?_ _)); refine blk_put (cs := #[.int .i64 t439, .string t440, .string t441, .slice Ao65 t442.length co65, .bool false]) ?_ 4 _ rfl; (with_reducible repeat (first | refine blk_drewN ?_ _ | refine blk_drew ?_ | refine blk_alloc ?_ _)); refine blk_put (cs := #[.int .i64 t439, .string t440, .string t441, .slice none 0 0, .bool false]) ?_ 3 _ rfl; (with_reducible repeat (first | refine blk_drewN ?_ _ | refine blk_drew ?_ | refine blk_alloc ?_ _)); refine blk_put (cs := #[.int .i64 t439, .string t440, .string (⟨#[]⟩ : ByteArray), .slice none 0 0, .bool false]) ?_ 2 _ rfl; (with_reducible repeat (first | refine blk_drewN ?_ _ | refine blk_drew ?_ | refine blk_alloc ?_ _)); refine blk_put (cs := #[.int .i64 t439, .string (⟨#[]⟩ : ByteArray), .string (⟨#[]⟩ : ByteArray), .slice none 0 0, .bool false]) ?_ 1 _ rfl; (with_reducible repeat (first | refine blk_drewN ?_ _ | refine blk_drew ?_ | refine blk_alloc ?_ _)); refine blk_put (cs := #[.int .i64 0, .string (⟨#[]⟩ : ByteArray), .string (⟨#[]⟩ : ByteArray), .slice none 0 0, .bool false]) ?_ 0 _ rfl; (with_reducible repeat (first | refine blk_drewN ?_ _ | refine blk_drew ?_ | refine blk_alloc ?_ _)); exact BK448.out⟩, ⟨by repeat (first | (with_reducible first | exact HB.out | apply below_alloc | apply pw_below_drewN | apply below_drew1 | refine below_set ?_ GE448.out) | exact HB.out)⟩⟩
                         ·rw [if_neg c70] at H
                          have c70b0 : (t445 != ((Int.tmod (IntKind.u64.wrap (Int.tdiv (IntKind.u64.wrap (a1)) 18)) 2) == 1)) = false := by simpa using c70
                          (try (have c70b1 : decide (t445 = ((Int.tmod (IntKind.u64.wrap (Int.tdiv (IntKind.u64.wrap (a1)) 18)) 2) == 1)) = true := by simpa using c70))
                          (try (have c70b2 : (t445 == ((Int.tmod (IntKind.u64.wrap (Int.tdiv (IntKind.u64.wrap (a1)) 18)) 2) == 1)) = true := by simpa using c70))
                          clear c70
                          have H' := Aside0.mk H
                          clear H
                          have hcz72_0 : w63.cell? ⟨gb448, 0, none⟩ = some (.int .i64 0) := (blk_cell BK448.out 0).trans rfl
                          have hcz72_1 : w63.cell? ⟨gb448, 1, none⟩ = some (.string (⟨#[]⟩ : ByteArray)) := (blk_cell BK448.out 1).trans rfl
                          have hcz72_2 : w63.cell? ⟨gb448, 2, none⟩ = some (.string (⟨#[]⟩ : ByteArray)) := (blk_cell BK448.out 2).trans rfl
                          have hcz72_3 : w63.cell? ⟨gb448, 3, none⟩ = some (.slice none 0 0) := (blk_cell BK448.out 3).trans rfl
                          have hcz72_4 : w63.cell? ⟨gb448, 4, none⟩ = some (.bool false) := (blk_cell BK448.out 4).trans rfl
                          have hfz72_0 := blk_frozen BK448.out 0
                          have hfz72_1 := blk_frozen BK448.out 1
                          have hfz72_2 := blk_frozen BK448.out 2
                          have hfz72_3 := blk_frozen BK448.out 3
                          have hfz72_4 := blk_frozen BK448.out 4
                          go_wp2
                          repeat (go_quiet (fail); try go_wp2)
                          go_meet
                          case rel => exact ⟨_, (((t442.length : Int) != (wrap64 (Int.tmod (IntKind.u64.wrap (a0)) 9)))), (by first | rfl | (simp; done) | (simp [*]; done)), H', ⟨by have := HK1.out; have := HK2.out; first | omega | exact Nat.le_refl _⟩, ⟨by (with_reducible repeat (first | apply Kd.R_alloc | apply Kd.R_drewN | apply Kd.R_drew)); exact Kd.R_mono (Kd.R_far (p := ⟨gb448, 4, none⟩) (Kd.R_far (p := ⟨gb448, 3, none⟩) (Kd.R_far (p := ⟨gb448, 2, none⟩) (Kd.R_far (p := ⟨gb448, 1, none⟩) (Kd.R_far (p := ⟨gb448, 0, none⟩) (Kd.R_types HO444.out BK448.out (by decide)) (fun _ hk => hk.2) (.int .i64 t439)) (fun _ hk => hk.2) (.string t440)) (fun _ hk => hk.2) (.string t441)) (fun _ hk => hk.2) (.slice Ao65 t442.length co65)) (fun _ hk => hk.2) (.bool t445)) (fun _ hk => trivial)⟩, ⟨by (with_reducible repeat (first | refine blk_drewN ?_ _ | refine blk_drew ?_ | refine blk_alloc ?_ _)); refine blk_put (cs := #[.int .i64 t439, .string t440, .string t441, .slice Ao65 t442.length co65, .bool false]) ?_ 4 _ rfl; (with_reducible repeat (first | refine blk_drewN ?_ _ | refine blk_drew ?_ | refine blk_alloc ?_ _)); refine blk_put (cs := #[.int .i64 t439, .string t440, .string t441, .slice none 0 0, .bool false]) ?_ 3 _ rfl; (with_reducible repeat (first | refine blk_drewN ?_ _ | refine blk_drew ?_ | refine blk_alloc ?_ _)); refine blk_put (cs := #[.int .i64 t439, .string t440, .string (⟨#[]⟩ : ByteArray), .slice none 0 0, .bool false]) ?_ 2 _ rfl; (with_reducible repeat (first | refine blk_drewN ?_ _ | refine blk_drew ?_ | refine blk_alloc ?_ _)); refine blk_put (cs := #[.int .i64 t439, .string (⟨#[]⟩ : ByteArray), .string (⟨#[]⟩ : ByteArray), .slice none 0 0, .bool false]) ?_ 1 _ rfl; (with_reducible repeat (first | refine blk_drewN ?_ _ | refine blk_drew ?_ | refine blk_alloc ?_ _)); refine blk_put (cs := #[.int .i64 0, .string (⟨#[]⟩ : ByteArray), .string (⟨#[]⟩ : ByteArray), .slice none 0 0, .bool false]) ?_ 0 _ rfl; (with_reducible repeat (first | refine blk_drewN ?_ _ | refine blk_drew ?_ | refine blk_alloc ?_ _)); exact BK448.out⟩, ⟨by repeat (first | (with_reducible first | exact HB.out | apply below_alloc | apply pw_below_drewN | apply below_drew1 | refine below_set ?_ GE448.out) | exact HB.out)⟩⟩
                        ·rw [if_neg c69] at H
                         have c69b0 : (t440.toList == ([112, 58, 97] : List UInt8)) = false := beq_eq_false_iff_ne.mpr c69
                         have c69b1 : (t440.toList != ([112, 58, 97] : List UInt8)) = true := bne_iff_ne.mpr c69
                         have H' := Aside0.mk H
                         clear H
                         have hcz73_0 : w63.cell? ⟨gb448, 0, none⟩ = some (.int .i64 0) := (blk_cell BK448.out 0).trans rfl
                         have hcz73_1 : w63.cell? ⟨gb448, 1, none⟩ = some (.string (⟨#[]⟩ : ByteArray)) := (blk_cell BK448.out 1).trans rfl
                         have hcz73_2 : w63.cell? ⟨gb448, 2, none⟩ = some (.string (⟨#[]⟩ : ByteArray)) := (blk_cell BK448.out 2).trans rfl
                         have hcz73_3 : w63.cell? ⟨gb448, 3, none⟩ = some (.slice none 0 0) := (blk_cell BK448.out 3).trans rfl
                         have hcz73_4 : w63.cell? ⟨gb448, 4, none⟩ = some (.bool false) := (blk_cell BK448.out 4).trans rfl
                         have hfz73_0 := blk_frozen BK448.out 0
                         have hfz73_1 := blk_frozen BK448.out 1
                         have hfz73_2 := blk_frozen BK448.out 2
                         have hfz73_3 := blk_frozen BK448.out 3
                         have hfz73_4 := blk_frozen BK448.out 4
                         go_wp2
                         repeat (go_quiet (fail); try go_wp2)
                         go_meet
                         case rel => exact ⟨_, (true), (by first | rfl | (simp; done) | (simp [*]; done)), H', ⟨by have := HK1.out; have := HK2.out; first | omega | exact Nat.le_refl _⟩, ⟨by (with_reducible repeat (first | apply Kd.R_alloc | apply Kd.R_drewN | apply Kd.R_drew)); exact Kd.R_mono (Kd.R_far (p := ⟨gb448, 4, none⟩) (Kd.R_far (p := ⟨gb448, 3, none⟩) (Kd.R_far (p := ⟨gb448, 2, none⟩) (Kd.R_far (p := ⟨gb448, 1, none⟩) (Kd.R_far (p := ⟨gb448, 0, none⟩) (Kd.R_types HO444.out BK448.out (by decide)) (fun _ hk => hk.2) (.int .i64 t439)) (fun _ hk => hk.2) (.string t440)) (fun _ hk => hk.2) (.string t441)) (fun _ hk => hk.2) (.slice Ao65 t442.length co65)) (fun _ hk => hk.2) (.bool t445)) (fun _ hk => trivial)⟩, ⟨by (with_reducible repeat (first | refine blk_drewN ?_ _ | refine blk_drew ?_ | refine blk_alloc ?_ _)); refine blk_put (cs := #[.int .i64 t439, .string t440, .string t441, .slice Ao65 t442.length co65, .bool false]) ?_ 4 _ rfl; (with_reducible repeat (first | refine blk_drewN ?_ _ | refine blk_drew ?_ | refine blk_alloc ?_ _)); refine blk_put (cs := #[.int .i64 t439, .string t440, .string t441, .slice none 0 0, .bool false]) ?_ 3 _ rfl; (with_reducible repeat (first | refine blk_drewN ?_ _ | refine blk_drew ?_ | refine blk_alloc ?_ _)); refine blk_put (cs := #[.int .i64 t439, .string t440, .string (⟨#[]⟩ : ByteArray), .slice none 0 0, .bool false]) ?_ 2 _ rfl; (with_reducible repeat (first | refine blk_drewN ?_ _ | refine blk_drew ?_ | refine blk_alloc ?_ _)); refine blk_put (cs := #[.int .i64 t439, .string (⟨#[]⟩ : ByteArray), .string (⟨#[]⟩ : ByteArray), .slice none 0 0, .bool false]) ?_ 1 _ rfl; (with_reducible repeat (first | refine blk_drewN ?_ _ | refine blk_drew ?_ | refine blk_alloc ?_ _)); refine blk_put (cs := #[.int .i64 0, .string (⟨#[]⟩ : ByteArray), .string (⟨#[]⟩ : ByteArray), .slice none 0 0, .bool false]) ?_ 0 _ rfl; (with_reducible repeat (first | refine blk_drewN ?_ _ | refine blk_drew ?_ | refine blk_alloc ?_ _)); exact BK448.out⟩, ⟨by repeat (first | (with_reducible first | exact HB.out | apply below_alloc | apply pw_below_drewN | apply below_drew1 | refine below_set ?_ GE448.out) | exact HB.out)⟩⟩
                       ·rw [if_neg c68] at H
                        have c68b0 : (t439 == 2) = false := beq_eq_false_iff_ne.mpr c68
                        have c68b1 : (t439 != 2) = true := bne_iff_ne.mpr c68
                        have H' := Aside0.mk H
                        clear H
                        have hcz74_0 : w63.cell? ⟨gb448, 0, none⟩ = some (.int .i64 0) := (blk_cell BK448.out 0).trans rfl
                        have hcz74_1 : w63.cell? ⟨gb448, 1, none⟩ = some (.string (⟨#[]⟩ : ByteArray)) := (blk_cell BK448.out 1).trans rfl
                        have hcz74_2 : w63.cell? ⟨gb448, 2, none⟩ = some (.string (⟨#[]⟩ : ByteArray)) := (blk_cell BK448.out 2).trans rfl
                        have hcz74_3 : w63.cell? ⟨gb448, 3, none⟩ = some (.slice none 0 0) := (blk_cell BK448.out 3).trans rfl
                        have hcz74_4 : w63.cell? ⟨gb448, 4, none⟩ = some (.bool false) := (blk_cell BK448.out 4).trans rfl
                        have hfz74_0 := blk_frozen BK448.out 0
                        have hfz74_1 := blk_frozen BK448.out 1
                        have hfz74_2 := blk_frozen BK448.out 2
                        have hfz74_3 := blk_frozen BK448.out 3
                        have hfz74_4 := blk_frozen BK448.out 4
                        go_wp2
                        repeat (go_quiet (fail); try go_wp2)
                        go_meet
                        case rel => exact ⟨_, (true), (by first | rfl | (simp; done) | (simp [*]; done)), H', ⟨by have := HK1.out; have := HK2.out; first | omega | exact Nat.le_refl _⟩, ⟨by (with_reducible repeat (first | apply Kd.R_alloc | apply Kd.R_drewN | apply Kd.R_drew)); exact Kd.R_mono (Kd.R_far (p := ⟨gb448, 4, none⟩) (Kd.R_far (p := ⟨gb448, 3, none⟩) (Kd.R_far (p := ⟨gb448, 2, none⟩) (Kd.R_far (p := ⟨gb448, 1, none⟩) (Kd.R_far (p := ⟨gb448, 0, none⟩) (Kd.R_types HO444.out BK448.out (by decide)) (fun _ hk => hk.2) (.int .i64 t439)) (fun _ hk => hk.2) (.string t440)) (fun _ hk => hk.2) (.string t441)) (fun _ hk => hk.2) (.slice Ao65 t442.length co65)) (fun _ hk => hk.2) (.bool t445)) (fun _ hk => trivial)⟩, ⟨by (with_reducible repeat (first | refine blk_drewN ?_ _ | refine blk_drew ?_ | refine blk_alloc ?_ _)); refine blk_put (cs := #[.int .i64 t439, .string t440, .string t441, .slice Ao65 t442.length co65, .bool false]) ?_ 4 _ rfl; (with_reducible repeat (first | refine blk_drewN ?_ _ | refine blk_drew ?_ | refine blk_alloc ?_ _)); refine blk_put (cs := #[.int .i64 t439, .string t440, .string t441, .slice none 0 0, .bool false]) ?_ 3 _ rfl; (with_reducible repeat (first | refine blk_drewN ?_ _ | refine blk_drew ?_ | refine blk_alloc ?_ _)); refine blk_put (cs := #[.int .i64 t439, .string t440, .string (⟨#[]⟩ : ByteArray), .slice none 0 0, .bool false]) ?_ 2 _ rfl; (with_reducible repeat (first | refine blk_drewN ?_ _ | refine blk_drew ?_ | refine blk_alloc ?_ _)); refine blk_put (cs := #[.int .i64 t439, .string (⟨#[]⟩ : ByteArray), .string (⟨#[]⟩ : ByteArray), .slice none 0 0, .bool false]) ?_ 1 _ rfl; (with_reducible repeat (first | refine blk_drewN ?_ _ | refine blk_drew ?_ | refine blk_alloc ?_ _)); refine blk_put (cs := #[.int .i64 0, .string (⟨#[]⟩ : ByteArray), .string (⟨#[]⟩ : ByteArray), .slice none 0 0, .bool false]) ?_ 0 _ rfl; (with_reducible repeat (first | refine blk_drewN ?_ _ | refine blk_drew ?_ | refine blk_alloc ?_ _)); exact BK448.out⟩, ⟨by repeat (first | (with_reducible first | exact HB.out | apply below_alloc | apply pw_below_drewN | apply below_drew1 | refine below_set ?_ GE448.out) | exact HB.out)⟩⟩
                      ·rw [if_neg c67] at H
                       have c67b0 : (t446 == ((x13_2 ++ (rdOf ByteArray.empty y435 (ji52))).size : Int)) = false := beq_eq_false_iff_ne.mpr c67
                       have c67b1 : (t446 != ((x13_2 ++ (rdOf ByteArray.empty y435 (ji52))).size : Int)) = true := bne_iff_ne.mpr c67
                       have c67e : ((x13_2 ++ (rdOf ByteArray.empty y435 (ji52))).size : Int) = (x13_2.size : Int) + ((rdOf ByteArray.empty y435 (ji52)).size : Int) := by rw [ByteArray.size_append]; exact Int.natCast_add _ _
                       have c67b2 : (t446 == ((x13_2.size : Int) + ((rdOf ByteArray.empty y435 (ji52)).size : Int))) = false := by rw [← c67e]; exact c67b0
                       have c67b3 : (t446 != ((x13_2.size : Int) + ((rdOf ByteArray.empty y435 (ji52)).size : Int))) = true := by rw [← c67e]; exact c67b1
                       clear c67e
                       have H' := Aside0.mk H
                       clear H
                       go_wp2
                       repeat (go_quiet (fail); try go_wp2)
                       go_meet
                       case rel => exact ⟨_, (true), (by first | rfl | (simp; done) | (simp [*]; done)), H', ⟨by have := HK1.out; have := HK2.out; first | omega | exact Nat.le_refl _⟩, ⟨by (with_reducible repeat (first | apply Kd.R_alloc | apply Kd.R_drewN | apply Kd.R_drew)); exact Kd.R_mono (Kd.R_far (p := ⟨gb448, 4, none⟩) (Kd.R_far (p := ⟨gb448, 3, none⟩) (Kd.R_far (p := ⟨gb448, 2, none⟩) (Kd.R_far (p := ⟨gb448, 1, none⟩) (Kd.R_far (p := ⟨gb448, 0, none⟩) (Kd.R_types HO444.out BK448.out (by decide)) (fun _ hk => hk.2) (.int .i64 t439)) (fun _ hk => hk.2) (.string t440)) (fun _ hk => hk.2) (.string t441)) (fun _ hk => hk.2) (.slice Ao65 t442.length co65)) (fun _ hk => hk.2) (.bool t445)) (fun _ hk => trivial)⟩, ⟨by (with_reducible repeat (first | refine blk_drewN ?_ _ | refine blk_drew ?_ | refine blk_alloc ?_ _)); refine blk_put (cs := #[.int .i64 t439, .string t440, .string t441, .slice Ao65 t442.length co65, .bool false]) ?_ 4 _ rfl; (with_reducible repeat (first | refine blk_drewN ?_ _ | refine blk_drew ?_ | refine blk_alloc ?_ _)); refine blk_put (cs := #[.int .i64 t439, .string t440, .string t441, .slice none 0 0, .bool false]) ?_ 3 _ rfl; (with_reducible repeat (first | refine blk_drewN ?_ _ | refine blk_drew ?_ | refine blk_alloc ?_ _)); refine blk_put (cs := #[.int .i64 t439, .string t440, .string (⟨#[]⟩ : ByteArray), .slice none 0 0, .bool false]) ?_ 2 _ rfl; (with_reducible repeat (first | refine blk_drewN ?_ _ | refine blk_drew ?_ | refine blk_alloc ?_ _)); refine blk_put (cs := #[.int .i64 t439, .string (⟨#[]⟩ : ByteArray), .string (⟨#[]⟩ : ByteArray), .slice none 0 0, .bool false]) ?_ 1 _ rfl; (with_reducible repeat (first | refine blk_drewN ?_ _ | refine blk_drew ?_ | refine blk_alloc ?_ _)); refine blk_put (cs := #[.int .i64 0, .string (⟨#[]⟩ : ByteArray), .string (⟨#[]⟩ : ByteArray), .slice none 0 0, .bool false]) ?_ 0 _ rfl; (with_reducible repeat (first | refine blk_drewN ?_ _ | refine blk_drew ?_ | refine blk_alloc ?_ _)); exact BK448.out⟩, ⟨by repeat (first | (with_reducible first | exact HB.out | apply below_alloc | apply pw_below_drewN | apply below_drew1 | refine below_set ?_ GE448.out) | exact HB.out)⟩⟩
                     ·rw [if_neg c66] at H
                      have c66b0 : (t447 == 0) = false := beq_eq_false_iff_ne.mpr c66
                      have c66b1 : (t447 != 0) = true := bne_iff_ne.mpr c66
                      (first | rw [c66b0] | (simp only [i64_w, i32_w]; rw [c66b0]) | skip)
                      have H' := Aside0.mk H
                      clear H
                      go_wp2
                      repeat (go_quiet (fail); try go_wp2)
                      go_meet
                      case rel => exact ⟨_, (true), (by first | rfl | (simp; done) | (simp [*]; done)), H', ⟨by have := HK1.out; have := HK2.out; first | omega | exact Nat.le_refl _⟩, ⟨by (with_reducible repeat (first | apply Kd.R_alloc | apply Kd.R_drewN | apply Kd.R_drew)); exact Kd.R_mono (Kd.R_far (p := ⟨gb448, 4, none⟩) (Kd.R_far (p := ⟨gb448, 3, none⟩) (Kd.R_far (p := ⟨gb448, 2, none⟩) (Kd.R_far (p := ⟨gb448, 1, none⟩) (Kd.R_far (p := ⟨gb448, 0, none⟩) (Kd.R_types HO444.out BK448.out (by decide)) (fun _ hk => hk.2) (.int .i64 t439)) (fun _ hk => hk.2) (.string t440)) (fun _ hk => hk.2) (.string t441)) (fun _ hk => hk.2) (.slice Ao65 t442.length co65)) (fun _ hk => hk.2) (.bool t445)) (fun _ hk => trivial)⟩, ⟨by (with_reducible repeat (first | refine blk_drewN ?_ _ | refine blk_drew ?_ | refine blk_alloc ?_ _)); refine blk_put (cs := #[.int .i64 t439, .string t440, .string t441, .slice Ao65 t442.length co65, .bool false]) ?_ 4 _ rfl; (with_reducible repeat (first | refine blk_drewN ?_ _ | refine blk_drew ?_ | refine blk_alloc ?_ _)); refine blk_put (cs := #[.int .i64 t439, .string t440, .string t441, .slice none 0 0, .bool false]) ?_ 3 _ rfl; (with_reducible repeat (first | refine blk_drewN ?_ _ | refine blk_drew ?_ | refine blk_alloc ?_ _)); refine blk_put (cs := #[.int .i64 t439, .string t440, .string (⟨#[]⟩ : ByteArray), .slice none 0 0, .bool false]) ?_ 2 _ rfl; (with_reducible repeat (first | refine blk_drewN ?_ _ | refine blk_drew ?_ | refine blk_alloc ?_ _)); refine blk_put (cs := #[.int .i64 t439, .string (⟨#[]⟩ : ByteArray), .string (⟨#[]⟩ : ByteArray), .slice none 0 0, .bool false]) ?_ 1 _ rfl; (with_reducible repeat (first | refine blk_drewN ?_ _ | refine blk_drew ?_ | refine blk_alloc ?_ _)); refine blk_put (cs := #[.int .i64 0, .string (⟨#[]⟩ : ByteArray), .string (⟨#[]⟩ : ByteArray), .slice none 0 0, .bool false]) ?_ 0 _ rfl; (with_reducible repeat (first | refine blk_drewN ?_ _ | refine blk_drew ?_ | refine blk_alloc ?_ _)); exact BK448.out⟩, ⟨by repeat (first | (with_reducible first | exact HB.out | apply below_alloc | apply pw_below_drewN | apply below_drew1 | refine below_set ?_ GE448.out) | exact HB.out)⟩⟩
                    case rest =>
                     clear HC58
                     try clear c1
                     try clear p1
                     try clear q1
                     try clear hx1
                     try clear c2
                     try clear p2
                     try clear c3
                     try clear c4
                     try clear c4b0
                     try clear c4b1
                     try clear p4
                     try clear q4
                     try clear hx4
                     try clear c5
                     try clear c6
                     try clear p6
                     try clear c7
                     try clear c7b0
                     try clear c8
                     try clear c8b0
                     try clear p9
                     try clear q9
                     try clear hx9
                     try clear c10
                     try clear c10b0
                     try clear c10b1
                     try clear p13
                     try clear q13
                     try clear hx13
                     try clear c14
                     try clear c14b0
                     try clear c14b1
                     try clear p17
                     try clear q17
                     try clear hx17
                     try clear c18
                     try clear c18b0
                     try clear c18b1
                     try clear c22
                     try clear c22b0
                     try clear c23
                     try clear c23b0
                     try clear c25
                     try clear c25b0
                     try clear c26
                     try clear c26b0
                     try clear c28
                     try clear c28b0
                     try clear c29
                     try clear c29b0
                     try clear c39
                     try clear c39b0
                     try clear c40
                     try clear c40b0
                     try clear c40b1
                     try clear c40b2
                     try clear c41
                     try clear c41b0
                     try clear c41b1
                     try clear c41b2
                     try clear c42
                     try clear c42b0
                     try clear c42b1
                     try clear p42
                     try clear q42
                     try clear hx42
                     try clear c43
                     try clear c43b0
                     try clear c43b1
                     try clear p43
                     try clear q43
                     try clear hx43
                     try clear c44
                     try clear c44b0
                     try clear c44b1
                     try clear c45
                     try clear c45b0
                     try clear c45b1
                     try clear c45b2
                     try clear c46
                     try clear c46b0
                     try clear c46b1
                     try clear c46b2
                     try clear c47
                     try clear c47b0
                     try clear c47b1
                     try clear c47b2
                     try clear c48
                     try clear c48b0
                     try clear c48b1
                     try clear c48b2
                     try clear c49
                     try clear c49b0
                     try clear c49b1
                     try clear c49b2
                     try clear c50
                     try clear c50b0
                     try clear c50b1
                     try clear c50b2
                     try clear c51
                     try clear c51b0
                     try clear c51b1
                     try clear c51b2
                     try clear c53
                     try clear c53b0
                     try clear c54
                     try clear c54b0
                     try clear c55
                     try clear c55b0
                     try clear c55b1
                     try clear c55b2
                     try clear c56
                     try clear c56b0
                     try clear c56b1
                     try clear c56b2
                     try clear p64
                     try clear c66
                     try clear c66b0
                     try clear c66b1
                     try clear c67
                     try clear c67b0
                     try clear c67b1
                     try clear c68
                     try clear c68b0
                     try clear c68b1
                     try clear c69
                     try clear c69b0
                     try clear c69b1
                     try clear c70
                     try clear c70b0
                     try clear c70b1
                     try clear c70b2
                     try clear hcz64_0
                     try clear hcz64_1
                     try clear hcz64_2
                     try clear hcz64_3
                     try clear hcz64_4
                     try clear hcz71_0
                     try clear hcz71_1
                     try clear hcz71_2
                     try clear hcz71_3
                     try clear hcz71_4
                     try clear hcz72_0
                     try clear hcz72_1
                     try clear hcz72_2
                     try clear hcz72_3
                     try clear hcz72_4
                     try clear hcz73_0
                     try clear hcz73_1
                     try clear hcz73_2
                     try clear hcz73_3
                     try clear hcz73_4
                     try clear hcz74_0
                     try clear hcz74_1
                     try clear hcz74_2
                     try clear hcz74_3
                     try clear hcz74_4
                     try clear hfz64_0
                     try clear hfz64_1
                     try clear hfz64_2
                     try clear hfz64_3
                     try clear hfz64_4
                     try clear hfz71_0
                     try clear hfz71_1
                     try clear hfz71_2
                     try clear hfz71_3
                     try clear hfz71_4
                     try clear hfz72_0
                     try clear hfz72_1
                     try clear hfz72_2
                     try clear hfz72_3
                     try clear hfz72_4
                     try clear hfz73_0
                     try clear hfz73_1
                     try clear hfz73_2
                     try clear hfz73_3
                     try clear hfz73_4
                     try clear hfz74_0
                     try clear hfz74_1
                     try clear hfz74_2
                     try clear hfz74_3
                     try clear hfz74_4
                     try clear hx426_0
                     try clear hx430_0
                     try clear hx434_0
                     try clear hx438_0
                     try clear p1
                     try clear p13
                     try clear p17
                     try clear p2
                     try clear p4
                     try clear p426
                     try clear p430
                     try clear p434
                     try clear p438
                     try clear p6
                     try clear p9
                     try clear q1
                     try clear q13
                     try clear q17
                     try clear q4
                     try clear q426
                     try clear q430
                     try clear q434
                     try clear q438
                     try clear q9
                     obtain ⟨kq, x146_57, rfl, HA, HJ57, HO_449003, BK448, HB⟩ := hcut
                     cases kq with
                     | zero => exact absurd HA.out (by simp [brackenlaw10_TokenAttrs.j2])
                     | succ kj57 =>
                      have H := HA.out
                      clear HA
                      simp only [brackenlaw10_TokenAttrs.j2] at H
                      by_cases c75 : x146_57 = true
                      ·subst c75
                       rw [if_pos rfl] at H
                       try dsimp only at H
                       exact absurd ((Option.some.inj H).trans hTrue.out) (by decide)
                      ·replace c75 := Bool.eq_false_iff.mpr c75
                       subst c75
                       rw [if_neg (show ¬ (false = true) by decide)] at H
                       try dsimp only at H
                       have H' := Aside0.mk H
                       clear H
                       go_wp2
                       repeat (go_quiet (fail); try go_wp2)
                       go_loopg [19] kj57 (fun kq v19 w' => ∃ (x19_4 : Int), v19 = .int .i64 x19_4 ∧ Aside0 (brackenlaw10_TokenAttrs.l2 kq a2 (wrap64 (Int.tmod (IntKind.u64.wrap (a0)) 9)) x19_4 t439 t440 t441 t442 t445 = some r) ∧ Aside0 (kq ≤ kj57) ∧ Aside0 (Kd.R k42 42 w' w.heap.size (fun _ => True) (.slice Ao65 t442.length co65) t442) ∧ Aside0 (w'.heap[gb448]? = some (.cells #[.int .i64 t439, .string t440, .string t441, (.slice Ao65 t442.length co65), .bool t445] 27 (0, 0))) ∧ Aside0 (Below w.heap.size w w'))
                       case atStart => exact ⟨(0), (by first | rfl | (simp; done) | (simp [*]; done)), H', ⟨Nat.le_refl _⟩, ⟨by (with_reducible repeat (first | apply Kd.R_alloc | apply Kd.R_drewN | apply Kd.R_drew)); exact HO_449003.out⟩, ⟨by (with_reducible repeat (first | refine blk_drewN ?_ _ | refine blk_drew ?_ | refine blk_alloc ?_ _)); exact BK448.out⟩, ⟨by repeat (first | (with_reducible first | exact HB.out | apply below_alloc | apply pw_below_drewN | apply below_drew1 | refine below_set ?_ GE448.out) | exact HB.out)⟩⟩
                       case round =>
                        clear H'
                        try clear c1
                        try clear p1
                        try clear q1
                        try clear hx1
                        try clear c2
                        try clear p2
                        try clear c3
                        try clear c4
                        try clear c4b0
                        try clear c4b1
                        try clear p4
                        try clear q4
                        try clear hx4
                        try clear c5
                        try clear c6
                        try clear p6
                        try clear c7
                        try clear c7b0
                        try clear c8
                        try clear c8b0
                        try clear p9
                        try clear q9
                        try clear hx9
                        try clear c10
                        try clear c10b0
                        try clear c10b1
                        try clear p13
                        try clear q13
                        try clear hx13
                        try clear c14
                        try clear c14b0
                        try clear c14b1
                        try clear p17
                        try clear q17
                        try clear hx17
                        try clear c18
                        try clear c18b0
                        try clear c18b1
                        try clear c22
                        try clear c22b0
                        try clear c23
                        try clear c23b0
                        try clear c25
                        try clear c25b0
                        try clear c26
                        try clear c26b0
                        try clear c28
                        try clear c28b0
                        try clear c29
                        try clear c29b0
                        try clear c39
                        try clear c39b0
                        try clear c40
                        try clear c40b0
                        try clear c40b1
                        try clear c40b2
                        try clear c41
                        try clear c41b0
                        try clear c41b1
                        try clear c41b2
                        try clear c42
                        try clear c42b0
                        try clear c42b1
                        try clear p42
                        try clear q42
                        try clear hx42
                        try clear c43
                        try clear c43b0
                        try clear c43b1
                        try clear p43
                        try clear q43
                        try clear hx43
                        try clear c44
                        try clear c44b0
                        try clear c44b1
                        try clear c45
                        try clear c45b0
                        try clear c45b1
                        try clear c45b2
                        try clear c46
                        try clear c46b0
                        try clear c46b1
                        try clear c46b2
                        try clear c47
                        try clear c47b0
                        try clear c47b1
                        try clear c47b2
                        try clear c48
                        try clear c48b0
                        try clear c48b1
                        try clear c48b2
                        try clear c49
                        try clear c49b0
                        try clear c49b1
                        try clear c49b2
                        try clear c50
                        try clear c50b0
                        try clear c50b1
                        try clear c50b2
                        try clear c51
                        try clear c51b0
                        try clear c51b1
                        try clear c51b2
                        try clear c53
                        try clear c53b0
                        try clear c54
                        try clear c54b0
                        try clear c55
                        try clear c55b0
                        try clear c55b1
                        try clear c55b2
                        try clear c56
                        try clear c56b0
                        try clear c56b1
                        try clear c56b2
                        try clear p64
                        try clear c66
                        try clear c66b0
                        try clear c66b1
                        try clear c67
                        try clear c67b0
                        try clear c67b1
                        try clear c68
                        try clear c68b0
                        try clear c68b1
                        try clear c69
                        try clear c69b0
                        try clear c69b1
                        try clear c70
                        try clear c70b0
                        try clear c70b1
                        try clear c70b2
                        try clear c75
                        try clear hcz64_0
                        try clear hcz64_1
                        try clear hcz64_2
                        try clear hcz64_3
                        try clear hcz64_4
                        try clear hcz71_0
                        try clear hcz71_1
                        try clear hcz71_2
                        try clear hcz71_3
                        try clear hcz71_4
                        try clear hcz72_0
                        try clear hcz72_1
                        try clear hcz72_2
                        try clear hcz72_3
                        try clear hcz72_4
                        try clear hcz73_0
                        try clear hcz73_1
                        try clear hcz73_2
                        try clear hcz73_3
                        try clear hcz73_4
                        try clear hcz74_0
                        try clear hcz74_1
                        try clear hcz74_2
                        try clear hcz74_3
                        try clear hcz74_4
                        try clear hfz64_0
                        try clear hfz64_1
                        try clear hfz64_2
                        try clear hfz64_3
                        try clear hfz64_4
                        try clear hfz71_0
                        try clear hfz71_1
                        try clear hfz71_2
                        try clear hfz71_3
                        try clear hfz71_4
                        try clear hfz72_0
                        try clear hfz72_1
                        try clear hfz72_2
                        try clear hfz72_3
                        try clear hfz72_4
                        try clear hfz73_0
                        try clear hfz73_1
                        try clear hfz73_2
                        try clear hfz73_3
                        try clear hfz73_4
                        try clear hfz74_0
                        try clear hfz74_1
                        try clear hfz74_2
                        try clear hfz74_3
                        try clear hfz74_4
                        try clear hx426_0
                        try clear hx430_0
                        try clear hx434_0
                        try clear hx438_0
                        try clear p1
                        try clear p13
                        try clear p17
                        try clear p2
                        try clear p4
                        try clear p42
                        try clear p426
                        try clear p43
                        try clear p430
                        try clear p434
                        try clear p438
                        try clear p6
                        try clear p64
                        try clear p9
                        try clear q1
                        try clear q13
                        try clear q17
                        try clear q4
                        try clear q42
                        try clear q426
                        try clear q43
                        try clear q430
                        try clear q434
                        try clear q438
                        try clear q9
                        obtain ⟨x19_4, rfl, HA, HK4, HO_449003, BK448, HB⟩ := hrel
                        cases gk with
                        | zero => exact absurd HA.out (by simp [brackenlaw10_TokenAttrs.l2])
                        | succ k4 =>
                         have H := HA.out
                         clear HA
                         simp only [brackenlaw10_TokenAttrs.l2] at H
                         by_cases c76 : x19_4 < (wrap64 (Int.tmod (IntKind.u64.wrap (a0)) 9))
                         ·rw [if_pos c76] at H
                          have c76b0 : decide (x19_4 < (wrap64 (Int.tmod (IntKind.u64.wrap (a0)) 9))) = true := decide_eq_true c76
                          clear c76
                          by_cases c77 : 0 ≤ x19_4
                          ·rw [if_pos c77] at H
                           have c77b0 : decide (0 ≤ x19_4) = true := decide_eq_true c77
                           clear c77
                           by_cases c78 : x19_4 < (t442.length : Int)
                           ·rw [if_pos c78] at H
                            have c78b0 : decide (x19_4 < (t442.length : Int)) = true := decide_eq_true c78
                            clear c78
                            have c79b0 := eq_true (of_decide_eq_true (by first | (with_reducible assumption) | assumption) : 0 ≤ x19_4)
                            by_cases c80 : x19_4 ≤ (wrap64 (x19_4 + 1))
                            ·rw [if_pos c80] at H
                             have c80b0 := eq_true c80
                             have c80b1 : decide (x19_4 ≤ (wrap64 (x19_4 + 1))) = true := decide_eq_true c80
                             by_cases c81 : (wrap64 (x19_4 + 1)) ≤ 8
                             ·rw [if_pos c81] at H
                              have c81b0 := eq_true c81
                              have c81b1 : decide ((wrap64 (x19_4 + 1)) ≤ 8) = true := decide_eq_true c81
                              obtain ⟨Ex19_4, hE_x19_4⟩ : ∃ X, (⟨#[97, 98, 99, 100, 101, 102, 103, 104]⟩ : ByteArray).extract (x19_4 : Int).toNat ((wrap64 (x19_4 + 1)) : Int).toNat = X := ⟨_, rfl⟩
                              rw [hE_x19_4] at H
                              by_cases c82 : 1 + Ex19_4.size ≤ 9223372036854775807
                              ·rw [if_pos c82] at H
                               have c82b0 := eq_true c82
                               have c82b1 : decide (1 + Ex19_4.size ≤ 9223372036854775807) = true := decide_eq_true c82
                               try have c82b2 : (9223372036854775807 < 1 + Ex19_4.size) = False := eq_false (Nat.not_lt.2 c82)
                               by_cases c83 : ((rd_T42 t442 x19_4).f0).toList = ((⟨#[120]⟩ : ByteArray) ++ Ex19_4).toList
                               ·rw [if_pos c83] at H
                                have c83b0 : (((rd_T42 t442 x19_4).f0).toList == ((⟨#[120]⟩ : ByteArray) ++ Ex19_4).toList) = true := beq_iff_eq.mpr c83
                                have c83b1 : (((rd_T42 t442 x19_4).f0).toList != ((⟨#[120]⟩ : ByteArray) ++ Ex19_4).toList) = false := bne_eq_false_iff_eq.mpr c83
                                clear c83
                                by_cases c84 : ((rd_T42 t442 x19_4).f1).toList = a2.toList
                                ·rw [if_pos c84] at H
                                 have c84b0 : (((rd_T42 t442 x19_4).f1).toList == a2.toList) = true := beq_iff_eq.mpr c84
                                 have c84b1 : (((rd_T42 t442 x19_4).f1).toList != a2.toList) = false := bne_eq_false_iff_eq.mpr c84
                                 clear c84
                                 have H' := Aside0.mk H
                                 clear H
                                 have hcz85_0 : wr.cell? ⟨gb448, 0, none⟩ = some (.int .i64 t439) := (blk_cell BK448.out 0).trans rfl
                                 have hcz85_1 : wr.cell? ⟨gb448, 1, none⟩ = some (.string t440) := (blk_cell BK448.out 1).trans rfl
                                 have hcz85_2 : wr.cell? ⟨gb448, 2, none⟩ = some (.string t441) := (blk_cell BK448.out 2).trans rfl
                                 have hcz85_3 : wr.cell? ⟨gb448, 3, none⟩ = some (.slice Ao65 t442.length co65) := (blk_cell BK448.out 3).trans rfl
                                 have hcz85_4 : wr.cell? ⟨gb448, 4, none⟩ = some (.bool t445) := (blk_cell BK448.out 4).trans rfl
                                 have hfz85_0 := blk_frozen BK448.out 0
                                 have hfz85_1 := blk_frozen BK448.out 1
                                 have hfz85_2 := blk_frozen BK448.out 2
                                 have hfz85_3 := blk_frozen BK448.out 3
                                 have hfz85_4 := blk_frozen BK448.out 4
                                 have p449 : 0 ≤ (x19_4 : Int) := of_decide_eq_true (by first | (with_reducible assumption) | assumption)
                                 have q449 : x19_4 < (t442.length : Int) := of_decide_eq_true (by first | (with_reducible assumption) | assumption)
                                 obtain ⟨ad449, e449, hx449_0, hx449_1⟩ := at_T42 (Kd.R_reads' HO_449003.out).2.2 x19_4 p449 q449
                                 cases e449
                                 replace p449 := eq_true p449
                                 replace q449 := eq_true q449
                                 have p450 : 0 ≤ (x19_4 : Int) := of_decide_eq_true (by first | (with_reducible assumption) | assumption)
                                 have q450 : x19_4 < (t442.length : Int) := of_decide_eq_true (by first | (with_reducible assumption) | assumption)
                                 obtain ⟨ad450, e450, hx450_0, hx450_1⟩ := at_T42 (Kd.R_reads' HO_449003.out).2.2 x19_4 p450 q450
                                 obtain rfl : ad449 = ad450 := (by injection e450)
                                 replace p450 := eq_true p450
                                 replace q450 := eq_true q450
                                 go_wp2
                                 repeat (go_quiet (fail); try go_wp2)
                                 go_roundg k4
                                 case measure => have := HK1.out; have := HK2.out; have := HJ57.out; have := HK4.out; omega
                                 case rel => exact ⟨(wrap64 (x19_4 + 1)), (by first | rfl | (simp; done) | (simp [*]; done)), H', ⟨by have := HK1.out; have := HK2.out; have := HJ57.out; have := HK4.out; omega⟩, ⟨by (with_reducible repeat (first | apply Kd.R_alloc | apply Kd.R_drewN | apply Kd.R_drew)); exact HO_449003.out⟩, ⟨by (with_reducible repeat (first | refine blk_drewN ?_ _ | refine blk_drew ?_ | refine blk_alloc ?_ _)); exact BK448.out⟩, ⟨by repeat (first | (with_reducible first | exact HB.out | apply below_alloc | apply pw_below_drewN | apply below_drew1 | refine below_set ?_ GE448.out) | exact HB.out)⟩⟩
                                ·rw [if_neg c84] at H
                                 have c84b0 : (((rd_T42 t442 x19_4).f1).toList == a2.toList) = false := beq_eq_false_iff_ne.mpr c84
                                 have c84b1 : (((rd_T42 t442 x19_4).f1).toList != a2.toList) = true := bne_iff_ne.mpr c84
                                 exact absurd ((Option.some.inj H).trans hTrue.out) (by decide)
                               ·rw [if_neg c83] at H
                                have c83b0 : (((rd_T42 t442 x19_4).f0).toList == ((⟨#[120]⟩ : ByteArray) ++ Ex19_4).toList) = false := beq_eq_false_iff_ne.mpr c83
                                have c83b1 : (((rd_T42 t442 x19_4).f0).toList != ((⟨#[120]⟩ : ByteArray) ++ Ex19_4).toList) = true := bne_iff_ne.mpr c83
                                exact absurd ((Option.some.inj H).trans hTrue.out) (by decide)
                              ·rw [if_neg c82] at H
                               exact absurd H (by simp)
                             ·rw [if_neg c81] at H
                              exact absurd H (by simp)
                            ·rw [if_neg c80] at H
                             exact absurd H (by simp)
                           ·rw [if_neg c78] at H
                            exact absurd H (by simp)
                          ·rw [if_neg c77] at H
                           exact absurd H (by simp)
                         ·rw [if_neg c76] at H
                          have c76b0 : decide (x19_4 < (wrap64 (Int.tmod (IntKind.u64.wrap (a0)) 9))) = false := decide_eq_false c76
                          clear c76
                          replace H := Option.bind_eq_some_iff.mp H
                          obtain ⟨t451, A860, H⟩ := H
                          replace H : (some t451) = some r := H
                          have A86 := Aside0.mk A860
                          clear A860
                          obtain rfl := Option.some.inj H
                          go_wp2_with (first | (go_at_call 14; (with_reducible refine (brackenlaw10_told.calls k4  t451 _ (Env.below HE.out (by repeat (first | (with_reducible first | exact HB.out | apply below_alloc | apply pw_below_drewN | apply below_drew1 | refine below_set ?_ GE448.out) | exact HB.out))) hTrue A86.out).mono ?_); rintro e w87 ⟨rfl, hb⟩; have n0_ := Aside0.mk (Kd.R_below (by (with_reducible repeat (first | apply Kd.R_alloc | apply Kd.R_drewN | apply Kd.R_drew)); exact HO_449003.out) hb); have n1_ := Aside0.mk (blk_below (g := gb448) (o := .cells #[.int .i64 t439, .string t440, .string t441, .slice Ao65 t442.length co65, .bool t445] 27 (0, 0)) (by (with_reducible repeat (first | refine blk_drewN ?_ _ | refine blk_drew ?_ | refine blk_alloc ?_ _)); exact BK448.out) hb); have n2_ := Aside0.mk (below_step (by repeat (first | (with_reducible first | exact HB.out | apply below_alloc | apply pw_below_drewN | apply below_drew1 | refine below_set ?_ GE448.out) | exact HB.out)) hb); clear HO_449003; clear BK448; clear HB; have HO_449003 := n0_; have BK448 := n1_; have HB := n2_; clear n0_ n1_ n2_; (try clear hb); (try clear hb2); (try clear hk); (try clear hi)))
                          repeat (go_quiet (first | (go_at_call 14; (with_reducible refine (brackenlaw10_told.calls k4  t451 _ (Env.below HE.out (by repeat (first | (with_reducible first | exact HB.out | apply below_alloc | apply pw_below_drewN | apply below_drew1 | refine below_set ?_ GE448.out) | exact HB.out))) hTrue A86.out).mono ?_); rintro e w87 ⟨rfl, hb⟩; have n0_ := Aside0.mk (Kd.R_below (by (with_reducible repeat (first | apply Kd.R_alloc | apply Kd.R_drewN | apply Kd.R_drew)); exact HO_449003.out) hb); have n1_ := Aside0.mk (blk_below (g := gb448) (o := .cells #[.int .i64 t439, .string t440, .string t441, .slice Ao65 t442.length co65, .bool t445] 27 (0, 0)) (by (with_reducible repeat (first | refine blk_drewN ?_ _ | refine blk_drew ?_ | refine blk_alloc ?_ _)); exact BK448.out) hb); have n2_ := Aside0.mk (below_step (by repeat (first | (with_reducible first | exact HB.out | apply below_alloc | apply pw_below_drewN | apply below_drew1 | refine below_set ?_ GE448.out) | exact HB.out)) hb); clear HO_449003; clear BK448; clear HB; have HO_449003 := n0_; have BK448 := n1_; have HB := n2_; clear n0_ n1_ n2_; (try clear hb); (try clear hb2); (try clear hk); (try clear hi))); try go_wp2_with (first | (go_at_call 14; (with_reducible refine (brackenlaw10_told.calls k4  t451 _ (Env.below HE.out (by repeat (first | (with_reducible first | exact HB.out | apply below_alloc | apply pw_below_drewN | apply below_drew1 | refine below_set ?_ GE448.out) | exact HB.out))) hTrue A86.out).mono ?_); rintro e w87 ⟨rfl, hb⟩; have n0_ := Aside0.mk (Kd.R_below (by (with_reducible repeat (first | apply Kd.R_alloc | apply Kd.R_drewN | apply Kd.R_drew)); exact HO_449003.out) hb); have n1_ := Aside0.mk (blk_below (g := gb448) (o := .cells #[.int .i64 t439, .string t440, .string t441, .slice Ao65 t442.length co65, .bool t445] 27 (0, 0)) (by (with_reducible repeat (first | refine blk_drewN ?_ _ | refine blk_drew ?_ | refine blk_alloc ?_ _)); exact BK448.out) hb); have n2_ := Aside0.mk (below_step (by repeat (first | (with_reducible first | exact HB.out | apply below_alloc | apply pw_below_drewN | apply below_drew1 | refine below_set ?_ GE448.out) | exact HB.out)) hb); clear HO_449003; clear BK448; clear HB; have HO_449003 := n0_; have BK448 := n1_; have HB := n2_; clear n0_ n1_ n2_; (try clear hb); (try clear hb2); (try clear hk); (try clear hi))))
                          go_ret
                          exact ⟨by first | rfl | (simp [errW_none, errW_some] <;> rfl) | (simp only [← hji21, ← hji24, ← hji27, ← hji52]; first | rfl | (simp [errW_none, errW_some] <;> rfl)) | (simp [*, errW_none, errW_some] <;> rfl), by repeat (first | (with_reducible first | exact HB.out | apply below_alloc | apply pw_below_drewN | apply below_drew1 | refine below_set ?_ GE448.out) | exact HB.out)⟩
                   ·rw [if_neg c56] at H
                    exact absurd H (by simp)
                  ·rw [if_neg c55] at H
                   exact absurd H (by simp)
                 ·rw [if_neg c54] at H
                  exact absurd H (by simp)
                ·rw [if_neg c53] at H
                 exact absurd H (by simp)
               ·rw [if_neg c51] at H
                exact absurd H (by simp)
              ·rw [if_neg c50] at H
               exact absurd H (by simp)
          ·rw [if_neg c29] at H
           exact absurd H (by simp)
         ·rw [if_neg c28] at H
          exact absurd H (by simp)
        ·rw [if_neg c26] at H
         exact absurd H (by simp)
       ·rw [if_neg c25] at H
        exact absurd H (by simp)
      ·rw [if_neg c23] at H
       exact absurd H (by simp)
     ·rw [if_neg c22] at H
      exact absurd H (by simp)

/-- THE ONE PURE STATEMENT of brackenlaw10_TokenAttrs: yours. -/
def brackenlaw10_TokenAttrs.Pure : Prop := ∀ (a0 : Int) (a1 : Int) (a2 : ByteArray), (Lit.int .i64 a0).wf = true → (Lit.int .i64 a1).wf = true → a2.size ≤ 140737488351232 → ∃ k, brackenlaw10_TokenAttrs.f k a0 a1 a2 = some true
theorem brackenlaw10_TokenAttrs.walk (P : brackenlaw10_TokenAttrs.Pure) (a0 : Int) (a1 : Int) (a2 : ByteArray) (w : World) (hE : Env w) (w0 : (Lit.int .i64 a0).wf = true) (w1 : (Lit.int .i64 a1).wf = true) (w2 : a2.size ≤ 140737488351232) :
  Calls Tryd.prog 6 #[.int .i64 a0, .int .i64 a1, .string a2] w fun e w' => e = .returned (.bool true) ∧ Below w.heap.size w w' := by
 obtain ⟨k, h⟩ := P a0 a1 a2 w0 w1 w2
 refine (brackenlaw10_TokenAttrs.calls k a0 a1 a2 true w hE hidTrue h).mono ?_
 rintro e w' ⟨rfl, hd⟩
 exact ⟨rfl, hd⟩

end Go.Proofs.YtmjdjpelhhibgaaDoor.R1
