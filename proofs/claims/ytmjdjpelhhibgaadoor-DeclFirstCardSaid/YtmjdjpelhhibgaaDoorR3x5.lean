-- written by wip/gen.py (this session's own driver of the kit's printer); Lean checks it
import Derived.Test.YtmjdjpelhhibgaaDoorR3x0
import Derived.Test.YtmjdjpelhhibgaaDoorKDecl
import Derived.Test.YtmjdjpelhhibgaaDoorR3x3
namespace Go.Proofs.YtmjdjpelhhibgaaDoor.R3
open Go.Proofs.YtmjdjpelhhibgaaDoor.Giv
open Go.RowKit Go.Proofs.YtmjdjpelhhibgaaDoorW.PrintWords Go.Proofs.YtmjdjpelhhibgaaDoorW.PrintLast Go.Proofs.YtmjdjpelhhibgaaDoorW.PrintMore
attribute [local go_sem] max2_int min2_int max_two min_two max_three min_three max_four min_four   -- for this text's walks alone
set_option linter.unusedVariables false
set_option linter.unusedSimpArgs false

/-! ### brackenlaw11_plain: function 24 -/
def brackenlaw11_plain.l0 : Nat → ByteArray → Int → Option (Bool)
 | 0, _, _ => none
 | k + 1, x0, x3 => if x3 < (x0.size : Int) then (if 0 ≤ x3 then (if (bt x0 x3) = 39 then (some false) else (if (bt x0 x3) = 60 then (some false) else (if (bt x0 x3) = 38 then (some false) else (if (bt x0 x3) = 37 then (some false) else (brackenlaw11_plain.l0 k x0 (wrap64 (x3 + 1))))))) else (none)) else (some true)
def brackenlaw11_plain.f (k : Nat) (a0 : ByteArray) : Option (Bool) := brackenlaw11_plain.l0 k a0 0
theorem brackenlaw11_plain.mono_l : ∀ k, (∀ y0 y1, LeO (brackenlaw11_plain.l0 k y0 y1) (brackenlaw11_plain.l0 (k + 1) y0 y1))
 | 0 => fun _ _ r h => by simp [brackenlaw11_plain.l0] at h
 | k + 1 => by
  have ih0 := brackenlaw11_plain.mono_l k
  ·intro y0 y1
   unfold brackenlaw11_plain.l0
   repeat' first
   | (with_reducible exact ih0 _ _)
   | (with_reducible exact LeO.refl _)
   | (with_reducible exact LeO.none _)
   | (with_reducible refine LeO.ite ?_ ?_)
   | (with_reducible refine LeO.bind ?_ (fun _ => ?_))
   | exact ih0 _ _
   | exact LeO.none _
   | refine LeO.ite ?_ ?_
   | refine LeO.bind ?_ (fun _ => ?_)
theorem brackenlaw11_plain.mono : ∀ a0 k, LeO (brackenlaw11_plain.f k a0) (brackenlaw11_plain.f (k + 1) a0) := by
 intro a0 k
 have ih0 := brackenlaw11_plain.mono_l k
 unfold brackenlaw11_plain.f
 repeat' first
   | (with_reducible exact ih0 _ _)
   | (with_reducible exact LeO.refl _)
   | (with_reducible exact LeO.none _)
   | (with_reducible refine LeO.ite ?_ ?_)
   | (with_reducible refine LeO.bind ?_ (fun _ => ?_))
   | exact ih0 _ _
   | exact LeO.none _
   | refine LeO.ite ?_ ?_
   | refine LeO.bind ?_ (fun _ => ?_)
set_option maxHeartbeats 8000000 in
set_option maxRecDepth 100000 in
theorem brackenlaw11_plain.calls (k : Nat) (a0 : ByteArray) (r : Bool) (w : World) (h : brackenlaw11_plain.f k a0 = some r) :
  Calls Tryd.prog 24 #[.string a0] w fun e w' => e = .returned (.bool r) ∧ Drawn0 w w' := by
 have H : (brackenlaw11_plain.l0 k a0 0) = some r := h
 clear h
 have H' := Aside0.mk H
 clear H
 go_enter Tryd.func24, Tryd.ntmps24
 go_wp2
 go_loopg [3] k (fun kq v3 w' => ∃ (x3_1 : Int), v3 = .int .i64 x3_1 ∧ Aside0 (brackenlaw11_plain.l0 kq a0 x3_1 = some r) ∧ Aside0 (kq ≤ k) ∧ Drawn0 w w')
 case atStart => exact ⟨(0), (by first | rfl | (simp; done) | (simp [*]; done)), H', ⟨Nat.le_refl _⟩, by repeat (first | exact Drawn0.refl _ | apply Drawn0.step)⟩
 case round =>
  clear H'
  obtain ⟨x3_1, rfl, HA, HK1, ⟨m1, rfl⟩⟩ := hrel
  cases gk with
  | zero => exact absurd HA.out (by simp [brackenlaw11_plain.l0])
  | succ k1 =>
   have H := HA.out
   clear HA
   simp only [brackenlaw11_plain.l0] at H
   by_cases c2 : x3_1 < (a0.size : Int)
   ·rw [if_pos c2] at H
    have c2b0 := decide_eq_true c2
    clear c2
    by_cases c3 : 0 ≤ x3_1
    ·rw [if_pos c3] at H
     have c3b0 := decide_eq_true c3
     clear c3
     by_cases c5 : (bt a0 x3_1) = 39
     ·rw [if_pos c5] at H
      have c5b0 := beq_iff_eq.mpr c5
      have c5b1 := bne_eq_false_iff_eq.mpr c5
      clear c5
      obtain rfl := Option.some.inj H
      have p4 : 0 ≤ (x3_1 : Int) := of_decide_eq_true (by first | (with_reducible assumption) | assumption)
      have q4 : x3_1 < (a0.size : Int) := of_decide_eq_true (by first | (with_reducible assumption) | assumption)
      have hx4 := bt_at a0 x3_1
      replace p4 := eq_true p4
      replace q4 := eq_true q4
      go_wp2
      go_ret
      exact ⟨by first | rfl | (simp; done) | (simp [*]; done), by repeat (first | exact Drawn0.refl _ | apply Drawn0.step)⟩
     ·rw [if_neg c5] at H
      have c5b0 := beq_eq_false_iff_ne.mpr c5
      have c5b1 := bne_iff_ne.mpr c5
      by_cases c7 : (bt a0 x3_1) = 60
      ·rw [if_pos c7] at H
       have c7b0 := beq_iff_eq.mpr c7
       have c7b1 := bne_eq_false_iff_eq.mpr c7
       clear c7
       obtain rfl := Option.some.inj H
       have p4 : 0 ≤ (x3_1 : Int) := of_decide_eq_true (by first | (with_reducible assumption) | assumption)
       have q4 : x3_1 < (a0.size : Int) := of_decide_eq_true (by first | (with_reducible assumption) | assumption)
       have hx4 := bt_at a0 x3_1
       replace p4 := eq_true p4
       replace q4 := eq_true q4
       have p6 : 0 ≤ (x3_1 : Int) := of_decide_eq_true (by first | (with_reducible assumption) | assumption)
       have q6 : x3_1 < (a0.size : Int) := of_decide_eq_true (by first | (with_reducible assumption) | assumption)
       have hx6 := bt_at a0 x3_1
       replace p6 := eq_true p6
       replace q6 := eq_true q6
       go_wp2
       go_ret
       exact ⟨by first | rfl | (simp; done) | (simp [*]; done), by repeat (first | exact Drawn0.refl _ | apply Drawn0.step)⟩
      ·rw [if_neg c7] at H
       have c7b0 := beq_eq_false_iff_ne.mpr c7
       have c7b1 := bne_iff_ne.mpr c7
       by_cases c9 : (bt a0 x3_1) = 38
       ·rw [if_pos c9] at H
        have c9b0 := beq_iff_eq.mpr c9
        have c9b1 := bne_eq_false_iff_eq.mpr c9
        clear c9
        obtain rfl := Option.some.inj H
        have p4 : 0 ≤ (x3_1 : Int) := of_decide_eq_true (by first | (with_reducible assumption) | assumption)
        have q4 : x3_1 < (a0.size : Int) := of_decide_eq_true (by first | (with_reducible assumption) | assumption)
        have hx4 := bt_at a0 x3_1
        replace p4 := eq_true p4
        replace q4 := eq_true q4
        have p6 : 0 ≤ (x3_1 : Int) := of_decide_eq_true (by first | (with_reducible assumption) | assumption)
        have q6 : x3_1 < (a0.size : Int) := of_decide_eq_true (by first | (with_reducible assumption) | assumption)
        have hx6 := bt_at a0 x3_1
        replace p6 := eq_true p6
        replace q6 := eq_true q6
        have p8 : 0 ≤ (x3_1 : Int) := of_decide_eq_true (by first | (with_reducible assumption) | assumption)
        have q8 : x3_1 < (a0.size : Int) := of_decide_eq_true (by first | (with_reducible assumption) | assumption)
        have hx8 := bt_at a0 x3_1
        replace p8 := eq_true p8
        replace q8 := eq_true q8
        go_wp2
        go_ret
        exact ⟨by first | rfl | (simp; done) | (simp [*]; done), by repeat (first | exact Drawn0.refl _ | apply Drawn0.step)⟩
       ·rw [if_neg c9] at H
        have c9b0 := beq_eq_false_iff_ne.mpr c9
        have c9b1 := bne_iff_ne.mpr c9
        by_cases c11 : (bt a0 x3_1) = 37
        ·rw [if_pos c11] at H
         have c11b0 := beq_iff_eq.mpr c11
         have c11b1 := bne_eq_false_iff_eq.mpr c11
         clear c11
         obtain rfl := Option.some.inj H
         have p4 : 0 ≤ (x3_1 : Int) := of_decide_eq_true (by first | (with_reducible assumption) | assumption)
         have q4 : x3_1 < (a0.size : Int) := of_decide_eq_true (by first | (with_reducible assumption) | assumption)
         have hx4 := bt_at a0 x3_1
         replace p4 := eq_true p4
         replace q4 := eq_true q4
         have p6 : 0 ≤ (x3_1 : Int) := of_decide_eq_true (by first | (with_reducible assumption) | assumption)
         have q6 : x3_1 < (a0.size : Int) := of_decide_eq_true (by first | (with_reducible assumption) | assumption)
         have hx6 := bt_at a0 x3_1
         replace p6 := eq_true p6
         replace q6 := eq_true q6
         have p8 : 0 ≤ (x3_1 : Int) := of_decide_eq_true (by first | (with_reducible assumption) | assumption)
         have q8 : x3_1 < (a0.size : Int) := of_decide_eq_true (by first | (with_reducible assumption) | assumption)
         have hx8 := bt_at a0 x3_1
         replace p8 := eq_true p8
         replace q8 := eq_true q8
         have p10 : 0 ≤ (x3_1 : Int) := of_decide_eq_true (by first | (with_reducible assumption) | assumption)
         have q10 : x3_1 < (a0.size : Int) := of_decide_eq_true (by first | (with_reducible assumption) | assumption)
         have hx10 := bt_at a0 x3_1
         replace p10 := eq_true p10
         replace q10 := eq_true q10
         go_wp2
         go_ret
         exact ⟨by first | rfl | (simp; done) | (simp [*]; done), by repeat (first | exact Drawn0.refl _ | apply Drawn0.step)⟩
        ·rw [if_neg c11] at H
         have c11b0 := beq_eq_false_iff_ne.mpr c11
         have c11b1 := bne_iff_ne.mpr c11
         have H' := Aside0.mk H
         clear H
         have p4 : 0 ≤ (x3_1 : Int) := of_decide_eq_true (by first | (with_reducible assumption) | assumption)
         have q4 : x3_1 < (a0.size : Int) := of_decide_eq_true (by first | (with_reducible assumption) | assumption)
         have hx4 := bt_at a0 x3_1
         replace p4 := eq_true p4
         replace q4 := eq_true q4
         have p6 : 0 ≤ (x3_1 : Int) := of_decide_eq_true (by first | (with_reducible assumption) | assumption)
         have q6 : x3_1 < (a0.size : Int) := of_decide_eq_true (by first | (with_reducible assumption) | assumption)
         have hx6 := bt_at a0 x3_1
         replace p6 := eq_true p6
         replace q6 := eq_true q6
         have p8 : 0 ≤ (x3_1 : Int) := of_decide_eq_true (by first | (with_reducible assumption) | assumption)
         have q8 : x3_1 < (a0.size : Int) := of_decide_eq_true (by first | (with_reducible assumption) | assumption)
         have hx8 := bt_at a0 x3_1
         replace p8 := eq_true p8
         replace q8 := eq_true q8
         have p10 : 0 ≤ (x3_1 : Int) := of_decide_eq_true (by first | (with_reducible assumption) | assumption)
         have q10 : x3_1 < (a0.size : Int) := of_decide_eq_true (by first | (with_reducible assumption) | assumption)
         have hx10 := bt_at a0 x3_1
         replace p10 := eq_true p10
         replace q10 := eq_true q10
         go_wp2
         go_roundg k1
         case measure => have := HK1.out; omega
         case rel => exact ⟨(wrap64 (x3_1 + 1)), (by first | rfl | (simp; done) | (simp [*]; done)), H', ⟨by have := HK1.out; omega⟩, by repeat (first | exact Drawn0.refl _ | apply Drawn0.step)⟩
    ·rw [if_neg c3] at H
     exact absurd H (by simp)
   ·rw [if_neg c2] at H
    have c2b0 := decide_eq_false c2
    clear c2
    obtain rfl := Option.some.inj H
    go_wp2
    go_ret
    exact ⟨by first | rfl | (simp; done) | (simp [*]; done), by repeat (first | exact Drawn0.refl _ | apply Drawn0.step)⟩

/-! ### brackenlaw11_DeclFirst: function 10 -/
def brackenlaw11_DeclFirst.j0 : Nat → ByteArray → ByteArray → Bool → Option (Bool)
 | 0, _, _, _ => none
 | k + 1, x0, x1, x26 => if x26 = true then ((brackenlaw11_told.f).bind fun t201 => (some t201)) else (if 25 + x0.size ≤ 9223372036854775807 then (if 25 + x0.size + 14 ≤ 9223372036854775807 then (if 25 + x0.size + 14 + x1.size ≤ 9223372036854775807 then (if 25 + x0.size + 14 + x1.size + 23 ≤ 9223372036854775807 then (if 25 + x0.size + 14 + x1.size + 23 + x0.size ≤ 9223372036854775807 then (if 25 + x0.size + 14 + x1.size + 23 + x0.size + 32 ≤ 9223372036854775807 then (if 25 + x0.size + 14 + x1.size + 23 + x0.size + 32 + x1.size ≤ 9223372036854775807 then (if 25 + x0.size + 14 + x1.size + 23 + x0.size + 32 + x1.size + 4 ≤ 9223372036854775807 then ((decl_Doctype.f (((((((((⟨#[60, 33, 68, 79, 67, 84, 89, 80, 69, 32, 114, 32, 91, 60, 33, 69, 78, 84, 73, 84, 89, 32, 101, 32, 39]⟩ : ByteArray) ++ x0) ++ (⟨#[39, 62, 60, 33, 69, 78, 84, 73, 84, 89, 32, 101, 32, 39]⟩ : ByteArray)) ++ x1) ++ (⟨#[39, 62, 60, 33, 65, 84, 84, 76, 73, 83, 84, 32, 114, 32, 120, 32, 67, 68, 65, 84, 65, 32, 39]⟩ : ByteArray)) ++ x0) ++ (⟨#[39, 62, 60, 33, 65, 84, 84, 76, 73, 83, 84, 32, 114, 32, 121, 32, 67, 68, 65, 84, 65, 32, 39, 113, 39, 32, 120, 32, 73, 68, 32, 39]⟩ : ByteArray)) ++ x1) ++ (⟨#[39, 62, 93, 62]⟩ : ByteArray)) 0).bind fun bt202 => ((brackenlaw11_told.f).bind fun t212 => (if t212 = true then (if bt202.2.2.2.2 = 0 then (if bt202.2.2.2.1 = ((((((((((⟨#[60, 33, 68, 79, 67, 84, 89, 80, 69, 32, 114, 32, 91, 60, 33, 69, 78, 84, 73, 84, 89, 32, 101, 32, 39]⟩ : ByteArray) ++ x0) ++ (⟨#[39, 62, 60, 33, 69, 78, 84, 73, 84, 89, 32, 101, 32, 39]⟩ : ByteArray)) ++ x1) ++ (⟨#[39, 62, 60, 33, 65, 84, 84, 76, 73, 83, 84, 32, 114, 32, 120, 32, 67, 68, 65, 84, 65, 32, 39]⟩ : ByteArray)) ++ x0) ++ (⟨#[39, 62, 60, 33, 65, 84, 84, 76, 73, 83, 84, 32, 114, 32, 121, 32, 67, 68, 65, 84, 65, 32, 39, 113, 39, 32, 120, 32, 73, 68, 32, 39]⟩ : ByteArray)) ++ x1) ++ (⟨#[39, 62, 93, 62]⟩ : ByteArray)).size : Int) then (if (bt202.2.1.length : Int) = 1 then (if 0 < (bt202.2.1.length : Int) then (if ((rd_T52 bt202.2.1 0).f1).toList = x0.toList then (if (bt202.2.2.1.length : Int) = 2 then (if 0 < (bt202.2.2.1.length : Int) then (if ((rd_T58 bt202.2.2.1 0).f4).toList = x0.toList then (if ((rd_T58 bt202.2.2.1 0).f2) = 1 then (if 1 < (bt202.2.2.1.length : Int) then (some (((rd_T58 bt202.2.2.1 1).f1).toList == ([121] : List UInt8))) else (none)) else (some false)) else (some false)) else (none)) else (some false)) else (some false)) else (none)) else (some false)) else (some false)) else (some false)) else (some false)))) else (none)) else (none)) else (none)) else (none)) else (none)) else (none)) else (none)) else (none))
def brackenlaw11_DeclFirst.f (k : Nat) (a0 : ByteArray) (a1 : ByteArray) : Option (Bool) := if (a0.size : Int) > 30 then (brackenlaw11_DeclFirst.j0 k a0 a1 true) else (if (a1.size : Int) > 30 then (brackenlaw11_DeclFirst.j0 k a0 a1 true) else ((brackenlaw11_plain.f k a0).bind fun t199 => (if t199 = true then ((brackenlaw11_plain.f k a1).bind fun t200 => (brackenlaw11_DeclFirst.j0 k a0 a1 (!t200))) else (brackenlaw11_DeclFirst.j0 k a0 a1 true))))
theorem brackenlaw11_DeclFirst.mono_l : ∀ k, (∀ y0 y1 y2, LeO (brackenlaw11_DeclFirst.j0 k y0 y1 y2) (brackenlaw11_DeclFirst.j0 (k + 1) y0 y1 y2))
 | 0 => fun _ _ _ r h => by simp [brackenlaw11_DeclFirst.j0] at h
 | k + 1 => by
  have ih0 := brackenlaw11_DeclFirst.mono_l k
  ·intro y0 y1 y2
   unfold brackenlaw11_DeclFirst.j0
   repeat' first
   | (with_reducible exact ih0 _ _ _)
   | (with_reducible exact brackenlaw11_plain.mono _ _)
   | (with_reducible exact LeO.refl _)
   | (with_reducible exact LeO.none _)
   | (with_reducible refine LeO.ite ?_ ?_)
   | (with_reducible refine LeO.bind ?_ (fun _ => ?_))
   | exact ih0 _ _ _
   | exact brackenlaw11_plain.mono _ _
   | exact LeO.none _
   | refine LeO.ite ?_ ?_
   | refine LeO.bind ?_ (fun _ => ?_)
theorem brackenlaw11_DeclFirst.mono : ∀ a0 a1 k, LeO (brackenlaw11_DeclFirst.f k a0 a1) (brackenlaw11_DeclFirst.f (k + 1) a0 a1) := by
 intro a0 a1 k
 have ih0 := brackenlaw11_DeclFirst.mono_l k
 unfold brackenlaw11_DeclFirst.f
 repeat' first
   | (with_reducible exact ih0 _ _ _)
   | (with_reducible exact brackenlaw11_plain.mono _ _)
   | (with_reducible exact LeO.refl _)
   | (with_reducible exact LeO.none _)
   | (with_reducible refine LeO.ite ?_ ?_)
   | (with_reducible refine LeO.bind ?_ (fun _ => ?_))
   | exact ih0 _ _ _
   | exact brackenlaw11_plain.mono _ _
   | exact LeO.none _
   | refine LeO.ite ?_ ?_
   | refine LeO.bind ?_ (fun _ => ?_)
set_option maxHeartbeats 8000000 in
set_option maxRecDepth 100000 in
theorem brackenlaw11_DeclFirst.calls (k : Nat) (a0 : ByteArray) (a1 : ByteArray) (r : Bool) (w : World) (hE : Env w) (hTrue : Hid (r = true)) (h : brackenlaw11_DeclFirst.f k a0 a1 = some r) :
  Calls Tryd.prog 10 #[.string a0, .string a1] w fun e w' => e = .returned (.bool r) ∧ Below w.heap.size w w' := by
 have hu48 := Tryd.underlying48
 have HE := Aside0.mk hE
 clear hE
 have HB := Aside0.mk (Below.refl w.heap.size w)
 have H : (if (a0.size : Int) > 30 then (brackenlaw11_DeclFirst.j0 k a0 a1 true) else (if (a1.size : Int) > 30 then (brackenlaw11_DeclFirst.j0 k a0 a1 true) else ((brackenlaw11_plain.f k a0).bind fun t199 => (if t199 = true then ((brackenlaw11_plain.f k a1).bind fun t200 => (brackenlaw11_DeclFirst.j0 k a0 a1 (!t200))) else (brackenlaw11_DeclFirst.j0 k a0 a1 true))))) = some r := h
 clear h
 have HC3 := Aside0.mk H
 clear H
 go_enter Tryd.func10, Tryd.ntmps10
 go_upto_region 1 with (fail)
 go_cut [26] (fun v26 wc => ∃ (kq : Nat) (x26_2 : Bool), v26 = .bool x26_2 ∧ Aside0 (brackenlaw11_DeclFirst.j0 kq a0 a1 x26_2 = some r) ∧ Aside0 (kq ≤ k) ∧ Aside0 (Below w.heap.size w wc))
 case first =>
  have H := HC3.out
  clear HC3
  by_cases c4 : (a0.size : Int) > 30
  ·rw [if_pos c4] at H
   have c4b0 : decide (30 < (a0.size : Int)) = true := decide_eq_true c4
   have c4b1 : decide (30 < a0.size) = true := decide_eq_true (by omega)
   clear c4
   (first | rw [c4b0] | (simp only [i64_w, i32_w]; rw [c4b0]) | skip)
   have H' := Aside0.mk H
   clear H
   go_wp2
   go_meet
   case rel => exact ⟨_, (true), (by first | rfl | (simp; done) | (simp [*]; done)), H', ⟨by first | omega | exact Nat.le_refl _⟩, ⟨by repeat (first | (with_reducible first | exact HB.out | apply below_alloc | apply pw_below_drewN | apply below_drew1) | exact HB.out)⟩⟩
  ·rw [if_neg c4] at H
   have c4b0 : decide (30 < (a0.size : Int)) = false := decide_eq_false c4
   have c4b1 : decide (30 < a0.size) = false := decide_eq_false (by omega)
   clear c4
   (first | rw [c4b0] | (simp only [i64_w, i32_w]; rw [c4b0]) | skip)
   by_cases c5 : (a1.size : Int) > 30
   ·rw [if_pos c5] at H
    have c5b0 : decide (30 < (a1.size : Int)) = true := decide_eq_true c5
    have c5b1 : decide (30 < a1.size) = true := decide_eq_true (by omega)
    clear c5
    have H' := Aside0.mk H
    clear H
    go_wp2
    go_meet
    case rel => exact ⟨_, (true), (by first | rfl | (simp; done) | (simp [*]; done)), H', ⟨by first | omega | exact Nat.le_refl _⟩, ⟨by repeat (first | (with_reducible first | exact HB.out | apply below_alloc | apply pw_below_drewN | apply below_drew1) | exact HB.out)⟩⟩
   ·rw [if_neg c5] at H
    have c5b0 : decide (30 < (a1.size : Int)) = false := decide_eq_false c5
    have c5b1 : decide (30 < a1.size) = false := decide_eq_false (by omega)
    clear c5
    replace H := Option.bind_eq_some_iff.mp H
    obtain ⟨t199, A60, H⟩ := H
    try dsimp only at H
    have A6 := Aside0.mk A60
    clear A60
    by_cases c7 : t199 = true
    ·subst c7
     rw [if_pos rfl] at H
     try dsimp only at H
     replace H := Option.bind_eq_some_iff.mp H
     obtain ⟨t200, A80, H⟩ := H
     replace H : (brackenlaw11_DeclFirst.j0 k a0 a1 (!t200)) = some r := H
     have A8 := Aside0.mk A80
     clear A80
     have H' := Aside0.mk H
     clear H
     go_wp2_with (first | (go_at_call 24; (with_reducible refine (brackenlaw11_plain.calls k a0 true _ A6.out).mono ?_); rintro e w' ⟨rfl, ⟨nd, rfl⟩⟩) | (go_at_call 24; (with_reducible refine (brackenlaw11_plain.calls k a1 t200 _ A8.out).mono ?_); rintro e w' ⟨rfl, ⟨nd, rfl⟩⟩))
     go_meet
     case rel => exact ⟨_, (!t200), (by first | rfl | (simp; done) | (simp [*]; done)), H', ⟨by first | omega | exact Nat.le_refl _⟩, ⟨by repeat (first | (with_reducible first | exact HB.out | apply below_alloc | apply pw_below_drewN | apply below_drew1) | exact HB.out)⟩⟩
    ·replace c7 := Bool.eq_false_iff.mpr c7
     subst c7
     rw [if_neg (show ¬ (false = true) by decide)] at H
     try dsimp only at H
     have H' := Aside0.mk H
     clear H
     go_wp2_with (first | (go_at_call 24; (with_reducible refine (brackenlaw11_plain.calls k a0 false _ A6.out).mono ?_); rintro e w' ⟨rfl, ⟨nd, rfl⟩⟩))
     go_meet
     case rel => exact ⟨_, (true), (by first | rfl | (simp; done) | (simp [*]; done)), H', ⟨by first | omega | exact Nat.le_refl _⟩, ⟨by repeat (first | (with_reducible first | exact HB.out | apply below_alloc | apply pw_below_drewN | apply below_drew1) | exact HB.out)⟩⟩
 case rest =>
  clear HC3
  try clear c1
  try clear p2
  try clear c4
  try clear c4b0
  try clear c4b1
  try clear c5
  try clear c5b0
  try clear c5b1
  try clear c7
  obtain ⟨kq, x26_2, rfl, HA, HJ2, HB⟩ := hcut
  cases kq with
  | zero => exact absurd HA.out (by simp [brackenlaw11_DeclFirst.j0])
  | succ kj2 =>
   have H := HA.out
   clear HA
   simp only [brackenlaw11_DeclFirst.j0] at H
   by_cases c9 : x26_2 = true
   ·subst c9
    rw [if_pos rfl] at H
    try dsimp only at H
    replace H := Option.bind_eq_some_iff.mp H
    obtain ⟨t201, A100, H⟩ := H
    replace H : (some t201) = some r := H
    have A10 := Aside0.mk A100
    clear A100
    obtain rfl := Option.some.inj H
    go_wp2_with (first | (go_at_call 22; (with_reducible refine (brackenlaw11_told.calls  t201 _ (Env.below HE.out (by repeat (first | (with_reducible first | exact HB.out | apply below_alloc | apply pw_below_drewN | apply below_drew1) | exact HB.out))) hTrue A10.out).mono ?_); rintro e w11 ⟨rfl, hb⟩; have n0_ := Aside0.mk (below_step (by repeat (first | (with_reducible first | exact HB.out | apply below_alloc | apply pw_below_drewN | apply below_drew1) | exact HB.out)) hb); clear HB; have HB := n0_; clear n0_; (try clear hb); (try clear hb2); (try clear hk); (try clear hi)))
    go_ret
    exact ⟨by first | rfl | (simp [errW_none, errW_some] <;> rfl) | (simp [*, errW_none, errW_some] <;> rfl), by repeat (first | (with_reducible first | exact HB.out | apply below_alloc | apply pw_below_drewN | apply below_drew1) | exact HB.out)⟩
   ·replace c9 := Bool.eq_false_iff.mpr c9
    subst c9
    rw [if_neg (show ¬ (false = true) by decide)] at H
    try dsimp only at H
    by_cases c12 : 25 + a0.size ≤ 9223372036854775807
    ·rw [if_pos c12] at H
     have c12b0 := eq_true c12
     have c12b1 := decide_eq_true c12
     try have c12b2 := eq_false (Nat.not_lt.2 c12)
     by_cases c13 : 25 + a0.size + 14 ≤ 9223372036854775807
     ·rw [if_pos c13] at H
      have c13b0 := eq_true c13
      have c13b1 := decide_eq_true c13
      try have c13b2 := eq_false (Nat.not_lt.2 c13)
      by_cases c14 : 25 + a0.size + 14 + a1.size ≤ 9223372036854775807
      ·rw [if_pos c14] at H
       have c14b0 := eq_true c14
       have c14b1 := decide_eq_true c14
       try have c14b2 := eq_false (Nat.not_lt.2 c14)
       by_cases c15 : 25 + a0.size + 14 + a1.size + 23 ≤ 9223372036854775807
       ·rw [if_pos c15] at H
        have c15b0 := eq_true c15
        have c15b1 := decide_eq_true c15
        try have c15b2 := eq_false (Nat.not_lt.2 c15)
        by_cases c16 : 25 + a0.size + 14 + a1.size + 23 + a0.size ≤ 9223372036854775807
        ·rw [if_pos c16] at H
         have c16b0 := eq_true c16
         have c16b1 := decide_eq_true c16
         try have c16b2 := eq_false (Nat.not_lt.2 c16)
         by_cases c17 : 25 + a0.size + 14 + a1.size + 23 + a0.size + 32 ≤ 9223372036854775807
         ·rw [if_pos c17] at H
          have c17b0 := eq_true c17
          have c17b1 := decide_eq_true c17
          try have c17b2 := eq_false (Nat.not_lt.2 c17)
          by_cases c18 : 25 + a0.size + 14 + a1.size + 23 + a0.size + 32 + a1.size ≤ 9223372036854775807
          ·rw [if_pos c18] at H
           have c18b0 := eq_true c18
           have c18b1 := decide_eq_true c18
           try have c18b2 := eq_false (Nat.not_lt.2 c18)
           by_cases c19 : 25 + a0.size + 14 + a1.size + 23 + a0.size + 32 + a1.size + 4 ≤ 9223372036854775807
           ·rw [if_pos c19] at H
            have c19b0 := eq_true c19
            have c19b1 := decide_eq_true c19
            try have c19b2 := eq_false (Nat.not_lt.2 c19)
            replace H := Option.bind_eq_some_iff.mp H
            obtain ⟨⟨t202, t203, t206, t209, t210⟩, A200, H⟩ := H
            try dsimp only at H
            have A20 := Aside0.mk A200
            clear A200
            replace H := Option.bind_eq_some_iff.mp H
            obtain ⟨t212, A210, H⟩ := H
            try dsimp only at H
            have A21 := Aside0.mk A210
            clear A210
            by_cases c22 : t212 = true
            ·subst c22
             rw [if_pos rfl] at H
             try dsimp only at H
             by_cases c23 : t210 = 0
             ·rw [if_pos c23] at H
              have c23b0 := beq_iff_eq.mpr c23
              have c23b1 := bne_eq_false_iff_eq.mpr c23
              clear c23
              by_cases c24 : t209 = ((((((((((⟨#[60, 33, 68, 79, 67, 84, 89, 80, 69, 32, 114, 32, 91, 60, 33, 69, 78, 84, 73, 84, 89, 32, 101, 32, 39]⟩ : ByteArray) ++ a0) ++ (⟨#[39, 62, 60, 33, 69, 78, 84, 73, 84, 89, 32, 101, 32, 39]⟩ : ByteArray)) ++ a1) ++ (⟨#[39, 62, 60, 33, 65, 84, 84, 76, 73, 83, 84, 32, 114, 32, 120, 32, 67, 68, 65, 84, 65, 32, 39]⟩ : ByteArray)) ++ a0) ++ (⟨#[39, 62, 60, 33, 65, 84, 84, 76, 73, 83, 84, 32, 114, 32, 121, 32, 67, 68, 65, 84, 65, 32, 39, 113, 39, 32, 120, 32, 73, 68, 32, 39]⟩ : ByteArray)) ++ a1) ++ (⟨#[39, 62, 93, 62]⟩ : ByteArray)).size : Int)
              ·rw [if_pos c24] at H
               have c24b0 := beq_iff_eq.mpr c24
               have c24b1 := bne_eq_false_iff_eq.mpr c24
               have c24e : ((((((((((⟨#[60, 33, 68, 79, 67, 84, 89, 80, 69, 32, 114, 32, 91, 60, 33, 69, 78, 84, 73, 84, 89, 32, 101, 32, 39]⟩ : ByteArray) ++ a0) ++ (⟨#[39, 62, 60, 33, 69, 78, 84, 73, 84, 89, 32, 101, 32, 39]⟩ : ByteArray)) ++ a1) ++ (⟨#[39, 62, 60, 33, 65, 84, 84, 76, 73, 83, 84, 32, 114, 32, 120, 32, 67, 68, 65, 84, 65, 32, 39]⟩ : ByteArray)) ++ a0) ++ (⟨#[39, 62, 60, 33, 65, 84, 84, 76, 73, 83, 84, 32, 114, 32, 121, 32, 67, 68, 65, 84, 65, 32, 39, 113, 39, 32, 120, 32, 73, 68, 32, 39]⟩ : ByteArray)) ++ a1) ++ (⟨#[39, 62, 93, 62]⟩ : ByteArray)).size : Int) = 25 + ((a0).size : Int) + 14 + ((a1).size : Int) + 23 + ((a0).size : Int) + 32 + ((a1).size : Int) + 4 := by simp only [ByteArray.size_append, Int.natCast_add]; rfl
               have c24b2 : (t209 == (25 + ((a0).size : Int) + 14 + ((a1).size : Int) + 23 + ((a0).size : Int) + 32 + ((a1).size : Int) + 4)) = true := by rw [← c24e]; exact c24b0
               have c24b3 : (t209 != (25 + ((a0).size : Int) + 14 + ((a1).size : Int) + 23 + ((a0).size : Int) + 32 + ((a1).size : Int) + 4)) = false := by rw [← c24e]; exact c24b1
               have c24b4 : (t209 = (25 + ((a0).size : Int) + 14 + ((a1).size : Int) + 23 + ((a0).size : Int) + 32 + ((a1).size : Int) + 4)) = True := eq_true (beq_iff_eq.mp c24b2)
               clear c24
               by_cases c25 : (t203.length : Int) = 1
               ·rw [if_pos c25] at H
                have c25b0 := beq_iff_eq.mpr c25
                have c25b1 := bne_eq_false_iff_eq.mpr c25
                clear c25
                by_cases c26 : 0 < (t203.length : Int)
                ·rw [if_pos c26] at H
                 have c26b0 := decide_eq_true c26
                 have c26b1 : decide (0 < t203.length) = true := decide_eq_true (by omega)
                 clear c26
                 by_cases c27 : ((rd_T52 t203 0).f1).toList = a0.toList
                 ·rw [if_pos c27] at H
                  have c27b0 := beq_iff_eq.mpr c27
                  have c27b1 := bne_eq_false_iff_eq.mpr c27
                  clear c27
                  by_cases c28 : (t206.length : Int) = 2
                  ·rw [if_pos c28] at H
                   have c28b0 := beq_iff_eq.mpr c28
                   have c28b1 := bne_eq_false_iff_eq.mpr c28
                   clear c28
                   by_cases c29 : 0 < (t206.length : Int)
                   ·rw [if_pos c29] at H
                    have c29b0 := decide_eq_true c29
                    have c29b1 : decide (0 < t206.length) = true := decide_eq_true (by omega)
                    clear c29
                    by_cases c30 : ((rd_T58 t206 0).f4).toList = a0.toList
                    ·rw [if_pos c30] at H
                     have c30b0 := beq_iff_eq.mpr c30
                     have c30b1 := bne_eq_false_iff_eq.mpr c30
                     clear c30
                     by_cases c31 : ((rd_T58 t206 0).f2) = 1
                     ·rw [if_pos c31] at H
                      have c31b0 := beq_iff_eq.mpr c31
                      have c31b1 := bne_eq_false_iff_eq.mpr c31
                      clear c31
                      by_cases c32 : 1 < (t206.length : Int)
                      ·rw [if_pos c32] at H
                       have c32b0 := decide_eq_true c32
                       have c32b1 : decide (1 < t206.length) = true := decide_eq_true (by omega)
                       clear c32
                       obtain rfl := Option.some.inj H
                       go_wp2_with (first | ((with_reducible refine gate_callee (f := 21) rfl ?_); refine goesL_ (some 42) rfl rfl Tryd.func21 (by kernel_rfl) rfl #[.string (((((((((⟨#[60, 33, 68, 79, 67, 84, 89, 80, 69, 32, 114, 32, 91, 60, 33, 69, 78, 84, 73, 84, 89, 32, 101, 32, 39]⟩ : ByteArray) ++ a0) ++ (⟨#[39, 62, 60, 33, 69, 78, 84, 73, 84, 89, 32, 101, 32, 39]⟩ : ByteArray)) ++ a1) ++ (⟨#[39, 62, 60, 33, 65, 84, 84, 76, 73, 83, 84, 32, 114, 32, 120, 32, 67, 68, 65, 84, 65, 32, 39]⟩ : ByteArray)) ++ a0) ++ (⟨#[39, 62, 60, 33, 65, 84, 84, 76, 73, 83, 84, 32, 114, 32, 121, 32, 67, 68, 65, 84, 65, 32, 39, 113, 39, 32, 120, 32, 73, 68, 32, 39]⟩ : ByteArray)) ++ a1) ++ (⟨#[39, 62, 93, 62]⟩ : ByteArray)), .int .i64 0] rfl (by (try simp only [List.map_toArray, List.map_cons, List.map_nil]); first | done | rfl | (simp only [List.length_drop, List.length_take]; rfl)) ?_; (with_reducible refine (decl_Doctype.calls (((((((((⟨#[60, 33, 68, 79, 67, 84, 89, 80, 69, 32, 114, 32, 91, 60, 33, 69, 78, 84, 73, 84, 89, 32, 101, 32, 39]⟩ : ByteArray) ++ a0) ++ (⟨#[39, 62, 60, 33, 69, 78, 84, 73, 84, 89, 32, 101, 32, 39]⟩ : ByteArray)) ++ a1) ++ (⟨#[39, 62, 60, 33, 65, 84, 84, 76, 73, 83, 84, 32, 114, 32, 120, 32, 67, 68, 65, 84, 65, 32, 39]⟩ : ByteArray)) ++ a0) ++ (⟨#[39, 62, 60, 33, 65, 84, 84, 76, 73, 83, 84, 32, 114, 32, 121, 32, 67, 68, 65, 84, 65, 32, 39, 113, 39, 32, 120, 32, 73, 68, 32, 39]⟩ : ByteArray)) ++ a1) ++ (⟨#[39, 62, 93, 62]⟩ : ByteArray)) 0 t202 t203 t206 t209 t210 _ (Env.below HE.out (by repeat (first | (with_reducible first | exact HB.out | apply below_alloc | apply pw_below_drewN | apply below_drew1) | exact HB.out))) A20.out).mono ?_); rintro e w33 ⟨v204, v207, rfl, ho0, ho1, hb⟩; refine ⟨_, rfl, ?_⟩; have n0_ := Aside0.mk (Kd.R_lower ho0 (below_size (by repeat (first | (with_reducible first | exact HB.out | apply below_alloc | apply pw_below_drewN | apply below_drew1) | exact HB.out)))); have n1_ := Aside0.mk (Kd.R_lower ho1 (below_size (by repeat (first | (with_reducible first | exact HB.out | apply below_alloc | apply pw_below_drewN | apply below_drew1) | exact HB.out)))); have n2_ := Aside0.mk (below_step (by repeat (first | (with_reducible first | exact HB.out | apply below_alloc | apply pw_below_drewN | apply below_drew1) | exact HB.out)) hb); clear HB; have HO205 := n0_; have HO208 := n1_; have HB := n2_; clear n0_ n1_ n2_; (try clear hb); (try clear hb2); (try clear hk); (try clear hi); (try clear ho0); (try clear ho1)) | ((with_reducible refine gate_dst (N := 6) rfl ?_); (try (refine gate_guard (by rfl) ?_; dsimp only)); refine box_event ?hg (N := 6) ?hd (cs := #[.string ⟨#[]⟩, .slice none 0 0, .slice none 0 0]) (t := 48) ?hr ?_; (case hd => rfl); (case hg => rfl); (case hr => first | (go_simp; done) | (go_simp; rfl)); intro gb211 hg w34 hbox hb; have n0_ := Aside0.mk (Kd.R_below (by (with_reducible repeat (first | apply Kd.R_alloc | apply Kd.R_drewN | apply Kd.R_drew)); exact HO205.out) hb); have n1_ := Aside0.mk (Kd.R_below (by (with_reducible repeat (first | apply Kd.R_alloc | apply Kd.R_drewN | apply Kd.R_drew)); exact HO208.out) hb); have n2_ := Aside0.mk (below_step (by repeat (first | (with_reducible first | exact HB.out | apply below_alloc | apply pw_below_drewN | apply below_drew1) | exact HB.out)) hb); have n3_ := Aside0.mk (hbox); have n4_ := Aside0.mk ((by rw [hg]; exact (below_size (by repeat (first | (with_reducible first | exact HB.out | apply below_alloc | apply pw_below_drewN | apply below_drew1) | exact HB.out))) : w.heap.size ≤ gb211)); have n5_ := Aside0.mk ((by rw [hg]; exact (below_size (by repeat (first | (with_reducible first | exact HB.out | apply below_alloc | apply pw_below_drewN | apply below_drew1) | exact HB.out))) : w.heap.size ≤ gb211)); clear HO205; clear HO208; clear HB; have HO205 := n0_; have HO208 := n1_; have HB := n2_; have BK211 := n3_; have GW211 := n4_; have GE211 := n5_; clear n0_ n1_ n2_ n3_ n4_ n5_; clear hb hbox hg; have hcz35_0 : w34.cell? ⟨gb211, 0, none⟩ = some (.string ⟨#[]⟩) := (blk_cell BK211.out 0).trans rfl; have hcz35_1 : w34.cell? ⟨gb211, 1, none⟩ = some (.slice none 0 0) := (blk_cell BK211.out 1).trans rfl; have hcz35_2 : w34.cell? ⟨gb211, 2, none⟩ = some (.slice none 0 0) := (blk_cell BK211.out 2).trans rfl; have hfz35_0 := blk_frozen BK211.out 0; have hfz35_1 := blk_frozen BK211.out 1; have hfz35_2 := blk_frozen BK211.out 2; obtain ⟨Ao36, co36, eo36⟩ := Kd.R_slice HO205.out; subst eo36; obtain ⟨Ao37, co37, eo37⟩ := Kd.R_slice HO208.out; subst eo37) | (go_at_call 22; (with_reducible refine (brackenlaw11_told.calls  true _ (Env.below HE.out (by repeat (first | (with_reducible first | exact HB.out | apply below_alloc | apply pw_below_drewN | apply below_drew1 | refine below_set ?_ GE211.out) | exact HB.out))) hidTrue A21.out).mono ?_); rintro e w38 ⟨rfl, hb⟩; have n0_ := Aside0.mk (Kd.R_below (by (with_reducible repeat (first | apply Kd.R_alloc | apply Kd.R_drewN | apply Kd.R_drew)); exact (Kd.R_mono (Kd.R_far (p := ⟨gb211, 2, none⟩) (Kd.R_far (p := ⟨gb211, 1, none⟩) (Kd.R_far (p := ⟨gb211, 0, none⟩) (Kd.R_types HO205.out BK211.out (by decide)) (fun _ hk => hk.2) (.string t202)) (fun _ hk => hk.2) (.slice Ao36 t203.length co36)) (fun _ hk => hk.2) (.slice Ao37 t206.length co37)) (fun _ h_ => h_.1))) hb); have n1_ := Aside0.mk (Kd.R_below (by (with_reducible repeat (first | apply Kd.R_alloc | apply Kd.R_drewN | apply Kd.R_drew)); exact (Kd.R_mono (Kd.R_far (p := ⟨gb211, 2, none⟩) (Kd.R_far (p := ⟨gb211, 1, none⟩) (Kd.R_far (p := ⟨gb211, 0, none⟩) (Kd.R_types HO208.out BK211.out (by decide)) (fun _ hk => hk.2) (.string t202)) (fun _ hk => hk.2) (.slice Ao36 t203.length co36)) (fun _ hk => hk.2) (.slice Ao37 t206.length co37)) (fun _ h_ => h_.1))) hb); have n2_ := Aside0.mk (blk_below (g := gb211) (o := .cells #[.string t202, .slice Ao36 t203.length co36, .slice Ao37 t206.length co37] 48 (0, 0)) (by (with_reducible repeat (first | refine blk_drewN ?_ _ | refine blk_drew ?_ | refine blk_alloc ?_ _)); refine blk_put (cs := #[.string t202, .slice Ao36 t203.length co36, .slice none 0 0]) ?_ 2 _ rfl; (with_reducible repeat (first | refine blk_drewN ?_ _ | refine blk_drew ?_ | refine blk_alloc ?_ _)); refine blk_put (cs := #[.string t202, .slice none 0 0, .slice none 0 0]) ?_ 1 _ rfl; (with_reducible repeat (first | refine blk_drewN ?_ _ | refine blk_drew ?_ | refine blk_alloc ?_ _)); refine blk_put (cs := #[.string ⟨#[]⟩, .slice none 0 0, .slice none 0 0]) ?_ 0 _ rfl; (with_reducible repeat (first | refine blk_drewN ?_ _ | refine blk_drew ?_ | refine blk_alloc ?_ _)); exact BK211.out) hb); have n3_ := Aside0.mk (below_step (by repeat (first | (with_reducible first | exact HB.out | apply below_alloc | apply pw_below_drewN | apply below_drew1 | refine below_set ?_ GE211.out) | exact HB.out)) hb); clear HO205; clear HO208; clear BK211; clear HB; have HO205 := n0_; have HO208 := n1_; have BK211 := n2_; have HB := n3_; clear n0_ n1_ n2_ n3_; (try clear hb); (try clear hb2); (try clear hk); (try clear hi); have hcz39_0 : w38.cell? ⟨gb211, 0, none⟩ = some (.string t202) := (blk_cell BK211.out 0).trans rfl; have hcz39_1 : w38.cell? ⟨gb211, 1, none⟩ = some (.slice Ao36 t203.length co36) := (blk_cell BK211.out 1).trans rfl; have hcz39_2 : w38.cell? ⟨gb211, 2, none⟩ = some (.slice Ao37 t206.length co37) := (blk_cell BK211.out 2).trans rfl; have hfz39_0 := blk_frozen BK211.out 0; have hfz39_1 := blk_frozen BK211.out 1; have hfz39_2 := blk_frozen BK211.out 2; have p213 : 0 ≤ (0 : Int) := (by omega); have q213 : 0 < (t203.length : Int) := of_decide_eq_true (by first | (with_reducible assumption) | assumption); obtain ⟨ad213, e213, hx213_0, hx213_1, hx213_2⟩ := at_T52 (Kd.R_reads' HO205.out).2.2 0 p213 q213; cases e213; have qi213 : (0 < t203.length) = True := eq_true (by omega); (try rw [show ((0 : Int)).toNat = 0 from rfl] at hx213_0); (try rw [show 0 * 3 = 0 from rfl] at hx213_0); (try rw [Addr.add_zero'] at hx213_0); (try rw [show ((0 : Int)).toNat = 0 from rfl] at hx213_1); (try rw [show 0 * 3 = 0 from rfl] at hx213_1); (try rw [Addr.add_zero'] at hx213_1); (try rw [show ((0 : Int)).toNat = 0 from rfl] at hx213_2); (try rw [show 0 * 3 = 0 from rfl] at hx213_2); (try rw [Addr.add_zero'] at hx213_2); replace p213 := eq_true p213; replace q213 := eq_true q213; have p214 : 0 ≤ (0 : Int) := (by omega); have q214 : 0 < (t206.length : Int) := of_decide_eq_true (by first | (with_reducible assumption) | assumption); obtain ⟨ad214, e214, hx214_0, hx214_1, hx214_2, hx214_3, hx214_4⟩ := at_T58 (Kd.R_reads' HO208.out).2.2 0 p214 q214; cases e214; have qi214 : (0 < t206.length) = True := eq_true (by omega); (try rw [show ((0 : Int)).toNat = 0 from rfl] at hx214_0); (try rw [show 0 * 5 = 0 from rfl] at hx214_0); (try rw [Addr.add_zero'] at hx214_0); (try rw [show ((0 : Int)).toNat = 0 from rfl] at hx214_1); (try rw [show 0 * 5 = 0 from rfl] at hx214_1); (try rw [Addr.add_zero'] at hx214_1); (try rw [show ((0 : Int)).toNat = 0 from rfl] at hx214_2); (try rw [show 0 * 5 = 0 from rfl] at hx214_2); (try rw [Addr.add_zero'] at hx214_2); (try rw [show ((0 : Int)).toNat = 0 from rfl] at hx214_3); (try rw [show 0 * 5 = 0 from rfl] at hx214_3); (try rw [Addr.add_zero'] at hx214_3); (try rw [show ((0 : Int)).toNat = 0 from rfl] at hx214_4); (try rw [show 0 * 5 = 0 from rfl] at hx214_4); (try rw [Addr.add_zero'] at hx214_4); replace p214 := eq_true p214; replace q214 := eq_true q214; have p215 : 0 ≤ (0 : Int) := (by omega); have q215 : 0 < (t206.length : Int) := of_decide_eq_true (by first | (with_reducible assumption) | assumption); obtain ⟨ad215, e215, hx215_0, hx215_1, hx215_2, hx215_3, hx215_4⟩ := at_T58 (Kd.R_reads' HO208.out).2.2 0 p215 q215; obtain rfl : ad214 = ad215 := (by injection e215); have qi215 : (0 < t206.length) = True := eq_true (by omega); (try rw [show ((0 : Int)).toNat = 0 from rfl] at hx215_0); (try rw [show 0 * 5 = 0 from rfl] at hx215_0); (try rw [Addr.add_zero'] at hx215_0); (try rw [show ((0 : Int)).toNat = 0 from rfl] at hx215_1); (try rw [show 0 * 5 = 0 from rfl] at hx215_1); (try rw [Addr.add_zero'] at hx215_1); (try rw [show ((0 : Int)).toNat = 0 from rfl] at hx215_2); (try rw [show 0 * 5 = 0 from rfl] at hx215_2); (try rw [Addr.add_zero'] at hx215_2); (try rw [show ((0 : Int)).toNat = 0 from rfl] at hx215_3); (try rw [show 0 * 5 = 0 from rfl] at hx215_3); (try rw [Addr.add_zero'] at hx215_3); (try rw [show ((0 : Int)).toNat = 0 from rfl] at hx215_4); (try rw [show 0 * 5 = 0 from rfl] at hx215_4); (try rw [Addr.add_zero'] at hx215_4); replace p215 := eq_true p215; replace q215 := eq_true q215; have p216 : 0 ≤ (1 : Int) := (by omega); have q216 : 1 < (t206.length : Int) := of_decide_eq_true (by first | (with_reducible assumption) | assumption); obtain ⟨ad216, e216, hx216_0, hx216_1, hx216_2, hx216_3, hx216_4⟩ := at_T58 (Kd.R_reads' HO208.out).2.2 1 p216 q216; obtain rfl : ad214 = ad216 := (by injection e216); (try simp only [show (1 : Int).toNat = 1 from rfl, Nat.reduceMul, Nat.reduceEqDiff, Go.Addr.add, ↓reduceIte] at hx216_0); (try simp only [show (1 : Int).toNat = 1 from rfl, Nat.reduceMul, Nat.reduceEqDiff, Go.Addr.add, ↓reduceIte] at hx216_1); (try simp only [show (1 : Int).toNat = 1 from rfl, Nat.reduceMul, Nat.reduceEqDiff, Go.Addr.add, ↓reduceIte] at hx216_2); (try simp only [show (1 : Int).toNat = 1 from rfl, Nat.reduceMul, Nat.reduceEqDiff, Go.Addr.add, ↓reduceIte] at hx216_3); (try simp only [show (1 : Int).toNat = 1 from rfl, Nat.reduceMul, Nat.reduceEqDiff, Go.Addr.add, ↓reduceIte] at hx216_4); have qi216 : (1 < t206.length) = True := eq_true (by omega); (try rw [show ((1 : Int)).toNat = 1 from rfl] at hx216_0); (try rw [show 1 * 5 = 5 from rfl] at hx216_0); (try rw [show ((1 : Int)).toNat = 1 from rfl] at hx216_1); (try rw [show 1 * 5 = 5 from rfl] at hx216_1); (try rw [show ((1 : Int)).toNat = 1 from rfl] at hx216_2); (try rw [show 1 * 5 = 5 from rfl] at hx216_2); (try rw [show ((1 : Int)).toNat = 1 from rfl] at hx216_3); (try rw [show 1 * 5 = 5 from rfl] at hx216_3); (try rw [show ((1 : Int)).toNat = 1 from rfl] at hx216_4); (try rw [show 1 * 5 = 5 from rfl] at hx216_4); replace p216 := eq_true p216; replace q216 := eq_true q216))
                       go_ret
                       exact ⟨by first | rfl | (simp [errW_none, errW_some] <;> rfl) | (simp [*, errW_none, errW_some] <;> rfl), by repeat (first | (with_reducible first | exact HB.out | apply below_alloc | apply pw_below_drewN | apply below_drew1 | refine below_set ?_ GE211.out) | exact HB.out)⟩
                      ·rw [if_neg c32] at H
                       exact absurd H (by simp)
                     ·rw [if_neg c31] at H
                      have c31b0 := beq_eq_false_iff_ne.mpr c31
                      have c31b1 := bne_iff_ne.mpr c31
                      exact absurd ((Option.some.inj H).trans hTrue.out) (by decide)
                    ·rw [if_neg c30] at H
                     have c30b0 := beq_eq_false_iff_ne.mpr c30
                     have c30b1 := bne_iff_ne.mpr c30
                     exact absurd ((Option.some.inj H).trans hTrue.out) (by decide)
                   ·rw [if_neg c29] at H
                    exact absurd H (by simp)
                  ·rw [if_neg c28] at H
                   have c28b0 := beq_eq_false_iff_ne.mpr c28
                   have c28b1 := bne_iff_ne.mpr c28
                   exact absurd ((Option.some.inj H).trans hTrue.out) (by decide)
                 ·rw [if_neg c27] at H
                  have c27b0 := beq_eq_false_iff_ne.mpr c27
                  have c27b1 := bne_iff_ne.mpr c27
                  exact absurd ((Option.some.inj H).trans hTrue.out) (by decide)
                ·rw [if_neg c26] at H
                 exact absurd H (by simp)
               ·rw [if_neg c25] at H
                have c25b0 := beq_eq_false_iff_ne.mpr c25
                have c25b1 := bne_iff_ne.mpr c25
                exact absurd ((Option.some.inj H).trans hTrue.out) (by decide)
              ·rw [if_neg c24] at H
               have c24b0 := beq_eq_false_iff_ne.mpr c24
               have c24b1 := bne_iff_ne.mpr c24
               have c24e : ((((((((((⟨#[60, 33, 68, 79, 67, 84, 89, 80, 69, 32, 114, 32, 91, 60, 33, 69, 78, 84, 73, 84, 89, 32, 101, 32, 39]⟩ : ByteArray) ++ a0) ++ (⟨#[39, 62, 60, 33, 69, 78, 84, 73, 84, 89, 32, 101, 32, 39]⟩ : ByteArray)) ++ a1) ++ (⟨#[39, 62, 60, 33, 65, 84, 84, 76, 73, 83, 84, 32, 114, 32, 120, 32, 67, 68, 65, 84, 65, 32, 39]⟩ : ByteArray)) ++ a0) ++ (⟨#[39, 62, 60, 33, 65, 84, 84, 76, 73, 83, 84, 32, 114, 32, 121, 32, 67, 68, 65, 84, 65, 32, 39, 113, 39, 32, 120, 32, 73, 68, 32, 39]⟩ : ByteArray)) ++ a1) ++ (⟨#[39, 62, 93, 62]⟩ : ByteArray)).size : Int) = 25 + ((a0).size : Int) + 14 + ((a1).size : Int) + 23 + ((a0).size : Int) + 32 + ((a1).size : Int) + 4 := by simp only [ByteArray.size_append, Int.natCast_add]; rfl
               have c24b2 : (t209 == (25 + ((a0).size : Int) + 14 + ((a1).size : Int) + 23 + ((a0).size : Int) + 32 + ((a1).size : Int) + 4)) = false := by rw [← c24e]; exact c24b0
               have c24b3 : (t209 != (25 + ((a0).size : Int) + 14 + ((a1).size : Int) + 23 + ((a0).size : Int) + 32 + ((a1).size : Int) + 4)) = true := by rw [← c24e]; exact c24b1
               have c24b4 : (t209 = (25 + ((a0).size : Int) + 14 + ((a1).size : Int) + 23 + ((a0).size : Int) + 32 + ((a1).size : Int) + 4)) = False := eq_false (beq_eq_false_iff_ne.mp c24b2)
               exact absurd ((Option.some.inj H).trans hTrue.out) (by decide)
             ·rw [if_neg c23] at H
              have c23b0 := beq_eq_false_iff_ne.mpr c23
              have c23b1 := bne_iff_ne.mpr c23
              exact absurd ((Option.some.inj H).trans hTrue.out) (by decide)
            ·replace c22 := Bool.eq_false_iff.mpr c22
             subst c22
             rw [if_neg (show ¬ (false = true) by decide)] at H
             try dsimp only at H
             exact absurd ((Option.some.inj H).trans hTrue.out) (by decide)
           ·rw [if_neg c19] at H
            exact absurd H (by simp)
          ·rw [if_neg c18] at H
           exact absurd H (by simp)
         ·rw [if_neg c17] at H
          exact absurd H (by simp)
        ·rw [if_neg c16] at H
         exact absurd H (by simp)
       ·rw [if_neg c15] at H
        exact absurd H (by simp)
      ·rw [if_neg c14] at H
       exact absurd H (by simp)
     ·rw [if_neg c13] at H
      exact absurd H (by simp)
    ·rw [if_neg c12] at H
     exact absurd H (by simp)

/-- THE ONE PURE STATEMENT of brackenlaw11_DeclFirst: yours. -/
def brackenlaw11_DeclFirst.Pure : Prop := ∀ (a0 : ByteArray) (a1 : ByteArray), a0.size ≤ 140737488351232 → a1.size ≤ 140737488351232 → ∃ k, brackenlaw11_DeclFirst.f k a0 a1 = some true
theorem brackenlaw11_DeclFirst.walk (P : brackenlaw11_DeclFirst.Pure) (a0 : ByteArray) (a1 : ByteArray) (w : World) (hE : Env w) (w0 : a0.size ≤ 140737488351232) (w1 : a1.size ≤ 140737488351232) :
  Calls Tryd.prog 10 #[.string a0, .string a1] w fun e w' => e = .returned (.bool true) ∧ Below w.heap.size w w' := by
 obtain ⟨k, h⟩ := P a0 a1 w0 w1
 refine (brackenlaw11_DeclFirst.calls k a0 a1 true w hE hidTrue h).mono ?_
 rintro e w' ⟨rfl, hd⟩
 exact ⟨rfl, hd⟩

end Go.Proofs.YtmjdjpelhhibgaaDoor.R3
