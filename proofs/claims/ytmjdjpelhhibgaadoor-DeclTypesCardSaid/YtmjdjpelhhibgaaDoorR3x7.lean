-- written by wip/gen.py (this session's own driver of the kit's printer); Lean checks it
import Derived.Test.YtmjdjpelhhibgaaDoorR3x0
import Derived.Test.YtmjdjpelhhibgaaDoorKDecl
import Derived.Test.YtmjdjpelhhibgaaDoorR3x3
namespace Go.Proofs.YtmjdjpelhhibgaaDoor.R3
open Go.Proofs.YtmjdjpelhhibgaaDoor.Giv
open Go.RowKit Go.Proofs.YtmjdjpelhhibgaaDoorW.PrintWords Go.Proofs.YtmjdjpelhhibgaaDoorW.PrintLast Go.Proofs.YtmjdjpelhhibgaaDoorW.PrintMore
attribute [local go_sem] max2_int min2_int max_two min_two max_three min_three max_four min_four   -- for this text's walks alone
set_option linter.unusedVariables false
set_option linter.unusedSimpArgs false

/-! ### brackenlaw11_DeclTypes: function 13 -/
def brackenlaw11_DeclTypes.j0 : Nat → Int → Int → Int → Bool → ByteArray → List (S52) → List (S58) → Option (Bool)
 | 0, _, _, _, _, _, _, _ => none
 | k + 1, x0, x1, x9, x10, x275000, x275001, x275002 => if ((x9 == 0) != x10) = true then (some false) else (if x10 = true then (if (Int.tmod (IntKind.u64.wrap (x0)) 15) = 0 then ((brackenlaw11_told.f).bind fun t275 => (if t275 = true then (if (x275002.length : Int) = 1 then (if 0 < (x275002.length : Int) then (if ((rd_T58 x275002 0).f2) = 1 then (if (((rd_T58 x275002 0).f3) == (decide ((Int.tmod (IntKind.u64.wrap (x1)) 8) > 1))) = true then (some ((((rd_T58 x275002 0).f4).toList == ([118] : List UInt8)) == (decide ((Int.tmod (IntKind.u64.wrap (x1)) 8) > 1)))) else (some false)) else (some false)) else (none)) else (some false)) else (some false))) else ((brackenlaw11_told.f).bind fun t279 => (if t279 = true then (if (x275002.length : Int) = 1 then (if 0 < (x275002.length : Int) then (if ((rd_T58 x275002 0).f2) = 2 then (if (((rd_T58 x275002 0).f3) == (decide ((Int.tmod (IntKind.u64.wrap (x1)) 8) > 1))) = true then (some ((((rd_T58 x275002 0).f4).toList == ([118] : List UInt8)) == (decide ((Int.tmod (IntKind.u64.wrap (x1)) 8) > 1)))) else (some false)) else (some false)) else (none)) else (some false)) else (some false)))) else ((brackenlaw11_told.f).bind fun t283 => (if t283 = true then (if x9 = 2 then (some ((x275002.length : Int) == 0)) else (some false)) else (some false))))
def brackenlaw11_DeclTypes.f (k : Nat) (a0 : Int) (a1 : Int) : Option (Bool) := (some (([(⟨#[67, 68, 65, 84, 65]⟩ : ByteArray), (⟨#[73, 68]⟩ : ByteArray), (⟨#[73, 68, 82, 69, 70]⟩ : ByteArray), (⟨#[73, 68, 82, 69, 70, 83]⟩ : ByteArray), (⟨#[69, 78, 84, 73, 84, 89]⟩ : ByteArray), (⟨#[69, 78, 84, 73, 84, 73, 69, 83]⟩ : ByteArray), (⟨#[78, 77, 84, 79, 75, 69, 78]⟩ : ByteArray), (⟨#[78, 77, 84, 79, 75, 69, 78, 83]⟩ : ByteArray), (⟨#[40, 97, 124, 98, 41]⟩ : ByteArray), (⟨#[40, 32, 97, 32, 124, 32, 49, 32, 41]⟩ : ByteArray), (⟨#[78, 79, 84, 65, 84, 73, 79, 78, 32, 40, 110, 41]⟩ : ByteArray), (⟨#[78, 79, 84, 65, 84, 73, 79, 78, 40, 110, 41]⟩ : ByteArray), (⟨#[40, 41]⟩ : ByteArray), (⟨#[99, 100, 97, 116, 97]⟩ : ByteArray), (⟨#[40, 97, 32, 98, 41]⟩ : ByteArray)] : List ByteArray) : List ByteArray)).bind fun y257 => (if 0 ≤ (Int.tmod (IntKind.u64.wrap (a0)) 15) then (if (Int.tmod (IntKind.u64.wrap (a0)) 15) < (y257.length : Int) then ((some (([(⟨#[35, 82, 69, 81, 85, 73, 82, 69, 68]⟩ : ByteArray), (⟨#[35, 73, 77, 80, 76, 73, 69, 68]⟩ : ByteArray), (⟨#[39, 118, 39]⟩ : ByteArray), (⟨#[35, 70, 73, 88, 69, 68, 32, 34, 118, 34]⟩ : ByteArray), (⟨#[35, 70, 73, 88, 69, 68, 39, 118, 39]⟩ : ByteArray), (⟨#[118]⟩ : ByteArray), (⟨#[39, 60, 39]⟩ : ByteArray), (⟨#[35, 68, 69, 70, 65, 85, 76, 84]⟩ : ByteArray)] : List ByteArray) : List ByteArray)).bind fun y261 => (if 0 ≤ (Int.tmod (IntKind.u64.wrap (a1)) 8) then (if (Int.tmod (IntKind.u64.wrap (a1)) 8) < (y261.length : Int) then (if 27 + (rdOf ByteArray.empty y257 (Int.tmod (IntKind.u64.wrap (a0)) 15)).size ≤ 9223372036854775807 then (if 27 + (rdOf ByteArray.empty y257 (Int.tmod (IntKind.u64.wrap (a0)) 15)).size + 1 ≤ 9223372036854775807 then (if 27 + (rdOf ByteArray.empty y257 (Int.tmod (IntKind.u64.wrap (a0)) 15)).size + 1 + (rdOf ByteArray.empty y261 (Int.tmod (IntKind.u64.wrap (a1)) 8)).size ≤ 9223372036854775807 then (if 27 + (rdOf ByteArray.empty y257 (Int.tmod (IntKind.u64.wrap (a0)) 15)).size + 1 + (rdOf ByteArray.empty y261 (Int.tmod (IntKind.u64.wrap (a1)) 8)).size + 3 ≤ 9223372036854775807 then ((decl_Doctype.f (((((⟨#[60, 33, 68, 79, 67, 84, 89, 80, 69, 32, 97, 32, 91, 60, 33, 65, 84, 84, 76, 73, 83, 84, 32, 97, 32, 98, 32]⟩ : ByteArray) ++ (rdOf ByteArray.empty y257 (Int.tmod (IntKind.u64.wrap (a0)) 15))) ++ (⟨#[32]⟩ : ByteArray)) ++ (rdOf ByteArray.empty y261 (Int.tmod (IntKind.u64.wrap (a1)) 8))) ++ (⟨#[62, 93, 62]⟩ : ByteArray)) 0).bind fun bt265 => (if (Int.tmod (IntKind.u64.wrap (a0)) 15) < 11 then (brackenlaw11_DeclTypes.j0 k a0 a1 bt265.2.2.2.2 (decide ((Int.tmod (IntKind.u64.wrap (a1)) 8) < 4)) bt265.1 bt265.2.1 bt265.2.2.1) else (brackenlaw11_DeclTypes.j0 k a0 a1 bt265.2.2.2.2 false bt265.1 bt265.2.1 bt265.2.2.1))) else (none)) else (none)) else (none)) else (none)) else (none)) else (none))) else (none)) else (none))
theorem brackenlaw11_DeclTypes.mono_l : ∀ k, (∀ y0 y1 y2 y3 y4 y5 y6, LeO (brackenlaw11_DeclTypes.j0 k y0 y1 y2 y3 y4 y5 y6) (brackenlaw11_DeclTypes.j0 (k + 1) y0 y1 y2 y3 y4 y5 y6))
 | 0 => fun _ _ _ _ _ _ _ r h => by simp [brackenlaw11_DeclTypes.j0] at h
 | k + 1 => by
  have ih0 := brackenlaw11_DeclTypes.mono_l k
  ·intro y0 y1 y2 y3 y4 y5 y6
   unfold brackenlaw11_DeclTypes.j0
   repeat' first
   | (with_reducible exact ih0 _ _ _ _ _ _ _)
   | (with_reducible exact LeO.refl _)
   | (with_reducible exact LeO.none _)
   | (with_reducible refine LeO.ite ?_ ?_)
   | (with_reducible refine LeO.bind ?_ (fun _ => ?_))
   | exact ih0 _ _ _ _ _ _ _
   | exact LeO.none _
   | refine LeO.ite ?_ ?_
   | refine LeO.bind ?_ (fun _ => ?_)
theorem brackenlaw11_DeclTypes.mono : ∀ a0 a1 k, LeO (brackenlaw11_DeclTypes.f k a0 a1) (brackenlaw11_DeclTypes.f (k + 1) a0 a1) := by
 intro a0 a1 k
 have ih0 := brackenlaw11_DeclTypes.mono_l k
 unfold brackenlaw11_DeclTypes.f
 repeat' first
   | (with_reducible exact ih0 _ _ _ _ _ _ _)
   | (with_reducible exact LeO.refl _)
   | (with_reducible exact LeO.none _)
   | (with_reducible refine LeO.ite ?_ ?_)
   | (with_reducible refine LeO.bind ?_ (fun _ => ?_))
   | exact ih0 _ _ _ _ _ _ _
   | exact LeO.none _
   | refine LeO.ite ?_ ?_
   | refine LeO.bind ?_ (fun _ => ?_)
set_option maxHeartbeats 8000000 in
set_option maxRecDepth 100000 in
theorem brackenlaw11_DeclTypes.calls (k : Nat) (a0 : Int) (a1 : Int) (r : Bool) (w : World) (hE : Env w) (hTrue : Hid (r = true)) (h : brackenlaw11_DeclTypes.f k a0 a1 = some r) :
  Calls Tryd.prog 13 #[.int .i64 a0, .int .i64 a1] w fun e w' => e = .returned (.bool r) ∧ Below w.heap.size w w' := by
 have hu48 := Tryd.underlying48
 have HE := Aside0.mk hE
 clear hE
 have HB := Aside0.mk (Below.refl w.heap.size w)
 have H : ((some (([(⟨#[67, 68, 65, 84, 65]⟩ : ByteArray), (⟨#[73, 68]⟩ : ByteArray), (⟨#[73, 68, 82, 69, 70]⟩ : ByteArray), (⟨#[73, 68, 82, 69, 70, 83]⟩ : ByteArray), (⟨#[69, 78, 84, 73, 84, 89]⟩ : ByteArray), (⟨#[69, 78, 84, 73, 84, 73, 69, 83]⟩ : ByteArray), (⟨#[78, 77, 84, 79, 75, 69, 78]⟩ : ByteArray), (⟨#[78, 77, 84, 79, 75, 69, 78, 83]⟩ : ByteArray), (⟨#[40, 97, 124, 98, 41]⟩ : ByteArray), (⟨#[40, 32, 97, 32, 124, 32, 49, 32, 41]⟩ : ByteArray), (⟨#[78, 79, 84, 65, 84, 73, 79, 78, 32, 40, 110, 41]⟩ : ByteArray), (⟨#[78, 79, 84, 65, 84, 73, 79, 78, 40, 110, 41]⟩ : ByteArray), (⟨#[40, 41]⟩ : ByteArray), (⟨#[99, 100, 97, 116, 97]⟩ : ByteArray), (⟨#[40, 97, 32, 98, 41]⟩ : ByteArray)] : List ByteArray) : List ByteArray)).bind fun y257 => (if 0 ≤ (Int.tmod (IntKind.u64.wrap (a0)) 15) then (if (Int.tmod (IntKind.u64.wrap (a0)) 15) < (y257.length : Int) then ((some (([(⟨#[35, 82, 69, 81, 85, 73, 82, 69, 68]⟩ : ByteArray), (⟨#[35, 73, 77, 80, 76, 73, 69, 68]⟩ : ByteArray), (⟨#[39, 118, 39]⟩ : ByteArray), (⟨#[35, 70, 73, 88, 69, 68, 32, 34, 118, 34]⟩ : ByteArray), (⟨#[35, 70, 73, 88, 69, 68, 39, 118, 39]⟩ : ByteArray), (⟨#[118]⟩ : ByteArray), (⟨#[39, 60, 39]⟩ : ByteArray), (⟨#[35, 68, 69, 70, 65, 85, 76, 84]⟩ : ByteArray)] : List ByteArray) : List ByteArray)).bind fun y261 => (if 0 ≤ (Int.tmod (IntKind.u64.wrap (a1)) 8) then (if (Int.tmod (IntKind.u64.wrap (a1)) 8) < (y261.length : Int) then (if 27 + (rdOf ByteArray.empty y257 (Int.tmod (IntKind.u64.wrap (a0)) 15)).size ≤ 9223372036854775807 then (if 27 + (rdOf ByteArray.empty y257 (Int.tmod (IntKind.u64.wrap (a0)) 15)).size + 1 ≤ 9223372036854775807 then (if 27 + (rdOf ByteArray.empty y257 (Int.tmod (IntKind.u64.wrap (a0)) 15)).size + 1 + (rdOf ByteArray.empty y261 (Int.tmod (IntKind.u64.wrap (a1)) 8)).size ≤ 9223372036854775807 then (if 27 + (rdOf ByteArray.empty y257 (Int.tmod (IntKind.u64.wrap (a0)) 15)).size + 1 + (rdOf ByteArray.empty y261 (Int.tmod (IntKind.u64.wrap (a1)) 8)).size + 3 ≤ 9223372036854775807 then ((decl_Doctype.f (((((⟨#[60, 33, 68, 79, 67, 84, 89, 80, 69, 32, 97, 32, 91, 60, 33, 65, 84, 84, 76, 73, 83, 84, 32, 97, 32, 98, 32]⟩ : ByteArray) ++ (rdOf ByteArray.empty y257 (Int.tmod (IntKind.u64.wrap (a0)) 15))) ++ (⟨#[32]⟩ : ByteArray)) ++ (rdOf ByteArray.empty y261 (Int.tmod (IntKind.u64.wrap (a1)) 8))) ++ (⟨#[62, 93, 62]⟩ : ByteArray)) 0).bind fun bt265 => (if (Int.tmod (IntKind.u64.wrap (a0)) 15) < 11 then (brackenlaw11_DeclTypes.j0 k a0 a1 bt265.2.2.2.2 (decide ((Int.tmod (IntKind.u64.wrap (a1)) 8) < 4)) bt265.1 bt265.2.1 bt265.2.2.1) else (brackenlaw11_DeclTypes.j0 k a0 a1 bt265.2.2.2.2 false bt265.1 bt265.2.1 bt265.2.2.1))) else (none)) else (none)) else (none)) else (none)) else (none)) else (none))) else (none)) else (none))) = some r := h
 clear h
 obtain ⟨y257, hy257⟩ : ∃ y_ : List ByteArray, y_ = (([(⟨#[67, 68, 65, 84, 65]⟩ : ByteArray), (⟨#[73, 68]⟩ : ByteArray), (⟨#[73, 68, 82, 69, 70]⟩ : ByteArray), (⟨#[73, 68, 82, 69, 70, 83]⟩ : ByteArray), (⟨#[69, 78, 84, 73, 84, 89]⟩ : ByteArray), (⟨#[69, 78, 84, 73, 84, 73, 69, 83]⟩ : ByteArray), (⟨#[78, 77, 84, 79, 75, 69, 78]⟩ : ByteArray), (⟨#[78, 77, 84, 79, 75, 69, 78, 83]⟩ : ByteArray), (⟨#[40, 97, 124, 98, 41]⟩ : ByteArray), (⟨#[40, 32, 97, 32, 124, 32, 49, 32, 41]⟩ : ByteArray), (⟨#[78, 79, 84, 65, 84, 73, 79, 78, 32, 40, 110, 41]⟩ : ByteArray), (⟨#[78, 79, 84, 65, 84, 73, 79, 78, 40, 110, 41]⟩ : ByteArray), (⟨#[40, 41]⟩ : ByteArray), (⟨#[99, 100, 97, 116, 97]⟩ : ByteArray), (⟨#[40, 97, 32, 98, 41]⟩ : ByteArray)] : List ByteArray)) := ⟨_, rfl⟩
 replace H : (if 0 ≤ (Int.tmod (IntKind.u64.wrap (a0)) 15) then (if (Int.tmod (IntKind.u64.wrap (a0)) 15) < (y257.length : Int) then ((some (([(⟨#[35, 82, 69, 81, 85, 73, 82, 69, 68]⟩ : ByteArray), (⟨#[35, 73, 77, 80, 76, 73, 69, 68]⟩ : ByteArray), (⟨#[39, 118, 39]⟩ : ByteArray), (⟨#[35, 70, 73, 88, 69, 68, 32, 34, 118, 34]⟩ : ByteArray), (⟨#[35, 70, 73, 88, 69, 68, 39, 118, 39]⟩ : ByteArray), (⟨#[118]⟩ : ByteArray), (⟨#[39, 60, 39]⟩ : ByteArray), (⟨#[35, 68, 69, 70, 65, 85, 76, 84]⟩ : ByteArray)] : List ByteArray) : List ByteArray)).bind fun y261 => (if 0 ≤ (Int.tmod (IntKind.u64.wrap (a1)) 8) then (if (Int.tmod (IntKind.u64.wrap (a1)) 8) < (y261.length : Int) then (if 27 + (rdOf ByteArray.empty y257 (Int.tmod (IntKind.u64.wrap (a0)) 15)).size ≤ 9223372036854775807 then (if 27 + (rdOf ByteArray.empty y257 (Int.tmod (IntKind.u64.wrap (a0)) 15)).size + 1 ≤ 9223372036854775807 then (if 27 + (rdOf ByteArray.empty y257 (Int.tmod (IntKind.u64.wrap (a0)) 15)).size + 1 + (rdOf ByteArray.empty y261 (Int.tmod (IntKind.u64.wrap (a1)) 8)).size ≤ 9223372036854775807 then (if 27 + (rdOf ByteArray.empty y257 (Int.tmod (IntKind.u64.wrap (a0)) 15)).size + 1 + (rdOf ByteArray.empty y261 (Int.tmod (IntKind.u64.wrap (a1)) 8)).size + 3 ≤ 9223372036854775807 then ((decl_Doctype.f (((((⟨#[60, 33, 68, 79, 67, 84, 89, 80, 69, 32, 97, 32, 91, 60, 33, 65, 84, 84, 76, 73, 83, 84, 32, 97, 32, 98, 32]⟩ : ByteArray) ++ (rdOf ByteArray.empty y257 (Int.tmod (IntKind.u64.wrap (a0)) 15))) ++ (⟨#[32]⟩ : ByteArray)) ++ (rdOf ByteArray.empty y261 (Int.tmod (IntKind.u64.wrap (a1)) 8))) ++ (⟨#[62, 93, 62]⟩ : ByteArray)) 0).bind fun bt265 => (if (Int.tmod (IntKind.u64.wrap (a0)) 15) < 11 then (brackenlaw11_DeclTypes.j0 k a0 a1 bt265.2.2.2.2 (decide ((Int.tmod (IntKind.u64.wrap (a1)) 8) < 4)) bt265.1 bt265.2.1 bt265.2.2.1) else (brackenlaw11_DeclTypes.j0 k a0 a1 bt265.2.2.2.2 false bt265.1 bt265.2.1 bt265.2.2.1))) else (none)) else (none)) else (none)) else (none)) else (none)) else (none))) else (none)) else (none)) = some r := by first | (rw [hy257]; with_reducible exact H) | (have H2_ := (Option.bind_some _ _).symm.trans H; rw [hy257]; with_reducible exact H2_) | (have H2_ := (Option.bind_some _ _).symm.trans H; with_reducible exact H2_) | with_reducible exact H | (rw [hy257]; exact H) | exact H
 have Ny257 := Aside0.mk hy257
 clear hy257
 obtain ⟨ji3, hji3⟩ : ∃ j_ : Int, (Int.tmod (IntKind.u64.wrap (a0)) 15) = j_ := ⟨_, rfl⟩
 replace H : (if 0 ≤ (ji3) then (if (ji3) < (y257.length : Int) then ((some (([(⟨#[35, 82, 69, 81, 85, 73, 82, 69, 68]⟩ : ByteArray), (⟨#[35, 73, 77, 80, 76, 73, 69, 68]⟩ : ByteArray), (⟨#[39, 118, 39]⟩ : ByteArray), (⟨#[35, 70, 73, 88, 69, 68, 32, 34, 118, 34]⟩ : ByteArray), (⟨#[35, 70, 73, 88, 69, 68, 39, 118, 39]⟩ : ByteArray), (⟨#[118]⟩ : ByteArray), (⟨#[39, 60, 39]⟩ : ByteArray), (⟨#[35, 68, 69, 70, 65, 85, 76, 84]⟩ : ByteArray)] : List ByteArray) : List ByteArray)).bind fun y261 => (if 0 ≤ (Int.tmod (IntKind.u64.wrap (a1)) 8) then (if (Int.tmod (IntKind.u64.wrap (a1)) 8) < (y261.length : Int) then (if 27 + (rdOf ByteArray.empty y257 (ji3)).size ≤ 9223372036854775807 then (if 27 + (rdOf ByteArray.empty y257 (ji3)).size + 1 ≤ 9223372036854775807 then (if 27 + (rdOf ByteArray.empty y257 (ji3)).size + 1 + (rdOf ByteArray.empty y261 (Int.tmod (IntKind.u64.wrap (a1)) 8)).size ≤ 9223372036854775807 then (if 27 + (rdOf ByteArray.empty y257 (ji3)).size + 1 + (rdOf ByteArray.empty y261 (Int.tmod (IntKind.u64.wrap (a1)) 8)).size + 3 ≤ 9223372036854775807 then ((decl_Doctype.f (((((⟨#[60, 33, 68, 79, 67, 84, 89, 80, 69, 32, 97, 32, 91, 60, 33, 65, 84, 84, 76, 73, 83, 84, 32, 97, 32, 98, 32]⟩ : ByteArray) ++ (rdOf ByteArray.empty y257 (ji3))) ++ (⟨#[32]⟩ : ByteArray)) ++ (rdOf ByteArray.empty y261 (Int.tmod (IntKind.u64.wrap (a1)) 8))) ++ (⟨#[62, 93, 62]⟩ : ByteArray)) 0).bind fun bt265 => (if (ji3) < 11 then (brackenlaw11_DeclTypes.j0 k a0 a1 bt265.2.2.2.2 (decide ((Int.tmod (IntKind.u64.wrap (a1)) 8) < 4)) bt265.1 bt265.2.1 bt265.2.2.1) else (brackenlaw11_DeclTypes.j0 k a0 a1 bt265.2.2.2.2 false bt265.1 bt265.2.1 bt265.2.2.1))) else (none)) else (none)) else (none)) else (none)) else (none)) else (none))) else (none)) else (none)) = some r := by first | (rw [hji3] at H; exact H) | (simp only [hji3] at H ⊢; exact H)
 by_cases c4 : 0 ≤ (ji3)
 ·rw [if_pos c4] at H
  have c4b0 := decide_eq_true c4
  clear c4
  by_cases c5 : (ji3) < (y257.length : Int)
  ·rw [if_pos c5] at H
   have c5b0 := decide_eq_true c5
   clear c5
   obtain ⟨y261, hy261⟩ : ∃ y_ : List ByteArray, y_ = (([(⟨#[35, 82, 69, 81, 85, 73, 82, 69, 68]⟩ : ByteArray), (⟨#[35, 73, 77, 80, 76, 73, 69, 68]⟩ : ByteArray), (⟨#[39, 118, 39]⟩ : ByteArray), (⟨#[35, 70, 73, 88, 69, 68, 32, 34, 118, 34]⟩ : ByteArray), (⟨#[35, 70, 73, 88, 69, 68, 39, 118, 39]⟩ : ByteArray), (⟨#[118]⟩ : ByteArray), (⟨#[39, 60, 39]⟩ : ByteArray), (⟨#[35, 68, 69, 70, 65, 85, 76, 84]⟩ : ByteArray)] : List ByteArray)) := ⟨_, rfl⟩
   replace H : (if 0 ≤ (Int.tmod (IntKind.u64.wrap (a1)) 8) then (if (Int.tmod (IntKind.u64.wrap (a1)) 8) < (y261.length : Int) then (if 27 + (rdOf ByteArray.empty y257 (ji3)).size ≤ 9223372036854775807 then (if 27 + (rdOf ByteArray.empty y257 (ji3)).size + 1 ≤ 9223372036854775807 then (if 27 + (rdOf ByteArray.empty y257 (ji3)).size + 1 + (rdOf ByteArray.empty y261 (Int.tmod (IntKind.u64.wrap (a1)) 8)).size ≤ 9223372036854775807 then (if 27 + (rdOf ByteArray.empty y257 (ji3)).size + 1 + (rdOf ByteArray.empty y261 (Int.tmod (IntKind.u64.wrap (a1)) 8)).size + 3 ≤ 9223372036854775807 then ((decl_Doctype.f (((((⟨#[60, 33, 68, 79, 67, 84, 89, 80, 69, 32, 97, 32, 91, 60, 33, 65, 84, 84, 76, 73, 83, 84, 32, 97, 32, 98, 32]⟩ : ByteArray) ++ (rdOf ByteArray.empty y257 (ji3))) ++ (⟨#[32]⟩ : ByteArray)) ++ (rdOf ByteArray.empty y261 (Int.tmod (IntKind.u64.wrap (a1)) 8))) ++ (⟨#[62, 93, 62]⟩ : ByteArray)) 0).bind fun bt265 => (if (ji3) < 11 then (brackenlaw11_DeclTypes.j0 k a0 a1 bt265.2.2.2.2 (decide ((Int.tmod (IntKind.u64.wrap (a1)) 8) < 4)) bt265.1 bt265.2.1 bt265.2.2.1) else (brackenlaw11_DeclTypes.j0 k a0 a1 bt265.2.2.2.2 false bt265.1 bt265.2.1 bt265.2.2.1))) else (none)) else (none)) else (none)) else (none)) else (none)) else (none)) = some r := by first | (rw [hy261]; with_reducible exact H) | (have H2_ := (Option.bind_some _ _).symm.trans H; rw [hy261]; with_reducible exact H2_) | (have H2_ := (Option.bind_some _ _).symm.trans H; with_reducible exact H2_) | with_reducible exact H | (rw [hy261]; exact H) | exact H
   have Ny261 := Aside0.mk hy261
   clear hy261
   obtain ⟨ji6, hji6⟩ : ∃ j_ : Int, (Int.tmod (IntKind.u64.wrap (a1)) 8) = j_ := ⟨_, rfl⟩
   replace H : (if 0 ≤ (ji6) then (if (ji6) < (y261.length : Int) then (if 27 + (rdOf ByteArray.empty y257 (ji3)).size ≤ 9223372036854775807 then (if 27 + (rdOf ByteArray.empty y257 (ji3)).size + 1 ≤ 9223372036854775807 then (if 27 + (rdOf ByteArray.empty y257 (ji3)).size + 1 + (rdOf ByteArray.empty y261 (ji6)).size ≤ 9223372036854775807 then (if 27 + (rdOf ByteArray.empty y257 (ji3)).size + 1 + (rdOf ByteArray.empty y261 (ji6)).size + 3 ≤ 9223372036854775807 then ((decl_Doctype.f (((((⟨#[60, 33, 68, 79, 67, 84, 89, 80, 69, 32, 97, 32, 91, 60, 33, 65, 84, 84, 76, 73, 83, 84, 32, 97, 32, 98, 32]⟩ : ByteArray) ++ (rdOf ByteArray.empty y257 (ji3))) ++ (⟨#[32]⟩ : ByteArray)) ++ (rdOf ByteArray.empty y261 (ji6))) ++ (⟨#[62, 93, 62]⟩ : ByteArray)) 0).bind fun bt265 => (if (ji3) < 11 then (brackenlaw11_DeclTypes.j0 k a0 a1 bt265.2.2.2.2 (decide ((ji6) < 4)) bt265.1 bt265.2.1 bt265.2.2.1) else (brackenlaw11_DeclTypes.j0 k a0 a1 bt265.2.2.2.2 false bt265.1 bt265.2.1 bt265.2.2.1))) else (none)) else (none)) else (none)) else (none)) else (none)) else (none)) = some r := by first | (rw [hji6] at H; exact H) | (simp only [hji6] at H ⊢; exact H)
   by_cases c7 : 0 ≤ (ji6)
   ·rw [if_pos c7] at H
    have c7b0 := decide_eq_true c7
    clear c7
    by_cases c8 : (ji6) < (y261.length : Int)
    ·rw [if_pos c8] at H
     have c8b0 := decide_eq_true c8
     clear c8
     by_cases c9 : 27 + (rdOf ByteArray.empty y257 (ji3)).size ≤ 9223372036854775807
     ·rw [if_pos c9] at H
      have c9b0 := eq_true c9
      have c9b1 := decide_eq_true c9
      try have c9b2 := eq_false (Nat.not_lt.2 c9)
      by_cases c10 : 27 + (rdOf ByteArray.empty y257 (ji3)).size + 1 ≤ 9223372036854775807
      ·rw [if_pos c10] at H
       have c10b0 := eq_true c10
       have c10b1 := decide_eq_true c10
       try have c10b2 := eq_false (Nat.not_lt.2 c10)
       by_cases c11 : 27 + (rdOf ByteArray.empty y257 (ji3)).size + 1 + (rdOf ByteArray.empty y261 (ji6)).size ≤ 9223372036854775807
       ·rw [if_pos c11] at H
        have c11b0 := eq_true c11
        have c11b1 := decide_eq_true c11
        try have c11b2 := eq_false (Nat.not_lt.2 c11)
        by_cases c12 : 27 + (rdOf ByteArray.empty y257 (ji3)).size + 1 + (rdOf ByteArray.empty y261 (ji6)).size + 3 ≤ 9223372036854775807
        ·rw [if_pos c12] at H
         have c12b0 := eq_true c12
         have c12b1 := decide_eq_true c12
         try have c12b2 := eq_false (Nat.not_lt.2 c12)
         replace H := Option.bind_eq_some_iff.mp H
         obtain ⟨⟨t265, t266, t269, t272, t273⟩, A130, H⟩ := H
         try dsimp only at H
         have A13 := Aside0.mk A130
         clear A130
         have HC14 := Aside0.mk H
         clear H
         go_enter Tryd.func13, Tryd.ntmps13
         go_upto_region 4 with (first | ((with_reducible refine gate_dst (N := 13) rfl ?_); (try (refine gate_guard (by rfl) ?_; dsimp only)); refine Kd.R_lit Kd.string _ 9 ?hg (N := 13) ?hd (xs := ([(⟨#[67, 68, 65, 84, 65]⟩ : ByteArray), (⟨#[73, 68]⟩ : ByteArray), (⟨#[73, 68, 82, 69, 70]⟩ : ByteArray), (⟨#[73, 68, 82, 69, 70, 83]⟩ : ByteArray), (⟨#[69, 78, 84, 73, 84, 89]⟩ : ByteArray), (⟨#[69, 78, 84, 73, 84, 73, 69, 83]⟩ : ByteArray), (⟨#[78, 77, 84, 79, 75, 69, 78]⟩ : ByteArray), (⟨#[78, 77, 84, 79, 75, 69, 78, 83]⟩ : ByteArray), (⟨#[40, 97, 124, 98, 41]⟩ : ByteArray), (⟨#[40, 32, 97, 32, 124, 32, 49, 32, 41]⟩ : ByteArray), (⟨#[78, 79, 84, 65, 84, 73, 79, 78, 32, 40, 110, 41]⟩ : ByteArray), (⟨#[78, 79, 84, 65, 84, 73, 79, 78, 40, 110, 41]⟩ : ByteArray), (⟨#[40, 41]⟩ : ByteArray), (⟨#[99, 100, 97, 116, 97]⟩ : ByteArray), (⟨#[40, 97, 32, 98, 41]⟩ : ByteArray)] : List ByteArray)) (inner := [.string ⟨#[67, 68, 65, 84, 65]⟩, .string ⟨#[73, 68]⟩, .string ⟨#[73, 68, 82, 69, 70]⟩, .string ⟨#[73, 68, 82, 69, 70, 83]⟩, .string ⟨#[69, 78, 84, 73, 84, 89]⟩, .string ⟨#[69, 78, 84, 73, 84, 73, 69, 83]⟩, .string ⟨#[78, 77, 84, 79, 75, 69, 78]⟩, .string ⟨#[78, 77, 84, 79, 75, 69, 78, 83]⟩, .string ⟨#[40, 97, 124, 98, 41]⟩, .string ⟨#[40, 32, 97, 32, 124, 32, 49, 32, 41]⟩, .string ⟨#[78, 79, 84, 65, 84, 73, 79, 78, 32, 40, 110, 41]⟩, .string ⟨#[78, 79, 84, 65, 84, 73, 79, 78, 40, 110, 41]⟩, .string ⟨#[40, 41]⟩, .string ⟨#[99, 100, 97, 116, 97]⟩, .string ⟨#[40, 97, 32, 98, 41]⟩]) (ok := fun _ => True) (okp := fun _ => True) ?hr ?hp (fun _ hk => hk) trivial (Below.refl _ _) (Nat.le_refl _) (by simp) ?_; (case hd => rfl); (case hg => rfl); (case hr => first | (go_simp; done) | (go_simp; rfl)); (case hp => exact (Reps.one (show Kd.M Kd.string _ _ _ (⟨#[67, 68, 65, 84, 65]⟩ : ByteArray) [.string ⟨#[67, 68, 65, 84, 65]⟩] from rfl) (Reps.one (show Kd.M Kd.string _ _ _ (⟨#[73, 68]⟩ : ByteArray) [.string ⟨#[73, 68]⟩] from rfl) (Reps.one (show Kd.M Kd.string _ _ _ (⟨#[73, 68, 82, 69, 70]⟩ : ByteArray) [.string ⟨#[73, 68, 82, 69, 70]⟩] from rfl) (Reps.one (show Kd.M Kd.string _ _ _ (⟨#[73, 68, 82, 69, 70, 83]⟩ : ByteArray) [.string ⟨#[73, 68, 82, 69, 70, 83]⟩] from rfl) (Reps.one (show Kd.M Kd.string _ _ _ (⟨#[69, 78, 84, 73, 84, 89]⟩ : ByteArray) [.string ⟨#[69, 78, 84, 73, 84, 89]⟩] from rfl) (Reps.one (show Kd.M Kd.string _ _ _ (⟨#[69, 78, 84, 73, 84, 73, 69, 83]⟩ : ByteArray) [.string ⟨#[69, 78, 84, 73, 84, 73, 69, 83]⟩] from rfl) (Reps.one (show Kd.M Kd.string _ _ _ (⟨#[78, 77, 84, 79, 75, 69, 78]⟩ : ByteArray) [.string ⟨#[78, 77, 84, 79, 75, 69, 78]⟩] from rfl) (Reps.one (show Kd.M Kd.string _ _ _ (⟨#[78, 77, 84, 79, 75, 69, 78, 83]⟩ : ByteArray) [.string ⟨#[78, 77, 84, 79, 75, 69, 78, 83]⟩] from rfl) (Reps.one (show Kd.M Kd.string _ _ _ (⟨#[40, 97, 124, 98, 41]⟩ : ByteArray) [.string ⟨#[40, 97, 124, 98, 41]⟩] from rfl) (Reps.one (show Kd.M Kd.string _ _ _ (⟨#[40, 32, 97, 32, 124, 32, 49, 32, 41]⟩ : ByteArray) [.string ⟨#[40, 32, 97, 32, 124, 32, 49, 32, 41]⟩] from rfl) (Reps.one (show Kd.M Kd.string _ _ _ (⟨#[78, 79, 84, 65, 84, 73, 79, 78, 32, 40, 110, 41]⟩ : ByteArray) [.string ⟨#[78, 79, 84, 65, 84, 73, 79, 78, 32, 40, 110, 41]⟩] from rfl) (Reps.one (show Kd.M Kd.string _ _ _ (⟨#[78, 79, 84, 65, 84, 73, 79, 78, 40, 110, 41]⟩ : ByteArray) [.string ⟨#[78, 79, 84, 65, 84, 73, 79, 78, 40, 110, 41]⟩] from rfl) (Reps.one (show Kd.M Kd.string _ _ _ (⟨#[40, 41]⟩ : ByteArray) [.string ⟨#[40, 41]⟩] from rfl) (Reps.one (show Kd.M Kd.string _ _ _ (⟨#[99, 100, 97, 116, 97]⟩ : ByteArray) [.string ⟨#[99, 100, 97, 116, 97]⟩] from rfl) (Reps.one (show Kd.M Kd.string _ _ _ (⟨#[40, 97, 32, 98, 41]⟩ : ByteArray) [.string ⟨#[40, 97, 32, 98, 41]⟩] from rfl) (Reps.none _ _))))))))))))))))); intro v258 w15 ho16 hb hg_ hnew_; clear hg_ hnew_; (first | rw [← Ny257.out] at ho16 | (simp only [Int.reduceToNat] at ho16; rw [← Ny257.out] at ho16)); have n0_ := Aside0.mk (Kd.R_lower ho16 (below_size (by repeat (first | (with_reducible first | exact HB.out | apply below_alloc | apply pw_below_drewN | apply below_drew1) | exact HB.out)))); have n1_ := Aside0.mk (below_step (by repeat (first | (with_reducible first | exact HB.out | apply below_alloc | apply pw_below_drewN | apply below_drew1) | exact HB.out)) hb); clear HB; have HO259 := n0_; have HB := n1_; clear n0_ n1_; clear hb ho16; obtain ⟨Ao17, co17, eo17⟩ := Kd.R_slice HO259.out; subst eo17; have p260 : 0 ≤ ((ji3) : Int) := of_decide_eq_true (by first | (with_reducible assumption) | assumption); have q260 : (ji3) < (y257.length : Int) := of_decide_eq_true (by first | (with_reducible assumption) | assumption); obtain ⟨ad260, e260, hx260_0⟩ := Kd.at_string (Kd.R_reads' HO259.out).2.2 (ji3) p260 q260; cases e260; replace p260 := eq_true p260; replace q260 := eq_true q260) | ((with_reducible refine gate_dst (N := 19) rfl ?_); (try (refine gate_guard (by rfl) ?_; dsimp only)); refine Kd.R_lit Kd.string _ 9 ?hg (N := 19) ?hd (xs := ([(⟨#[35, 82, 69, 81, 85, 73, 82, 69, 68]⟩ : ByteArray), (⟨#[35, 73, 77, 80, 76, 73, 69, 68]⟩ : ByteArray), (⟨#[39, 118, 39]⟩ : ByteArray), (⟨#[35, 70, 73, 88, 69, 68, 32, 34, 118, 34]⟩ : ByteArray), (⟨#[35, 70, 73, 88, 69, 68, 39, 118, 39]⟩ : ByteArray), (⟨#[118]⟩ : ByteArray), (⟨#[39, 60, 39]⟩ : ByteArray), (⟨#[35, 68, 69, 70, 65, 85, 76, 84]⟩ : ByteArray)] : List ByteArray)) (inner := [.string ⟨#[35, 82, 69, 81, 85, 73, 82, 69, 68]⟩, .string ⟨#[35, 73, 77, 80, 76, 73, 69, 68]⟩, .string ⟨#[39, 118, 39]⟩, .string ⟨#[35, 70, 73, 88, 69, 68, 32, 34, 118, 34]⟩, .string ⟨#[35, 70, 73, 88, 69, 68, 39, 118, 39]⟩, .string ⟨#[118]⟩, .string ⟨#[39, 60, 39]⟩, .string ⟨#[35, 68, 69, 70, 65, 85, 76, 84]⟩]) (ok := fun _ => True) (okp := fun _ => True) ?hr ?hp (fun _ hk => hk) trivial (Below.refl _ _) (Nat.le_refl _) (by simp) ?_; (case hd => rfl); (case hg => rfl); (case hr => first | (go_simp; done) | (go_simp; rfl)); (case hp => exact (Reps.one (show Kd.M Kd.string _ _ _ (⟨#[35, 82, 69, 81, 85, 73, 82, 69, 68]⟩ : ByteArray) [.string ⟨#[35, 82, 69, 81, 85, 73, 82, 69, 68]⟩] from rfl) (Reps.one (show Kd.M Kd.string _ _ _ (⟨#[35, 73, 77, 80, 76, 73, 69, 68]⟩ : ByteArray) [.string ⟨#[35, 73, 77, 80, 76, 73, 69, 68]⟩] from rfl) (Reps.one (show Kd.M Kd.string _ _ _ (⟨#[39, 118, 39]⟩ : ByteArray) [.string ⟨#[39, 118, 39]⟩] from rfl) (Reps.one (show Kd.M Kd.string _ _ _ (⟨#[35, 70, 73, 88, 69, 68, 32, 34, 118, 34]⟩ : ByteArray) [.string ⟨#[35, 70, 73, 88, 69, 68, 32, 34, 118, 34]⟩] from rfl) (Reps.one (show Kd.M Kd.string _ _ _ (⟨#[35, 70, 73, 88, 69, 68, 39, 118, 39]⟩ : ByteArray) [.string ⟨#[35, 70, 73, 88, 69, 68, 39, 118, 39]⟩] from rfl) (Reps.one (show Kd.M Kd.string _ _ _ (⟨#[118]⟩ : ByteArray) [.string ⟨#[118]⟩] from rfl) (Reps.one (show Kd.M Kd.string _ _ _ (⟨#[39, 60, 39]⟩ : ByteArray) [.string ⟨#[39, 60, 39]⟩] from rfl) (Reps.one (show Kd.M Kd.string _ _ _ (⟨#[35, 68, 69, 70, 65, 85, 76, 84]⟩ : ByteArray) [.string ⟨#[35, 68, 69, 70, 65, 85, 76, 84]⟩] from rfl) (Reps.none _ _)))))))))); intro v262 w18 ho19 hb hg_ hnew_; clear hg_ hnew_; (first | rw [← Ny261.out] at ho19 | (simp only [Int.reduceToNat] at ho19; rw [← Ny261.out] at ho19)); have n0_ := Aside0.mk (Kd.R_elder' (by (with_reducible repeat (first | apply Kd.R_alloc | apply Kd.R_drewN | apply Kd.R_drew)); exact HO259.out) (Kd.R_base ho19) hb); have n1_ := Aside0.mk (Kd.R_lower (Kd.R_new' ho19 (Kd.R_lt (by (with_reducible repeat (first | apply Kd.R_alloc | apply Kd.R_drewN | apply Kd.R_drew)); exact HO259.out))) (below_size (by repeat (first | (with_reducible first | exact HB.out | apply below_alloc | apply pw_below_drewN | apply below_drew1) | exact HB.out)))); have n2_ := Aside0.mk (below_step (by repeat (first | (with_reducible first | exact HB.out | apply below_alloc | apply pw_below_drewN | apply below_drew1) | exact HB.out)) hb); clear HO259; clear HB; have HO259 := n0_; have HO263 := n1_; have HB := n2_; clear n0_ n1_ n2_; clear hb ho19; obtain ⟨Ao20, co20, eo20⟩ := Kd.R_slice HO263.out; subst eo20; have p264 : 0 ≤ ((ji6) : Int) := of_decide_eq_true (by first | (with_reducible assumption) | assumption); have q264 : (ji6) < (y261.length : Int) := of_decide_eq_true (by first | (with_reducible assumption) | assumption); obtain ⟨ad264, e264, hx264_0⟩ := Kd.at_string (Kd.R_reads' HO263.out).2.2 (ji6) p264 q264; cases e264; replace p264 := eq_true p264; replace q264 := eq_true q264) | ((with_reducible refine gate_callee (f := 21) rfl ?_); refine goesL_ (some 32) rfl rfl Tryd.func21 (by kernel_rfl) rfl #[.string (((((⟨#[60, 33, 68, 79, 67, 84, 89, 80, 69, 32, 97, 32, 91, 60, 33, 65, 84, 84, 76, 73, 83, 84, 32, 97, 32, 98, 32]⟩ : ByteArray) ++ (rdOf ByteArray.empty y257 (ji3))) ++ (⟨#[32]⟩ : ByteArray)) ++ (rdOf ByteArray.empty y261 (ji6))) ++ (⟨#[62, 93, 62]⟩ : ByteArray)), .int .i64 0] rfl (by (try simp only [List.map_toArray, List.map_cons, List.map_nil]); first | done | (simp only [hji3, hji6]; rfl) | rfl | (simp only [List.length_drop, List.length_take]; rfl)) ?_; (with_reducible refine (decl_Doctype.calls (((((⟨#[60, 33, 68, 79, 67, 84, 89, 80, 69, 32, 97, 32, 91, 60, 33, 65, 84, 84, 76, 73, 83, 84, 32, 97, 32, 98, 32]⟩ : ByteArray) ++ (rdOf ByteArray.empty y257 (ji3))) ++ (⟨#[32]⟩ : ByteArray)) ++ (rdOf ByteArray.empty y261 (ji6))) ++ (⟨#[62, 93, 62]⟩ : ByteArray)) 0 t265 t266 t269 t272 t273 _ (Env.below HE.out (by repeat (first | (with_reducible first | exact HB.out | apply below_alloc | apply pw_below_drewN | apply below_drew1) | exact HB.out))) A13.out).mono ?_); rintro e w21 ⟨v267, v270, rfl, ho0, ho1, hb⟩; refine ⟨_, rfl, ?_⟩; have n0_ := Aside0.mk (Kd.R_below (by (with_reducible repeat (first | apply Kd.R_alloc | apply Kd.R_drewN | apply Kd.R_drew)); exact HO259.out) hb); have n1_ := Aside0.mk (Kd.R_below (by (with_reducible repeat (first | apply Kd.R_alloc | apply Kd.R_drewN | apply Kd.R_drew)); exact HO263.out) hb); have n2_ := Aside0.mk (Kd.R_lower ho0 (below_size (by repeat (first | (with_reducible first | exact HB.out | apply below_alloc | apply pw_below_drewN | apply below_drew1) | exact HB.out)))); have n3_ := Aside0.mk (Kd.R_lower ho1 (below_size (by repeat (first | (with_reducible first | exact HB.out | apply below_alloc | apply pw_below_drewN | apply below_drew1) | exact HB.out)))); have n4_ := Aside0.mk (below_step (by repeat (first | (with_reducible first | exact HB.out | apply below_alloc | apply pw_below_drewN | apply below_drew1) | exact HB.out)) hb); clear HO259; clear HO263; clear HB; have HO259 := n0_; have HO263 := n1_; have HO268 := n2_; have HO271 := n3_; have HB := n4_; clear n0_ n1_ n2_ n3_ n4_; (try clear hb); (try clear hb2); (try clear hk); (try clear hi); (try clear ho0); (try clear ho1)) | ((with_reducible refine gate_dst (N := 7) rfl ?_); (try (refine gate_guard (by rfl) ?_; dsimp only)); refine box_event ?hg (N := 7) ?hd (cs := #[.string ⟨#[]⟩, .slice none 0 0, .slice none 0 0]) (t := 48) ?hr ?_; (case hd => rfl); (case hg => rfl); (case hr => first | (go_simp; done) | (go_simp; rfl)); intro gb274 hg w22 hbox hb; have n0_ := Aside0.mk (Kd.R_below (by (with_reducible repeat (first | apply Kd.R_alloc | apply Kd.R_drewN | apply Kd.R_drew)); exact HO259.out) hb); have n1_ := Aside0.mk (Kd.R_below (by (with_reducible repeat (first | apply Kd.R_alloc | apply Kd.R_drewN | apply Kd.R_drew)); exact HO263.out) hb); have n2_ := Aside0.mk (Kd.R_below (by (with_reducible repeat (first | apply Kd.R_alloc | apply Kd.R_drewN | apply Kd.R_drew)); exact HO268.out) hb); have n3_ := Aside0.mk (Kd.R_below (by (with_reducible repeat (first | apply Kd.R_alloc | apply Kd.R_drewN | apply Kd.R_drew)); exact HO271.out) hb); have n4_ := Aside0.mk (below_step (by repeat (first | (with_reducible first | exact HB.out | apply below_alloc | apply pw_below_drewN | apply below_drew1) | exact HB.out)) hb); have n5_ := Aside0.mk (hbox); have n6_ := Aside0.mk ((by rw [hg]; exact (below_size (by repeat (first | (with_reducible first | exact HB.out | apply below_alloc | apply pw_below_drewN | apply below_drew1) | exact HB.out))) : w.heap.size ≤ gb274)); have n7_ := Aside0.mk ((by rw [hg]; exact (below_size (by repeat (first | (with_reducible first | exact HB.out | apply below_alloc | apply pw_below_drewN | apply below_drew1) | exact HB.out))) : w.heap.size ≤ gb274)); clear HO259; clear HO263; clear HO268; clear HO271; clear HB; have HO259 := n0_; have HO263 := n1_; have HO268 := n2_; have HO271 := n3_; have HB := n4_; have BK274 := n5_; have GW274 := n6_; have GE274 := n7_; clear n0_ n1_ n2_ n3_ n4_ n5_ n6_ n7_; clear hb hbox hg; have hcz23_0 : w22.cell? ⟨gb274, 0, none⟩ = some (.string ⟨#[]⟩) := (blk_cell BK274.out 0).trans rfl; have hcz23_1 : w22.cell? ⟨gb274, 1, none⟩ = some (.slice none 0 0) := (blk_cell BK274.out 1).trans rfl; have hcz23_2 : w22.cell? ⟨gb274, 2, none⟩ = some (.slice none 0 0) := (blk_cell BK274.out 2).trans rfl; have hfz23_0 := blk_frozen BK274.out 0; have hfz23_1 := blk_frozen BK274.out 1; have hfz23_2 := blk_frozen BK274.out 2; obtain ⟨Ao24, co24, eo24⟩ := Kd.R_slice HO268.out; subst eo24; obtain ⟨Ao25, co25, eo25⟩ := Kd.R_slice HO271.out; subst eo25))
         (try simp only [Act.put, List.setIfInBounds_toArray, List.set_cons_zero, List.set_cons_succ])
         go_cut [10] (fun v10 wc => ∃ (kq : Nat) (x10_13 : Bool), v10 = .bool x10_13 ∧ Aside0 (brackenlaw11_DeclTypes.j0 kq a0 a1 t273 x10_13 t265 t266 t269 = some r) ∧ Aside0 (kq ≤ k) ∧ Aside0 (Kd.R k52 52 wc w.heap.size (fun _ => True) (.slice Ao24 t266.length co24) t266) ∧ Aside0 (Kd.R k58 58 wc w.heap.size (fun _ => True) (.slice Ao25 t269.length co25) t269) ∧ Aside0 (wc.heap[gb274]? = some (.cells #[.string t265, (.slice Ao24 t266.length co24), (.slice Ao25 t269.length co25)] 48 (0, 0))) ∧ Aside0 (Below w.heap.size w wc))
         case first =>
          have H := HC14.out
          clear HC14
          by_cases c26 : (ji3) < 11
          ·rw [if_pos c26] at H
           have c26b0 := decide_eq_true c26
           clear c26
           (first | rw [c26b0] | (simp only [i64_w, i32_w]; rw [c26b0]) | skip)
           have H' := Aside0.mk H
           clear H
           go_wp2
           go_meet
           case rel => exact ⟨_, (decide ((ji6) < 4)), (by first | rfl | (simp; done) | (simp only [← hji6] <;> (first | rfl | simp)) | (simp [*]; done)), H', ⟨by first | omega | exact Nat.le_refl _⟩, ⟨by (with_reducible repeat (first | apply Kd.R_alloc | apply Kd.R_drewN | apply Kd.R_drew)); exact Kd.R_mono (Kd.R_far (p := ⟨gb274, 2, none⟩) (Kd.R_far (p := ⟨gb274, 1, none⟩) (Kd.R_far (p := ⟨gb274, 0, none⟩) (Kd.R_types HO268.out BK274.out (by decide)) (fun _ hk => hk.2) (.string t265)) (fun _ hk => hk.2) (.slice Ao24 t266.length co24)) (fun _ hk => hk.2) (.slice Ao25 t269.length co25)) (fun _ hk => trivial)⟩, ⟨by (with_reducible repeat (first | apply Kd.R_alloc | apply Kd.R_drewN | apply Kd.R_drew)); exact Kd.R_mono (Kd.R_far (p := ⟨gb274, 2, none⟩) (Kd.R_far (p := ⟨gb274, 1, none⟩) (Kd.R_far (p := ⟨gb274, 0, none⟩) (Kd.R_types HO271.out BK274.out (by decide)) (fun _ hk => hk.2) (.string t265)) (fun _ hk => hk.2) (.slice Ao24 t266.length co24)) (fun _ hk => hk.2) (.slice Ao25 t269.length co25)) (fun _ hk => trivial)⟩, ⟨by (with_reducible repeat (first | refine blk_drewN ?_ _ | refine blk_drew ?_ | refine blk_alloc ?_ _)); refine blk_put (cs := #[.string t265, .slice Ao24 t266.length co24, .slice none 0 0]) ?_ 2 _ rfl; (with_reducible repeat (first | refine blk_drewN ?_ _ | refine blk_drew ?_ | refine blk_alloc ?_ _)); refine blk_put (cs := #[.string t265, .slice none 0 0, .slice none 0 0]) ?_ 1 _ rfl; (with_reducible repeat (first | refine blk_drewN ?_ _ | refine blk_drew ?_ | refine blk_alloc ?_ _)); refine blk_put (cs := #[.string ⟨#[]⟩, .slice none 0 0, .slice none 0 0]) ?_ 0 _ rfl; (with_reducible repeat (first | refine blk_drewN ?_ _ | refine blk_drew ?_ | refine blk_alloc ?_ _)); exact BK274.out⟩, ⟨by repeat (first | (with_reducible first | exact HB.out | apply below_alloc | apply pw_below_drewN | apply below_drew1 | refine below_set ?_ GE274.out) | exact HB.out)⟩⟩
          ·rw [if_neg c26] at H
           have c26b0 := decide_eq_false c26
           clear c26
           (first | rw [c26b0] | (simp only [i64_w, i32_w]; rw [c26b0]) | skip)
           have H' := Aside0.mk H
           clear H
           go_wp2
           go_meet
           case rel => exact ⟨_, (false), (by first | rfl | (simp; done) | (simp [*]; done)), H', ⟨by first | omega | exact Nat.le_refl _⟩, ⟨by (with_reducible repeat (first | apply Kd.R_alloc | apply Kd.R_drewN | apply Kd.R_drew)); exact Kd.R_mono (Kd.R_far (p := ⟨gb274, 2, none⟩) (Kd.R_far (p := ⟨gb274, 1, none⟩) (Kd.R_far (p := ⟨gb274, 0, none⟩) (Kd.R_types HO268.out BK274.out (by decide)) (fun _ hk => hk.2) (.string t265)) (fun _ hk => hk.2) (.slice Ao24 t266.length co24)) (fun _ hk => hk.2) (.slice Ao25 t269.length co25)) (fun _ hk => trivial)⟩, ⟨by (with_reducible repeat (first | apply Kd.R_alloc | apply Kd.R_drewN | apply Kd.R_drew)); exact Kd.R_mono (Kd.R_far (p := ⟨gb274, 2, none⟩) (Kd.R_far (p := ⟨gb274, 1, none⟩) (Kd.R_far (p := ⟨gb274, 0, none⟩) (Kd.R_types HO271.out BK274.out (by decide)) (fun _ hk => hk.2) (.string t265)) (fun _ hk => hk.2) (.slice Ao24 t266.length co24)) (fun _ hk => hk.2) (.slice Ao25 t269.length co25)) (fun _ hk => trivial)⟩, ⟨by (with_reducible repeat (first | refine blk_drewN ?_ _ | refine blk_drew ?_ | refine blk_alloc ?_ _)); refine blk_put (cs := #[.string t265, .slice Ao24 t266.length co24, .slice none 0 0]) ?_ 2 _ rfl; (with_reducible repeat (first | refine blk_drewN ?_ _ | refine blk_drew ?_ | refine blk_alloc ?_ _)); refine blk_put (cs := #[.string t265, .slice none 0 0, .slice none 0 0]) ?_ 1 _ rfl; (with_reducible repeat (first | refine blk_drewN ?_ _ | refine blk_drew ?_ | refine blk_alloc ?_ _)); refine blk_put (cs := #[.string ⟨#[]⟩, .slice none 0 0, .slice none 0 0]) ?_ 0 _ rfl; (with_reducible repeat (first | refine blk_drewN ?_ _ | refine blk_drew ?_ | refine blk_alloc ?_ _)); exact BK274.out⟩, ⟨by repeat (first | (with_reducible first | exact HB.out | apply below_alloc | apply pw_below_drewN | apply below_drew1 | refine below_set ?_ GE274.out) | exact HB.out)⟩⟩
         case rest =>
          clear HC14
          try clear c1
          try clear c2
          try clear p2
          try clear q2
          try clear hx2
          try clear c4
          try clear c4b0
          try clear c5
          try clear c5b0
          try clear c7
          try clear c7b0
          try clear c8
          try clear c8b0
          try clear c9
          try clear c9b0
          try clear c9b1
          try clear c9b2
          try clear c10
          try clear c10b0
          try clear c10b1
          try clear c10b2
          try clear c11
          try clear c11b0
          try clear c11b1
          try clear c11b2
          try clear c12
          try clear c12b0
          try clear c12b1
          try clear c12b2
          try clear c13
          try clear c21
          try clear c26
          try clear c26b0
          try clear p26
          try clear q26
          try clear hx26
          try clear hcz23_0
          try clear hcz23_1
          try clear hcz23_2
          try clear hfz23_0
          try clear hfz23_1
          try clear hfz23_2
          try clear hx260_0
          try clear hx264_0
          try clear p260
          try clear p264
          try clear q260
          try clear q264
          obtain ⟨kq, x10_13, rfl, HA, HJ13, HO_275001, HO_275002, BK274, HB⟩ := hcut
          cases kq with
          | zero => exact absurd HA.out (by simp [brackenlaw11_DeclTypes.j0])
          | succ kj13 =>
           have H := HA.out
           clear HA
           simp only [brackenlaw11_DeclTypes.j0] at H
           (try simp only [hji3, hji6] at H)
           by_cases c27 : ((t273 == 0) != x10_13) = true
           ·rw [if_pos c27] at H
            have c27b0 : ((t273 == 0) != x10_13) = true := c27
            (try (have c27b1 : decide ((t273 == 0) = x10_13) = false := by simpa using c27))
            (try (have c27b2 : ((t273 == 0) == x10_13) = false := by simpa using c27))
            (try (have c27b3 : ¬ ((t273 == 0) = x10_13) := by simpa using c27))
            clear c27
            exact absurd ((Option.some.inj H).trans hTrue.out) (by decide)
           ·rw [if_neg c27] at H
            have c27b0 : ((t273 == 0) != x10_13) = false := by simpa using c27
            (try (have c27b1 : decide ((t273 == 0) = x10_13) = true := by simpa using c27))
            (try (have c27b2 : ((t273 == 0) == x10_13) = true := by simpa using c27))
            clear c27
            by_cases c28 : x10_13 = true
            ·subst c28
             have c28z : (t273 == 0) = true := by simpa using c27b2
             rw [if_pos rfl] at H
             try dsimp only at H
             by_cases c29 : (ji3) = 0
             ·rw [if_pos c29] at H
              have c29b0 := beq_iff_eq.mpr c29
              have c29b1 := bne_eq_false_iff_eq.mpr c29
              clear c29
              replace H := Option.bind_eq_some_iff.mp H
              obtain ⟨t275, A300, H⟩ := H
              try dsimp only at H
              have A30 := Aside0.mk A300
              clear A300
              by_cases c31 : t275 = true
              ·subst c31
               rw [if_pos rfl] at H
               try dsimp only at H
               by_cases c32 : (t269.length : Int) = 1
               ·rw [if_pos c32] at H
                have c32b0 := beq_iff_eq.mpr c32
                have c32b1 := bne_eq_false_iff_eq.mpr c32
                clear c32
                by_cases c33 : 0 < (t269.length : Int)
                ·rw [if_pos c33] at H
                 have c33b0 := decide_eq_true c33
                 have c33b1 : decide (0 < t269.length) = true := decide_eq_true (by omega)
                 clear c33
                 by_cases c34 : ((rd_T58 t269 0).f2) = 1
                 ·rw [if_pos c34] at H
                  have c34b0 := beq_iff_eq.mpr c34
                  have c34b1 := bne_eq_false_iff_eq.mpr c34
                  clear c34
                  by_cases c35 : (((rd_T58 t269 0).f3) == (decide ((ji6) > 1))) = true
                  ·rw [if_pos c35] at H
                   have c35b0 : (((rd_T58 t269 0).f3) == (decide ((ji6) > 1))) = true := c35
                   (try (have c35b1 : decide (((rd_T58 t269 0).f3) = (decide ((ji6) > 1))) = true := by simpa using c35))
                   (try (have c35b2 : (((rd_T58 t269 0).f3) == (decide ((ji6) > 1))) = true := by simpa using c35))
                   clear c35
                   obtain rfl := Option.some.inj H
                   go_wp2_with (first | (go_at_call 22; (with_reducible refine (brackenlaw11_told.calls  true _ (Env.below HE.out (by repeat (first | (with_reducible first | exact HB.out | apply below_alloc | apply pw_below_drewN | apply below_drew1 | refine below_set ?_ GE274.out) | exact HB.out))) hidTrue A30.out).mono ?_); rintro e w36 ⟨rfl, hb⟩; have n0_ := Aside0.mk (Kd.R_below (by (with_reducible repeat (first | apply Kd.R_alloc | apply Kd.R_drewN | apply Kd.R_drew)); exact HO_275001.out) hb); have n1_ := Aside0.mk (Kd.R_below (by (with_reducible repeat (first | apply Kd.R_alloc | apply Kd.R_drewN | apply Kd.R_drew)); exact HO_275002.out) hb); have n2_ := Aside0.mk (blk_below (g := gb274) (o := .cells #[.string t265, .slice Ao24 t266.length co24, .slice Ao25 t269.length co25] 48 (0, 0)) (by (with_reducible repeat (first | refine blk_drewN ?_ _ | refine blk_drew ?_ | refine blk_alloc ?_ _)); exact BK274.out) hb); have n3_ := Aside0.mk (below_step (by repeat (first | (with_reducible first | exact HB.out | apply below_alloc | apply pw_below_drewN | apply below_drew1 | refine below_set ?_ GE274.out) | exact HB.out)) hb); clear HO_275001; clear HO_275002; clear BK274; clear HB; have HO_275001 := n0_; have HO_275002 := n1_; have BK274 := n2_; have HB := n3_; clear n0_ n1_ n2_ n3_; (try clear hb); (try clear hb2); (try clear hk); (try clear hi); have hcz37_0 : w36.cell? ⟨gb274, 0, none⟩ = some (.string t265) := (blk_cell BK274.out 0).trans rfl; have hcz37_1 : w36.cell? ⟨gb274, 1, none⟩ = some (.slice Ao24 t266.length co24) := (blk_cell BK274.out 1).trans rfl; have hcz37_2 : w36.cell? ⟨gb274, 2, none⟩ = some (.slice Ao25 t269.length co25) := (blk_cell BK274.out 2).trans rfl; have hfz37_0 := blk_frozen BK274.out 0; have hfz37_1 := blk_frozen BK274.out 1; have hfz37_2 := blk_frozen BK274.out 2; have p276 : 0 ≤ (0 : Int) := (by omega); have q276 : 0 < (t269.length : Int) := of_decide_eq_true (by first | (with_reducible assumption) | assumption); obtain ⟨ad276, e276, hx276_0, hx276_1, hx276_2, hx276_3, hx276_4⟩ := at_T58 (Kd.R_reads' HO_275002.out).2.2 0 p276 q276; cases e276; have qi276 : (0 < t269.length) = True := eq_true (by omega); (try rw [show ((0 : Int)).toNat = 0 from rfl] at hx276_0); (try rw [show 0 * 5 = 0 from rfl] at hx276_0); (try rw [Addr.add_zero'] at hx276_0); (try rw [show ((0 : Int)).toNat = 0 from rfl] at hx276_1); (try rw [show 0 * 5 = 0 from rfl] at hx276_1); (try rw [Addr.add_zero'] at hx276_1); (try rw [show ((0 : Int)).toNat = 0 from rfl] at hx276_2); (try rw [show 0 * 5 = 0 from rfl] at hx276_2); (try rw [Addr.add_zero'] at hx276_2); (try rw [show ((0 : Int)).toNat = 0 from rfl] at hx276_3); (try rw [show 0 * 5 = 0 from rfl] at hx276_3); (try rw [Addr.add_zero'] at hx276_3); (try rw [show ((0 : Int)).toNat = 0 from rfl] at hx276_4); (try rw [show 0 * 5 = 0 from rfl] at hx276_4); (try rw [Addr.add_zero'] at hx276_4); replace p276 := eq_true p276; replace q276 := eq_true q276; have p277 : 0 ≤ (0 : Int) := (by omega); have q277 : 0 < (t269.length : Int) := of_decide_eq_true (by first | (with_reducible assumption) | assumption); obtain ⟨ad277, e277, hx277_0, hx277_1, hx277_2, hx277_3, hx277_4⟩ := at_T58 (Kd.R_reads' HO_275002.out).2.2 0 p277 q277; obtain rfl : ad276 = ad277 := (by injection e277); have qi277 : (0 < t269.length) = True := eq_true (by omega); (try rw [show ((0 : Int)).toNat = 0 from rfl] at hx277_0); (try rw [show 0 * 5 = 0 from rfl] at hx277_0); (try rw [Addr.add_zero'] at hx277_0); (try rw [show ((0 : Int)).toNat = 0 from rfl] at hx277_1); (try rw [show 0 * 5 = 0 from rfl] at hx277_1); (try rw [Addr.add_zero'] at hx277_1); (try rw [show ((0 : Int)).toNat = 0 from rfl] at hx277_2); (try rw [show 0 * 5 = 0 from rfl] at hx277_2); (try rw [Addr.add_zero'] at hx277_2); (try rw [show ((0 : Int)).toNat = 0 from rfl] at hx277_3); (try rw [show 0 * 5 = 0 from rfl] at hx277_3); (try rw [Addr.add_zero'] at hx277_3); (try rw [show ((0 : Int)).toNat = 0 from rfl] at hx277_4); (try rw [show 0 * 5 = 0 from rfl] at hx277_4); (try rw [Addr.add_zero'] at hx277_4); replace p277 := eq_true p277; replace q277 := eq_true q277; have p278 : 0 ≤ (0 : Int) := (by omega); have q278 : 0 < (t269.length : Int) := of_decide_eq_true (by first | (with_reducible assumption) | assumption); obtain ⟨ad278, e278, hx278_0, hx278_1, hx278_2, hx278_3, hx278_4⟩ := at_T58 (Kd.R_reads' HO_275002.out).2.2 0 p278 q278; obtain rfl : ad276 = ad278 := (by injection e278); have qi278 : (0 < t269.length) = True := eq_true (by omega); (try rw [show ((0 : Int)).toNat = 0 from rfl] at hx278_0); (try rw [show 0 * 5 = 0 from rfl] at hx278_0); (try rw [Addr.add_zero'] at hx278_0); (try rw [show ((0 : Int)).toNat = 0 from rfl] at hx278_1); (try rw [show 0 * 5 = 0 from rfl] at hx278_1); (try rw [Addr.add_zero'] at hx278_1); (try rw [show ((0 : Int)).toNat = 0 from rfl] at hx278_2); (try rw [show 0 * 5 = 0 from rfl] at hx278_2); (try rw [Addr.add_zero'] at hx278_2); (try rw [show ((0 : Int)).toNat = 0 from rfl] at hx278_3); (try rw [show 0 * 5 = 0 from rfl] at hx278_3); (try rw [Addr.add_zero'] at hx278_3); (try rw [show ((0 : Int)).toNat = 0 from rfl] at hx278_4); (try rw [show 0 * 5 = 0 from rfl] at hx278_4); (try rw [Addr.add_zero'] at hx278_4); replace p278 := eq_true p278; replace q278 := eq_true q278))
                   go_ret
                   exact ⟨by first | rfl | (simp [errW_none, errW_some] <;> rfl) | (simp only [← hji3, ← hji6]; first | rfl | (simp [errW_none, errW_some] <;> rfl)) | (simp [*, errW_none, errW_some] <;> rfl), by repeat (first | (with_reducible first | exact HB.out | apply below_alloc | apply pw_below_drewN | apply below_drew1 | refine below_set ?_ GE274.out) | exact HB.out)⟩
                  ·rw [if_neg c35] at H
                   have c35b0 : (((rd_T58 t269 0).f3) == (decide ((ji6) > 1))) = false := by simpa using c35
                   (try (have c35b1 : decide (((rd_T58 t269 0).f3) = (decide ((ji6) > 1))) = false := by simpa using c35))
                   (try (have c35b2 : (((rd_T58 t269 0).f3) == (decide ((ji6) > 1))) = false := by simpa using c35))
                   (try (have c35b3 : ¬ (((rd_T58 t269 0).f3) = (decide ((ji6) > 1))) := by simpa using c35))
                   clear c35
                   exact absurd ((Option.some.inj H).trans hTrue.out) (by decide)
                 ·rw [if_neg c34] at H
                  have c34b0 := beq_eq_false_iff_ne.mpr c34
                  have c34b1 := bne_iff_ne.mpr c34
                  exact absurd ((Option.some.inj H).trans hTrue.out) (by decide)
                ·rw [if_neg c33] at H
                 exact absurd H (by simp)
               ·rw [if_neg c32] at H
                have c32b0 := beq_eq_false_iff_ne.mpr c32
                have c32b1 := bne_iff_ne.mpr c32
                exact absurd ((Option.some.inj H).trans hTrue.out) (by decide)
              ·replace c31 := Bool.eq_false_iff.mpr c31
               subst c31
               rw [if_neg (show ¬ (false = true) by decide)] at H
               try dsimp only at H
               exact absurd ((Option.some.inj H).trans hTrue.out) (by decide)
             ·rw [if_neg c29] at H
              have c29b0 := beq_eq_false_iff_ne.mpr c29
              have c29b1 := bne_iff_ne.mpr c29
              replace H := Option.bind_eq_some_iff.mp H
              obtain ⟨t279, A380, H⟩ := H
              try dsimp only at H
              have A38 := Aside0.mk A380
              clear A380
              by_cases c39 : t279 = true
              ·subst c39
               rw [if_pos rfl] at H
               try dsimp only at H
               by_cases c40 : (t269.length : Int) = 1
               ·rw [if_pos c40] at H
                have c40b0 := beq_iff_eq.mpr c40
                have c40b1 := bne_eq_false_iff_eq.mpr c40
                clear c40
                by_cases c41 : 0 < (t269.length : Int)
                ·rw [if_pos c41] at H
                 have c41b0 := decide_eq_true c41
                 have c41b1 : decide (0 < t269.length) = true := decide_eq_true (by omega)
                 clear c41
                 by_cases c42 : ((rd_T58 t269 0).f2) = 2
                 ·rw [if_pos c42] at H
                  have c42b0 := beq_iff_eq.mpr c42
                  have c42b1 := bne_eq_false_iff_eq.mpr c42
                  clear c42
                  by_cases c43 : (((rd_T58 t269 0).f3) == (decide ((ji6) > 1))) = true
                  ·rw [if_pos c43] at H
                   have c43b0 : (((rd_T58 t269 0).f3) == (decide ((ji6) > 1))) = true := c43
                   (try (have c43b1 : decide (((rd_T58 t269 0).f3) = (decide ((ji6) > 1))) = true := by simpa using c43))
                   (try (have c43b2 : (((rd_T58 t269 0).f3) == (decide ((ji6) > 1))) = true := by simpa using c43))
                   clear c43
                   obtain rfl := Option.some.inj H
                   go_wp2_with (first | (go_at_call 22; (with_reducible refine (brackenlaw11_told.calls  true _ (Env.below HE.out (by repeat (first | (with_reducible first | exact HB.out | apply below_alloc | apply pw_below_drewN | apply below_drew1 | refine below_set ?_ GE274.out) | exact HB.out))) hidTrue A38.out).mono ?_); rintro e w44 ⟨rfl, hb⟩; have n0_ := Aside0.mk (Kd.R_below (by (with_reducible repeat (first | apply Kd.R_alloc | apply Kd.R_drewN | apply Kd.R_drew)); exact HO_275001.out) hb); have n1_ := Aside0.mk (Kd.R_below (by (with_reducible repeat (first | apply Kd.R_alloc | apply Kd.R_drewN | apply Kd.R_drew)); exact HO_275002.out) hb); have n2_ := Aside0.mk (blk_below (g := gb274) (o := .cells #[.string t265, .slice Ao24 t266.length co24, .slice Ao25 t269.length co25] 48 (0, 0)) (by (with_reducible repeat (first | refine blk_drewN ?_ _ | refine blk_drew ?_ | refine blk_alloc ?_ _)); exact BK274.out) hb); have n3_ := Aside0.mk (below_step (by repeat (first | (with_reducible first | exact HB.out | apply below_alloc | apply pw_below_drewN | apply below_drew1 | refine below_set ?_ GE274.out) | exact HB.out)) hb); clear HO_275001; clear HO_275002; clear BK274; clear HB; have HO_275001 := n0_; have HO_275002 := n1_; have BK274 := n2_; have HB := n3_; clear n0_ n1_ n2_ n3_; (try clear hb); (try clear hb2); (try clear hk); (try clear hi); have hcz45_0 : w44.cell? ⟨gb274, 0, none⟩ = some (.string t265) := (blk_cell BK274.out 0).trans rfl; have hcz45_1 : w44.cell? ⟨gb274, 1, none⟩ = some (.slice Ao24 t266.length co24) := (blk_cell BK274.out 1).trans rfl; have hcz45_2 : w44.cell? ⟨gb274, 2, none⟩ = some (.slice Ao25 t269.length co25) := (blk_cell BK274.out 2).trans rfl; have hfz45_0 := blk_frozen BK274.out 0; have hfz45_1 := blk_frozen BK274.out 1; have hfz45_2 := blk_frozen BK274.out 2; have p280 : 0 ≤ (0 : Int) := (by omega); have q280 : 0 < (t269.length : Int) := of_decide_eq_true (by first | (with_reducible assumption) | assumption); obtain ⟨ad280, e280, hx280_0, hx280_1, hx280_2, hx280_3, hx280_4⟩ := at_T58 (Kd.R_reads' HO_275002.out).2.2 0 p280 q280; cases e280; have qi280 : (0 < t269.length) = True := eq_true (by omega); (try rw [show ((0 : Int)).toNat = 0 from rfl] at hx280_0); (try rw [show 0 * 5 = 0 from rfl] at hx280_0); (try rw [Addr.add_zero'] at hx280_0); (try rw [show ((0 : Int)).toNat = 0 from rfl] at hx280_1); (try rw [show 0 * 5 = 0 from rfl] at hx280_1); (try rw [Addr.add_zero'] at hx280_1); (try rw [show ((0 : Int)).toNat = 0 from rfl] at hx280_2); (try rw [show 0 * 5 = 0 from rfl] at hx280_2); (try rw [Addr.add_zero'] at hx280_2); (try rw [show ((0 : Int)).toNat = 0 from rfl] at hx280_3); (try rw [show 0 * 5 = 0 from rfl] at hx280_3); (try rw [Addr.add_zero'] at hx280_3); (try rw [show ((0 : Int)).toNat = 0 from rfl] at hx280_4); (try rw [show 0 * 5 = 0 from rfl] at hx280_4); (try rw [Addr.add_zero'] at hx280_4); replace p280 := eq_true p280; replace q280 := eq_true q280; have p281 : 0 ≤ (0 : Int) := (by omega); have q281 : 0 < (t269.length : Int) := of_decide_eq_true (by first | (with_reducible assumption) | assumption); obtain ⟨ad281, e281, hx281_0, hx281_1, hx281_2, hx281_3, hx281_4⟩ := at_T58 (Kd.R_reads' HO_275002.out).2.2 0 p281 q281; obtain rfl : ad280 = ad281 := (by injection e281); have qi281 : (0 < t269.length) = True := eq_true (by omega); (try rw [show ((0 : Int)).toNat = 0 from rfl] at hx281_0); (try rw [show 0 * 5 = 0 from rfl] at hx281_0); (try rw [Addr.add_zero'] at hx281_0); (try rw [show ((0 : Int)).toNat = 0 from rfl] at hx281_1); (try rw [show 0 * 5 = 0 from rfl] at hx281_1); (try rw [Addr.add_zero'] at hx281_1); (try rw [show ((0 : Int)).toNat = 0 from rfl] at hx281_2); (try rw [show 0 * 5 = 0 from rfl] at hx281_2); (try rw [Addr.add_zero'] at hx281_2); (try rw [show ((0 : Int)).toNat = 0 from rfl] at hx281_3); (try rw [show 0 * 5 = 0 from rfl] at hx281_3); (try rw [Addr.add_zero'] at hx281_3); (try rw [show ((0 : Int)).toNat = 0 from rfl] at hx281_4); (try rw [show 0 * 5 = 0 from rfl] at hx281_4); (try rw [Addr.add_zero'] at hx281_4); replace p281 := eq_true p281; replace q281 := eq_true q281; have p282 : 0 ≤ (0 : Int) := (by omega); have q282 : 0 < (t269.length : Int) := of_decide_eq_true (by first | (with_reducible assumption) | assumption); obtain ⟨ad282, e282, hx282_0, hx282_1, hx282_2, hx282_3, hx282_4⟩ := at_T58 (Kd.R_reads' HO_275002.out).2.2 0 p282 q282; obtain rfl : ad280 = ad282 := (by injection e282); have qi282 : (0 < t269.length) = True := eq_true (by omega); (try rw [show ((0 : Int)).toNat = 0 from rfl] at hx282_0); (try rw [show 0 * 5 = 0 from rfl] at hx282_0); (try rw [Addr.add_zero'] at hx282_0); (try rw [show ((0 : Int)).toNat = 0 from rfl] at hx282_1); (try rw [show 0 * 5 = 0 from rfl] at hx282_1); (try rw [Addr.add_zero'] at hx282_1); (try rw [show ((0 : Int)).toNat = 0 from rfl] at hx282_2); (try rw [show 0 * 5 = 0 from rfl] at hx282_2); (try rw [Addr.add_zero'] at hx282_2); (try rw [show ((0 : Int)).toNat = 0 from rfl] at hx282_3); (try rw [show 0 * 5 = 0 from rfl] at hx282_3); (try rw [Addr.add_zero'] at hx282_3); (try rw [show ((0 : Int)).toNat = 0 from rfl] at hx282_4); (try rw [show 0 * 5 = 0 from rfl] at hx282_4); (try rw [Addr.add_zero'] at hx282_4); replace p282 := eq_true p282; replace q282 := eq_true q282))
                   go_ret
                   exact ⟨by first | rfl | (simp [errW_none, errW_some] <;> rfl) | (simp only [← hji3, ← hji6]; first | rfl | (simp [errW_none, errW_some] <;> rfl)) | (simp [*, errW_none, errW_some] <;> rfl), by repeat (first | (with_reducible first | exact HB.out | apply below_alloc | apply pw_below_drewN | apply below_drew1 | refine below_set ?_ GE274.out) | exact HB.out)⟩
                  ·rw [if_neg c43] at H
                   have c43b0 : (((rd_T58 t269 0).f3) == (decide ((ji6) > 1))) = false := by simpa using c43
                   (try (have c43b1 : decide (((rd_T58 t269 0).f3) = (decide ((ji6) > 1))) = false := by simpa using c43))
                   (try (have c43b2 : (((rd_T58 t269 0).f3) == (decide ((ji6) > 1))) = false := by simpa using c43))
                   (try (have c43b3 : ¬ (((rd_T58 t269 0).f3) = (decide ((ji6) > 1))) := by simpa using c43))
                   clear c43
                   exact absurd ((Option.some.inj H).trans hTrue.out) (by decide)
                 ·rw [if_neg c42] at H
                  have c42b0 := beq_eq_false_iff_ne.mpr c42
                  have c42b1 := bne_iff_ne.mpr c42
                  exact absurd ((Option.some.inj H).trans hTrue.out) (by decide)
                ·rw [if_neg c41] at H
                 exact absurd H (by simp)
               ·rw [if_neg c40] at H
                have c40b0 := beq_eq_false_iff_ne.mpr c40
                have c40b1 := bne_iff_ne.mpr c40
                exact absurd ((Option.some.inj H).trans hTrue.out) (by decide)
              ·replace c39 := Bool.eq_false_iff.mpr c39
               subst c39
               rw [if_neg (show ¬ (false = true) by decide)] at H
               try dsimp only at H
               exact absurd ((Option.some.inj H).trans hTrue.out) (by decide)
            ·replace c28 := Bool.eq_false_iff.mpr c28
             subst c28
             have c28z : (t273 == 0) = false := by simpa using c27b2
             rw [if_neg (show ¬ (false = true) by decide)] at H
             try dsimp only at H
             replace H := Option.bind_eq_some_iff.mp H
             obtain ⟨t283, A460, H⟩ := H
             try dsimp only at H
             have A46 := Aside0.mk A460
             clear A460
             by_cases c47 : t283 = true
             ·subst c47
              rw [if_pos rfl] at H
              try dsimp only at H
              by_cases c48 : t273 = 2
              ·rw [if_pos c48] at H
               have c48b0 := beq_iff_eq.mpr c48
               have c48b1 := bne_eq_false_iff_eq.mpr c48
               clear c48
               obtain rfl := Option.some.inj H
               go_wp2_with (first | (go_at_call 22; (with_reducible refine (brackenlaw11_told.calls  true _ (Env.below HE.out (by repeat (first | (with_reducible first | exact HB.out | apply below_alloc | apply pw_below_drewN | apply below_drew1 | refine below_set ?_ GE274.out) | exact HB.out))) hidTrue A46.out).mono ?_); rintro e w49 ⟨rfl, hb⟩; have n0_ := Aside0.mk (Kd.R_below (by (with_reducible repeat (first | apply Kd.R_alloc | apply Kd.R_drewN | apply Kd.R_drew)); exact HO_275001.out) hb); have n1_ := Aside0.mk (Kd.R_below (by (with_reducible repeat (first | apply Kd.R_alloc | apply Kd.R_drewN | apply Kd.R_drew)); exact HO_275002.out) hb); have n2_ := Aside0.mk (blk_below (g := gb274) (o := .cells #[.string t265, .slice Ao24 t266.length co24, .slice Ao25 t269.length co25] 48 (0, 0)) (by (with_reducible repeat (first | refine blk_drewN ?_ _ | refine blk_drew ?_ | refine blk_alloc ?_ _)); exact BK274.out) hb); have n3_ := Aside0.mk (below_step (by repeat (first | (with_reducible first | exact HB.out | apply below_alloc | apply pw_below_drewN | apply below_drew1 | refine below_set ?_ GE274.out) | exact HB.out)) hb); clear HO_275001; clear HO_275002; clear BK274; clear HB; have HO_275001 := n0_; have HO_275002 := n1_; have BK274 := n2_; have HB := n3_; clear n0_ n1_ n2_ n3_; (try clear hb); (try clear hb2); (try clear hk); (try clear hi); have hcz50_0 : w49.cell? ⟨gb274, 0, none⟩ = some (.string t265) := (blk_cell BK274.out 0).trans rfl; have hcz50_1 : w49.cell? ⟨gb274, 1, none⟩ = some (.slice Ao24 t266.length co24) := (blk_cell BK274.out 1).trans rfl; have hcz50_2 : w49.cell? ⟨gb274, 2, none⟩ = some (.slice Ao25 t269.length co25) := (blk_cell BK274.out 2).trans rfl; have hfz50_0 := blk_frozen BK274.out 0; have hfz50_1 := blk_frozen BK274.out 1; have hfz50_2 := blk_frozen BK274.out 2))
               go_ret
               exact ⟨by first | rfl | (simp [errW_none, errW_some] <;> rfl) | (simp only [← hji3, ← hji6]; first | rfl | (simp [errW_none, errW_some] <;> rfl)) | (simp [*, errW_none, errW_some] <;> rfl), by repeat (first | (with_reducible first | exact HB.out | apply below_alloc | apply pw_below_drewN | apply below_drew1 | refine below_set ?_ GE274.out) | exact HB.out)⟩
              ·rw [if_neg c48] at H
               have c48b0 := beq_eq_false_iff_ne.mpr c48
               have c48b1 := bne_iff_ne.mpr c48
               exact absurd ((Option.some.inj H).trans hTrue.out) (by decide)
             ·replace c47 := Bool.eq_false_iff.mpr c47
              subst c47
              rw [if_neg (show ¬ (false = true) by decide)] at H
              try dsimp only at H
              exact absurd ((Option.some.inj H).trans hTrue.out) (by decide)
        ·rw [if_neg c12] at H
         exact absurd H (by simp)
       ·rw [if_neg c11] at H
        exact absurd H (by simp)
      ·rw [if_neg c10] at H
       exact absurd H (by simp)
     ·rw [if_neg c9] at H
      exact absurd H (by simp)
    ·rw [if_neg c8] at H
     exact absurd H (by simp)
   ·rw [if_neg c7] at H
    exact absurd H (by simp)
  ·rw [if_neg c5] at H
   exact absurd H (by simp)
 ·rw [if_neg c4] at H
  exact absurd H (by simp)

/-- THE ONE PURE STATEMENT of brackenlaw11_DeclTypes: yours. -/
def brackenlaw11_DeclTypes.Pure : Prop := ∀ (a0 : Int) (a1 : Int), (Lit.int .i64 a0).wf = true → (Lit.int .i64 a1).wf = true → ∃ k, brackenlaw11_DeclTypes.f k a0 a1 = some true
theorem brackenlaw11_DeclTypes.walk (P : brackenlaw11_DeclTypes.Pure) (a0 : Int) (a1 : Int) (w : World) (hE : Env w) (w0 : (Lit.int .i64 a0).wf = true) (w1 : (Lit.int .i64 a1).wf = true) :
  Calls Tryd.prog 13 #[.int .i64 a0, .int .i64 a1] w fun e w' => e = .returned (.bool true) ∧ Below w.heap.size w w' := by
 obtain ⟨k, h⟩ := P a0 a1 w0 w1
 refine (brackenlaw11_DeclTypes.calls k a0 a1 true w hE hidTrue h).mono ?_
 rintro e w' ⟨rfl, hd⟩
 exact ⟨rfl, hd⟩

end Go.Proofs.YtmjdjpelhhibgaaDoor.R3
