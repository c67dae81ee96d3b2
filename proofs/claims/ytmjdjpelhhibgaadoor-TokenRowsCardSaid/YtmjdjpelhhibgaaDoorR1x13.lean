-- written by wip/gen.py (this session's own driver of the kit's printer); Lean checks it
import Derived.Test.YtmjdjpelhhibgaaDoorR1x0
namespace Go.Proofs.YtmjdjpelhhibgaaDoor.R1
open Go.Proofs.YtmjdjpelhhibgaaDoor.Giv
open Go.RowKit Go.Proofs.YtmjdjpelhhibgaaDoorW.PrintWords Go.Proofs.YtmjdjpelhhibgaaDoorW.PrintLast Go.Proofs.YtmjdjpelhhibgaaDoorW.PrintMore
attribute [local go_sem] max2_int min2_int max_two min_two max_three min_three max_four min_four   -- for this text's walks alone
set_option linter.unusedVariables false
set_option linter.unusedSimpArgs false

/-! ### brackenlaw10_Text: function 18 -/
def brackenlaw10_Text.l0 : Nat → List Int → Int → List ByteArray → ByteArray → Int → Option (ByteArray)
  | 0, _, _, _, _, _ => none
  | k + 1, x0, x1, x5, x6, x7 => if x7 < (x0.length : Int) then (if x7 < x1 then (if 0 ≤ x7 then (if (IntKind.u64.wrap ((x5.length : Int))) = 0 then (none) else (if 0 ≤ (Int.tmod (IntKind.u64.wrap (rd x0 x7)) (IntKind.u64.wrap ((x5.length : Int)))) then (if (Int.tmod (IntKind.u64.wrap (rd x0 x7)) (IntKind.u64.wrap ((x5.length : Int)))) < (x5.length : Int) then (if x6.size + (rdOf ByteArray.empty x5 (Int.tmod (IntKind.u64.wrap (rd x0 x7)) (IntKind.u64.wrap ((x5.length : Int))))).size ≤ 9223372036854775807 then (brackenlaw10_Text.l0 k x0 x1 x5 (x6 ++ (rdOf ByteArray.empty x5 (Int.tmod (IntKind.u64.wrap (rd x0 x7)) (IntKind.u64.wrap ((x5.length : Int)))))) (wrap64 (x7 + 1))) else (none)) else (none)) else (none))) else (none)) else (some x6)) else (some x6)
def brackenlaw10_Text.f (k : Nat) (l0 : List Int) (a1 : Int) : Option (ByteArray) := brackenlaw10_Text.l0 k l0 a1 (([(⟨#[60, 97, 62]⟩ : ByteArray), (⟨#[60, 47, 97, 62]⟩ : ByteArray), (⟨#[60, 98, 47, 62]⟩ : ByteArray), (⟨#[60, 97, 32, 120, 61, 39, 49, 39, 62]⟩ : ByteArray), (⟨#[60, 112, 58, 98, 32, 112, 58, 121, 61, 34, 50, 34, 32, 120, 109, 108, 110, 115, 58, 112, 61, 39, 117, 39, 62]⟩ : ByteArray), (⟨#[60, 47, 112, 58, 98, 62]⟩ : ByteArray), (⟨#[116, 101, 120, 116]⟩ : ByteArray), (⟨#[32]⟩ : ByteArray), (⟨#[38, 108, 116, 59]⟩ : ByteArray), (⟨#[38, 35, 54, 53, 59]⟩ : ByteArray), (⟨#[38, 35, 120, 49, 70, 54, 48, 48, 59]⟩ : ByteArray), (⟨#[38, 101, 59]⟩ : ByteArray), (⟨#[38, 102, 59]⟩ : ByteArray), (⟨#[60, 33, 45, 45, 99, 45, 45, 62]⟩ : ByteArray), (⟨#[60, 33, 45, 45, 32, 45]⟩ : ByteArray), (⟨#[45, 45, 62]⟩ : ByteArray), (⟨#[60, 63, 112, 105, 32, 100, 63, 62]⟩ : ByteArray), (⟨#[60, 63, 112, 105, 63, 62]⟩ : ByteArray), (⟨#[60, 63, 120, 109, 108, 63, 62]⟩ : ByteArray), (⟨#[60, 33, 91, 67, 68, 65, 84, 65, 91, 60, 38, 93, 93, 62]⟩ : ByteArray), (⟨#[93, 93, 62]⟩ : ByteArray), (⟨#[60, 97]⟩ : ByteArray), (⟨#[62]⟩ : ByteArray), (⟨#[60]⟩ : ByteArray), (⟨#[38]⟩ : ByteArray), (⟨#[38, 35, 59]⟩ : ByteArray), (⟨#[38, 35, 120, 59]⟩ : ByteArray), (⟨#[60, 97, 32, 120, 61, 49, 62]⟩ : ByteArray), (⟨#[60, 97, 32, 120, 61, 39, 60, 39, 62]⟩ : ByteArray), (⟨#[60, 97, 32, 32, 120, 32, 61, 32, 39, 113, 39, 32, 47, 62]⟩ : ByteArray), (⟨#[60, 97, 32, 120, 61, 39, 49, 39, 32, 120, 61, 39, 50, 39, 47, 62]⟩ : ByteArray), (⟨#[10]⟩ : ByteArray), (⟨#[13]⟩ : ByteArray), (⟨#[195, 169]⟩ : ByteArray), (⟨#[60, 195, 169, 47, 62]⟩ : ByteArray), (⟨#[60, 97, 32, 120, 109, 108, 110, 115, 61, 39, 117, 39, 47, 62]⟩ : ByteArray), (⟨#[60, 120, 109, 108, 58, 97, 47, 62]⟩ : ByteArray), (⟨#[60, 97, 32, 120, 109, 108, 58, 105, 100, 61, 39, 32, 49, 32, 39, 47, 62]⟩ : ByteArray), (⟨#[38, 97, 109, 112, 59]⟩ : ByteArray), (⟨#[39]⟩ : ByteArray)] : List ByteArray)) (⟨#[]⟩ : ByteArray) 0
theorem brackenlaw10_Text.mono_l : ∀ k, (∀ y0 y1 y2 y3 y4, LeO (brackenlaw10_Text.l0 k y0 y1 y2 y3 y4) (brackenlaw10_Text.l0 (k + 1) y0 y1 y2 y3 y4))
  | 0 => fun _ _ _ _ _ r h => by simp [brackenlaw10_Text.l0] at h
  | k + 1 => by
    have ih0 := brackenlaw10_Text.mono_l k
    · intro y0 y1 y2 y3 y4
      unfold brackenlaw10_Text.l0
      repeat' first
      | (with_reducible exact ih0 _ _ _ _ _)
      | (with_reducible exact LeO.refl _)
      | (with_reducible exact LeO.none _)
      | (with_reducible refine LeO.ite ?_ ?_)
      | (with_reducible refine LeO.bind ?_ (fun _ => ?_))
      | exact ih0 _ _ _ _ _
      | exact LeO.none _
      | refine LeO.ite ?_ ?_
      | refine LeO.bind ?_ (fun _ => ?_)
theorem brackenlaw10_Text.mono : ∀ a0 a1 k, LeO (brackenlaw10_Text.f k a0 a1) (brackenlaw10_Text.f (k + 1) a0 a1) := by
  intro a0 a1 k
  have ih0 := brackenlaw10_Text.mono_l k
  unfold brackenlaw10_Text.f
  repeat' first
      | (with_reducible exact ih0 _ _ _ _ _)
      | (with_reducible exact LeO.refl _)
      | (with_reducible exact LeO.none _)
      | (with_reducible refine LeO.ite ?_ ?_)
      | (with_reducible refine LeO.bind ?_ (fun _ => ?_))
      | exact ih0 _ _ _ _ _
      | exact LeO.none _
      | refine LeO.ite ?_ ?_
      | refine LeO.bind ?_ (fun _ => ?_)
set_option maxHeartbeats 8000000 in
set_option maxRecDepth 100000 in
theorem brackenlaw10_Text.calls (k : Nat) (A0 : Option Addr) (c0 : Nat) (l0 : List Int) (a1 : Int) (r : ByteArray) (w : World) (hr0 : Kd.C (Kd.int .i64) w A0 l0.length l0) (hc0 : l0.length ≤ c0) (h : brackenlaw10_Text.f k l0 a1 = some r) :
    Calls Tryd.prog 18 #[.slice A0 l0.length c0, .int .i64 a1] w fun e w' => e = .returned (.string r) ∧ Below w.heap.size w w' := by
  have HR0 := Aside0.mk hr0
  have HC0 := Aside0.mk hc0
  clear hr0 hc0
  have HB := Aside0.mk (Below.refl w.heap.size w)
  have H : (brackenlaw10_Text.l0 k l0 a1 (([(⟨#[60, 97, 62]⟩ : ByteArray), (⟨#[60, 47, 97, 62]⟩ : ByteArray), (⟨#[60, 98, 47, 62]⟩ : ByteArray), (⟨#[60, 97, 32, 120, 61, 39, 49, 39, 62]⟩ : ByteArray), (⟨#[60, 112, 58, 98, 32, 112, 58, 121, 61, 34, 50, 34, 32, 120, 109, 108, 110, 115, 58, 112, 61, 39, 117, 39, 62]⟩ : ByteArray), (⟨#[60, 47, 112, 58, 98, 62]⟩ : ByteArray), (⟨#[116, 101, 120, 116]⟩ : ByteArray), (⟨#[32]⟩ : ByteArray), (⟨#[38, 108, 116, 59]⟩ : ByteArray), (⟨#[38, 35, 54, 53, 59]⟩ : ByteArray), (⟨#[38, 35, 120, 49, 70, 54, 48, 48, 59]⟩ : ByteArray), (⟨#[38, 101, 59]⟩ : ByteArray), (⟨#[38, 102, 59]⟩ : ByteArray), (⟨#[60, 33, 45, 45, 99, 45, 45, 62]⟩ : ByteArray), (⟨#[60, 33, 45, 45, 32, 45]⟩ : ByteArray), (⟨#[45, 45, 62]⟩ : ByteArray), (⟨#[60, 63, 112, 105, 32, 100, 63, 62]⟩ : ByteArray), (⟨#[60, 63, 112, 105, 63, 62]⟩ : ByteArray), (⟨#[60, 63, 120, 109, 108, 63, 62]⟩ : ByteArray), (⟨#[60, 33, 91, 67, 68, 65, 84, 65, 91, 60, 38, 93, 93, 62]⟩ : ByteArray), (⟨#[93, 93, 62]⟩ : ByteArray), (⟨#[60, 97]⟩ : ByteArray), (⟨#[62]⟩ : ByteArray), (⟨#[60]⟩ : ByteArray), (⟨#[38]⟩ : ByteArray), (⟨#[38, 35, 59]⟩ : ByteArray), (⟨#[38, 35, 120, 59]⟩ : ByteArray), (⟨#[60, 97, 32, 120, 61, 49, 62]⟩ : ByteArray), (⟨#[60, 97, 32, 120, 61, 39, 60, 39, 62]⟩ : ByteArray), (⟨#[60, 97, 32, 32, 120, 32, 61, 32, 39, 113, 39, 32, 47, 62]⟩ : ByteArray), (⟨#[60, 97, 32, 120, 61, 39, 49, 39, 32, 120, 61, 39, 50, 39, 47, 62]⟩ : ByteArray), (⟨#[10]⟩ : ByteArray), (⟨#[13]⟩ : ByteArray), (⟨#[195, 169]⟩ : ByteArray), (⟨#[60, 195, 169, 47, 62]⟩ : ByteArray), (⟨#[60, 97, 32, 120, 109, 108, 110, 115, 61, 39, 117, 39, 47, 62]⟩ : ByteArray), (⟨#[60, 120, 109, 108, 58, 97, 47, 62]⟩ : ByteArray), (⟨#[60, 97, 32, 120, 109, 108, 58, 105, 100, 61, 39, 32, 49, 32, 39, 47, 62]⟩ : ByteArray), (⟨#[38, 97, 109, 112, 59]⟩ : ByteArray), (⟨#[39]⟩ : ByteArray)] : List ByteArray)) (⟨#[]⟩ : ByteArray) 0) = some r := h
  clear h
  obtain ⟨y381, hy381⟩ : ∃ y_ : List ByteArray, y_ = (([(⟨#[60, 97, 62]⟩ : ByteArray), (⟨#[60, 47, 97, 62]⟩ : ByteArray), (⟨#[60, 98, 47, 62]⟩ : ByteArray), (⟨#[60, 97, 32, 120, 61, 39, 49, 39, 62]⟩ : ByteArray), (⟨#[60, 112, 58, 98, 32, 112, 58, 121, 61, 34, 50, 34, 32, 120, 109, 108, 110, 115, 58, 112, 61, 39, 117, 39, 62]⟩ : ByteArray), (⟨#[60, 47, 112, 58, 98, 62]⟩ : ByteArray), (⟨#[116, 101, 120, 116]⟩ : ByteArray), (⟨#[32]⟩ : ByteArray), (⟨#[38, 108, 116, 59]⟩ : ByteArray), (⟨#[38, 35, 54, 53, 59]⟩ : ByteArray), (⟨#[38, 35, 120, 49, 70, 54, 48, 48, 59]⟩ : ByteArray), (⟨#[38, 101, 59]⟩ : ByteArray), (⟨#[38, 102, 59]⟩ : ByteArray), (⟨#[60, 33, 45, 45, 99, 45, 45, 62]⟩ : ByteArray), (⟨#[60, 33, 45, 45, 32, 45]⟩ : ByteArray), (⟨#[45, 45, 62]⟩ : ByteArray), (⟨#[60, 63, 112, 105, 32, 100, 63, 62]⟩ : ByteArray), (⟨#[60, 63, 112, 105, 63, 62]⟩ : ByteArray), (⟨#[60, 63, 120, 109, 108, 63, 62]⟩ : ByteArray), (⟨#[60, 33, 91, 67, 68, 65, 84, 65, 91, 60, 38, 93, 93, 62]⟩ : ByteArray), (⟨#[93, 93, 62]⟩ : ByteArray), (⟨#[60, 97]⟩ : ByteArray), (⟨#[62]⟩ : ByteArray), (⟨#[60]⟩ : ByteArray), (⟨#[38]⟩ : ByteArray), (⟨#[38, 35, 59]⟩ : ByteArray), (⟨#[38, 35, 120, 59]⟩ : ByteArray), (⟨#[60, 97, 32, 120, 61, 49, 62]⟩ : ByteArray), (⟨#[60, 97, 32, 120, 61, 39, 60, 39, 62]⟩ : ByteArray), (⟨#[60, 97, 32, 32, 120, 32, 61, 32, 39, 113, 39, 32, 47, 62]⟩ : ByteArray), (⟨#[60, 97, 32, 120, 61, 39, 49, 39, 32, 120, 61, 39, 50, 39, 47, 62]⟩ : ByteArray), (⟨#[10]⟩ : ByteArray), (⟨#[13]⟩ : ByteArray), (⟨#[195, 169]⟩ : ByteArray), (⟨#[60, 195, 169, 47, 62]⟩ : ByteArray), (⟨#[60, 97, 32, 120, 109, 108, 110, 115, 61, 39, 117, 39, 47, 62]⟩ : ByteArray), (⟨#[60, 120, 109, 108, 58, 97, 47, 62]⟩ : ByteArray), (⟨#[60, 97, 32, 120, 109, 108, 58, 105, 100, 61, 39, 32, 49, 32, 39, 47, 62]⟩ : ByteArray), (⟨#[38, 97, 109, 112, 59]⟩ : ByteArray), (⟨#[39]⟩ : ByteArray)] : List ByteArray)) := ⟨_, rfl⟩
  replace H : (brackenlaw10_Text.l0 k l0 a1 y381 (⟨#[]⟩ : ByteArray) 0) = some r := by first | (rw [hy381]; with_reducible exact H) | (have H2_ := (Option.bind_some _ _).symm.trans H; rw [hy381]; with_reducible exact H2_) | (have H2_ := (Option.bind_some _ _).symm.trans H; with_reducible exact H2_) | with_reducible exact H | (rw [hy381]; exact H) | exact H
  have Ny381 := Aside0.mk hy381
  clear hy381
  have H' := Aside0.mk H
  clear H
  go_enter Tryd.func18, Tryd.ntmps18
  go_wp2_with (first | ((with_reducible refine gate_dst (N := 8) rfl ?_); refine Kd.R_lit Kd.string _ 9 ?hg (N := 8) ?hd (xs := ([(⟨#[60, 97, 62]⟩ : ByteArray), (⟨#[60, 47, 97, 62]⟩ : ByteArray), (⟨#[60, 98, 47, 62]⟩ : ByteArray), (⟨#[60, 97, 32, 120, 61, 39, 49, 39, 62]⟩ : ByteArray), (⟨#[60, 112, 58, 98, 32, 112, 58, 121, 61, 34, 50, 34, 32, 120, 109, 108, 110, 115, 58, 112, 61, 39, 117, 39, 62]⟩ : ByteArray), (⟨#[60, 47, 112, 58, 98, 62]⟩ : ByteArray), (⟨#[116, 101, 120, 116]⟩ : ByteArray), (⟨#[32]⟩ : ByteArray), (⟨#[38, 108, 116, 59]⟩ : ByteArray), (⟨#[38, 35, 54, 53, 59]⟩ : ByteArray), (⟨#[38, 35, 120, 49, 70, 54, 48, 48, 59]⟩ : ByteArray), (⟨#[38, 101, 59]⟩ : ByteArray), (⟨#[38, 102, 59]⟩ : ByteArray), (⟨#[60, 33, 45, 45, 99, 45, 45, 62]⟩ : ByteArray), (⟨#[60, 33, 45, 45, 32, 45]⟩ : ByteArray), (⟨#[45, 45, 62]⟩ : ByteArray), (⟨#[60, 63, 112, 105, 32, 100, 63, 62]⟩ : ByteArray), (⟨#[60, 63, 112, 105, 63, 62]⟩ : ByteArray), (⟨#[60, 63, 120, 109, 108, 63, 62]⟩ : ByteArray), (⟨#[60, 33, 91, 67, 68, 65, 84, 65, 91, 60, 38, 93, 93, 62]⟩ : ByteArray), (⟨#[93, 93, 62]⟩ : ByteArray), (⟨#[60, 97]⟩ : ByteArray), (⟨#[62]⟩ : ByteArray), (⟨#[60]⟩ : ByteArray), (⟨#[38]⟩ : ByteArray), (⟨#[38, 35, 59]⟩ : ByteArray), (⟨#[38, 35, 120, 59]⟩ : ByteArray), (⟨#[60, 97, 32, 120, 61, 49, 62]⟩ : ByteArray), (⟨#[60, 97, 32, 120, 61, 39, 60, 39, 62]⟩ : ByteArray), (⟨#[60, 97, 32, 32, 120, 32, 61, 32, 39, 113, 39, 32, 47, 62]⟩ : ByteArray), (⟨#[60, 97, 32, 120, 61, 39, 49, 39, 32, 120, 61, 39, 50, 39, 47, 62]⟩ : ByteArray), (⟨#[10]⟩ : ByteArray), (⟨#[13]⟩ : ByteArray), (⟨#[195, 169]⟩ : ByteArray), (⟨#[60, 195, 169, 47, 62]⟩ : ByteArray), (⟨#[60, 97, 32, 120, 109, 108, 110, 115, 61, 39, 117, 39, 47, 62]⟩ : ByteArray), (⟨#[60, 120, 109, 108, 58, 97, 47, 62]⟩ : ByteArray), (⟨#[60, 97, 32, 120, 109, 108, 58, 105, 100, 61, 39, 32, 49, 32, 39, 47, 62]⟩ : ByteArray), (⟨#[38, 97, 109, 112, 59]⟩ : ByteArray), (⟨#[39]⟩ : ByteArray)] : List ByteArray)) (inner := [.string (⟨#[60, 97, 62]⟩ : ByteArray), .string (⟨#[60, 47, 97, 62]⟩ : ByteArray), .string (⟨#[60, 98, 47, 62]⟩ : ByteArray), .string (⟨#[60, 97, 32, 120, 61, 39, 49, 39, 62]⟩ : ByteArray), .string (⟨#[60, 112, 58, 98, 32, 112, 58, 121, 61, 34, 50, 34, 32, 120, 109, 108, 110, 115, 58, 112, 61, 39, 117, 39, 62]⟩ : ByteArray), .string (⟨#[60, 47, 112, 58, 98, 62]⟩ : ByteArray), .string (⟨#[116, 101, 120, 116]⟩ : ByteArray), .string (⟨#[32]⟩ : ByteArray), .string (⟨#[38, 108, 116, 59]⟩ : ByteArray), .string (⟨#[38, 35, 54, 53, 59]⟩ : ByteArray), .string (⟨#[38, 35, 120, 49, 70, 54, 48, 48, 59]⟩ : ByteArray), .string (⟨#[38, 101, 59]⟩ : ByteArray), .string (⟨#[38, 102, 59]⟩ : ByteArray), .string (⟨#[60, 33, 45, 45, 99, 45, 45, 62]⟩ : ByteArray), .string (⟨#[60, 33, 45, 45, 32, 45]⟩ : ByteArray), .string (⟨#[45, 45, 62]⟩ : ByteArray), .string (⟨#[60, 63, 112, 105, 32, 100, 63, 62]⟩ : ByteArray), .string (⟨#[60, 63, 112, 105, 63, 62]⟩ : ByteArray), .string (⟨#[60, 63, 120, 109, 108, 63, 62]⟩ : ByteArray), .string (⟨#[60, 33, 91, 67, 68, 65, 84, 65, 91, 60, 38, 93, 93, 62]⟩ : ByteArray), .string (⟨#[93, 93, 62]⟩ : ByteArray), .string (⟨#[60, 97]⟩ : ByteArray), .string (⟨#[62]⟩ : ByteArray), .string (⟨#[60]⟩ : ByteArray), .string (⟨#[38]⟩ : ByteArray), .string (⟨#[38, 35, 59]⟩ : ByteArray), .string (⟨#[38, 35, 120, 59]⟩ : ByteArray), .string (⟨#[60, 97, 32, 120, 61, 49, 62]⟩ : ByteArray), .string (⟨#[60, 97, 32, 120, 61, 39, 60, 39, 62]⟩ : ByteArray), .string (⟨#[60, 97, 32, 32, 120, 32, 61, 32, 39, 113, 39, 32, 47, 62]⟩ : ByteArray), .string (⟨#[60, 97, 32, 120, 61, 39, 49, 39, 32, 120, 61, 39, 50, 39, 47, 62]⟩ : ByteArray), .string (⟨#[10]⟩ : ByteArray), .string (⟨#[13]⟩ : ByteArray), .string (⟨#[195, 169]⟩ : ByteArray), .string (⟨#[60, 195, 169, 47, 62]⟩ : ByteArray), .string (⟨#[60, 97, 32, 120, 109, 108, 110, 115, 61, 39, 117, 39, 47, 62]⟩ : ByteArray), .string (⟨#[60, 120, 109, 108, 58, 97, 47, 62]⟩ : ByteArray), .string (⟨#[60, 97, 32, 120, 109, 108, 58, 105, 100, 61, 39, 32, 49, 32, 39, 47, 62]⟩ : ByteArray), .string (⟨#[38, 97, 109, 112, 59]⟩ : ByteArray), .string (⟨#[39]⟩ : ByteArray)]) (ok := fun _ => True) (okp := fun _ => True) ?hr ?hp (fun _ hk => hk) trivial (Below.refl _ _) (Nat.le_refl _) (by simp) ?_; (case hd => rfl); (case hg => rfl); (case hr => first | (go_simp; done) | (go_simp; rfl)); (case hp => exact (Reps.one (show Kd.M Kd.string _ _ _ (⟨#[60, 97, 62]⟩ : ByteArray) [.string (⟨#[60, 97, 62]⟩ : ByteArray)] from rfl) (Reps.one (show Kd.M Kd.string _ _ _ (⟨#[60, 47, 97, 62]⟩ : ByteArray) [.string (⟨#[60, 47, 97, 62]⟩ : ByteArray)] from rfl) (Reps.one (show Kd.M Kd.string _ _ _ (⟨#[60, 98, 47, 62]⟩ : ByteArray) [.string (⟨#[60, 98, 47, 62]⟩ : ByteArray)] from rfl) (Reps.one (show Kd.M Kd.string _ _ _ (⟨#[60, 97, 32, 120, 61, 39, 49, 39, 62]⟩ : ByteArray) [.string (⟨#[60, 97, 32, 120, 61, 39, 49, 39, 62]⟩ : ByteArray)] from rfl) (Reps.one (show Kd.M Kd.string _ _ _ (⟨#[60, 112, 58, 98, 32, 112, 58, 121, 61, 34, 50, 34, 32, 120, 109, 108, 110, 115, 58, 112, 61, 39, 117, 39, 62]⟩ : ByteArray) [.string (⟨#[60, 112, 58, 98, 32, 112, 58, 121, 61, 34, 50, 34, 32, 120, 109, 108, 110, 115, 58, 112, 61, 39, 117, 39, 62]⟩ : ByteArray)] from rfl) (Reps.one (show Kd.M Kd.string _ _ _ (⟨#[60, 47, 112, 58, 98, 62]⟩ : ByteArray) [.string (⟨#[60, 47, 112, 58, 98, 62]⟩ : ByteArray)] from rfl) (Reps.one (show Kd.M Kd.string _ _ _ (⟨#[116, 101, 120, 116]⟩ : ByteArray) [.string (⟨#[116, 101, 120, 116]⟩ : ByteArray)] from rfl) (Reps.one (show Kd.M Kd.string _ _ _ (⟨#[32]⟩ : ByteArray) [.string (⟨#[32]⟩ : ByteArray)] from rfl) (Reps.one (show Kd.M Kd.string _ _ _ (⟨#[38, 108, 116, 59]⟩ : ByteArray) [.string (⟨#[38, 108, 116, 59]⟩ : ByteArray)] from rfl) (Reps.one (show Kd.M Kd.string _ _ _ (⟨#[38, 35, 54, 53, 59]⟩ : ByteArray) [.string (⟨#[38, 35, 54, 53, 59]⟩ : ByteArray)] from rfl) (Reps.one (show Kd.M Kd.string _ _ _ (⟨#[38, 35, 120, 49, 70, 54, 48, 48, 59]⟩ : ByteArray) [.string (⟨#[38, 35, 120, 49, 70, 54, 48, 48, 59]⟩ : ByteArray)] from rfl) (Reps.one (show Kd.M Kd.string _ _ _ (⟨#[38, 101, 59]⟩ : ByteArray) [.string (⟨#[38, 101, 59]⟩ : ByteArray)] from rfl) (Reps.one (show Kd.M Kd.string _ _ _ (⟨#[38, 102, 59]⟩ : ByteArray) [.string (⟨#[38, 102, 59]⟩ : ByteArray)] from rfl) (Reps.one (show Kd.M Kd.string _ _ _ (⟨#[60, 33, 45, 45, 99, 45, 45, 62]⟩ : ByteArray) [.string (⟨#[60, 33, 45, 45, 99, 45, 45, 62]⟩ : ByteArray)] from rfl) (Reps.one (show Kd.M Kd.string _ _ _ (⟨#[60, 33, 45, 45, 32, 45]⟩ : ByteArray) [.string (⟨#[60, 33, 45, 45, 32, 45]⟩ : ByteArray)] from rfl) (Reps.one (show Kd.M Kd.string _ _ _ (⟨#[45, 45, 62]⟩ : ByteArray) [.string (⟨#[45, 45, 62]⟩ : ByteArray)] from rfl) (Reps.one (show Kd.M Kd.string _ _ _ (⟨#[60, 63, 112, 105, 32, 100, 63, 62]⟩ : ByteArray) [.string (⟨#[60, 63, 112, 105, 32, 100, 63, 62]⟩ : ByteArray)] from rfl) (Reps.one (show Kd.M Kd.string _ _ _ (⟨#[60, 63, 112, 105, 63, 62]⟩ : ByteArray) [.string (⟨#[60, 63, 112, 105, 63, 62]⟩ : ByteArray)] from rfl) (Reps.one (show Kd.M Kd.string _ _ _ (⟨#[60, 63, 120, 109, 108, 63, 62]⟩ : ByteArray) [.string (⟨#[60, 63, 120, 109, 108, 63, 62]⟩ : ByteArray)] from rfl) (Reps.one (show Kd.M Kd.string _ _ _ (⟨#[60, 33, 91, 67, 68, 65, 84, 65, 91, 60, 38, 93, 93, 62]⟩ : ByteArray) [.string (⟨#[60, 33, 91, 67, 68, 65, 84, 65, 91, 60, 38, 93, 93, 62]⟩ : ByteArray)] from rfl) (Reps.one (show Kd.M Kd.string _ _ _ (⟨#[93, 93, 62]⟩ : ByteArray) [.string (⟨#[93, 93, 62]⟩ : ByteArray)] from rfl) (Reps.one (show Kd.M Kd.string _ _ _ (⟨#[60, 97]⟩ : ByteArray) [.string (⟨#[60, 97]⟩ : ByteArray)] from rfl) (Reps.one (show Kd.M Kd.string _ _ _ (⟨#[62]⟩ : ByteArray) [.string (⟨#[62]⟩ : ByteArray)] from rfl) (Reps.one (show Kd.M Kd.string _ _ _ (⟨#[60]⟩ : ByteArray) [.string (⟨#[60]⟩ : ByteArray)] from rfl) (Reps.one (show Kd.M Kd.string _ _ _ (⟨#[38]⟩ : ByteArray) [.string (⟨#[38]⟩ : ByteArray)] from rfl) (Reps.one (show Kd.M Kd.string _ _ _ (⟨#[38, 35, 59]⟩ : ByteArray) [.string (⟨#[38, 35, 59]⟩ : ByteArray)] from rfl) (Reps.one (show Kd.M Kd.string _ _ _ (⟨#[38, 35, 120, 59]⟩ : ByteArray) [.string (⟨#[38, 35, 120, 59]⟩ : ByteArray)] from rfl) (Reps.one (show Kd.M Kd.string _ _ _ (⟨#[60, 97, 32, 120, 61, 49, 62]⟩ : ByteArray) [.string (⟨#[60, 97, 32, 120, 61, 49, 62]⟩ : ByteArray)] from rfl) (Reps.one (show Kd.M Kd.string _ _ _ (⟨#[60, 97, 32, 120, 61, 39, 60, 39, 62]⟩ : ByteArray) [.string (⟨#[60, 97, 32, 120, 61, 39, 60, 39, 62]⟩ : ByteArray)] from rfl) (Reps.one (show Kd.M Kd.string _ _ _ (⟨#[60, 97, 32, 32, 120, 32, 61, 32, 39, 113, 39, 32, 47, 62]⟩ : ByteArray) [.string (⟨#[60, 97, 32, 32, 120, 32, 61, 32, 39, 113, 39, 32, 47, 62]⟩ : ByteArray)] from rfl) (Reps.one (show Kd.M Kd.string _ _ _ (⟨#[60, 97, 32, 120, 61, 39, 49, 39, 32, 120, 61, 39, 50, 39, 47, 62]⟩ : ByteArray) [.string (⟨#[60, 97, 32, 120, 61, 39, 49, 39, 32, 120, 61, 39, 50, 39, 47, 62]⟩ : ByteArray)] from rfl) (Reps.one (show Kd.M Kd.string _ _ _ (⟨#[10]⟩ : ByteArray) [.string (⟨#[10]⟩ : ByteArray)] from rfl) (Reps.one (show Kd.M Kd.string _ _ _ (⟨#[13]⟩ : ByteArray) [.string (⟨#[13]⟩ : ByteArray)] from rfl) (Reps.one (show Kd.M Kd.string _ _ _ (⟨#[195, 169]⟩ : ByteArray) [.string (⟨#[195, 169]⟩ : ByteArray)] from rfl) (Reps.one (show Kd.M Kd.string _ _ _ (⟨#[60, 195, 169, 47, 62]⟩ : ByteArray) [.string (⟨#[60, 195, 169, 47, 62]⟩ : ByteArray)] from rfl) (Reps.one (show Kd.M Kd.string _ _ _ (⟨#[60, 97, 32, 120, 109, 108, 110, 115, 61, 39, 117, 39, 47, 62]⟩ : ByteArray) [.string (⟨#[60, 97, 32, 120, 109, 108, 110, 115, 61, 39, 117, 39, 47, 62]⟩ : ByteArray)] from rfl) (Reps.one (show Kd.M Kd.string _ _ _ (⟨#[60, 120, 109, 108, 58, 97, 47, 62]⟩ : ByteArray) [.string (⟨#[60, 120, 109, 108, 58, 97, 47, 62]⟩ : ByteArray)] from rfl) (Reps.one (show Kd.M Kd.string _ _ _ (⟨#[60, 97, 32, 120, 109, 108, 58, 105, 100, 61, 39, 32, 49, 32, 39, 47, 62]⟩ : ByteArray) [.string (⟨#[60, 97, 32, 120, 109, 108, 58, 105, 100, 61, 39, 32, 49, 32, 39, 47, 62]⟩ : ByteArray)] from rfl) (Reps.one (show Kd.M Kd.string _ _ _ (⟨#[38, 97, 109, 112, 59]⟩ : ByteArray) [.string (⟨#[38, 97, 109, 112, 59]⟩ : ByteArray)] from rfl) (Reps.one (show Kd.M Kd.string _ _ _ (⟨#[39]⟩ : ByteArray) [.string (⟨#[39]⟩ : ByteArray)] from rfl) (Reps.none _ _)))))))))))))))))))))))))))))))))))))))))); intro v382 w3 ho4 hb hg_ hnew_; clear hg_ hnew_; (first | rw [← Ny381.out] at ho4 | (simp only [Int.reduceToNat] at ho4; rw [← Ny381.out] at ho4)); have n0_ := Aside0.mk (Kd.R_lower ho4 (below_size (by repeat (first | (with_reducible first | exact HB.out | apply below_alloc | apply pw_below_drewN | apply below_drew1) | exact HB.out)))); have n1_ := Aside0.mk (below_step (by repeat (first | (with_reducible first | exact HB.out | apply below_alloc | apply pw_below_drewN | apply below_drew1) | exact HB.out)) hb); clear HB; have HO383 := n0_; have HB := n1_; clear n0_ n1_; clear hb ho4))
  go_loopg [6, 7] k (fun kq v6 v7 w' => ∃ (x6_1 : ByteArray) (x7_1 : Int), v6 = .string x6_1 ∧ v7 = .int .i64 x7_1 ∧ Aside0 (brackenlaw10_Text.l0 kq l0 a1 y381 x6_1 x7_1 = some r) ∧ Aside0 (kq ≤ k) ∧ Aside0 (Kd.R Kd.string 9 w' w.heap.size (fun _ => True) v382 y381) ∧ Aside0 (Below w.heap.size w w'))
  case atStart => exact ⟨((⟨#[]⟩ : ByteArray)), (0), (by first | rfl | (simp; done) | (simp [*]; done)), (by first | rfl | (simp; done) | (simp [*]; done)), H', ⟨Nat.le_refl _⟩, ⟨by (with_reducible repeat (first | apply Kd.R_alloc | apply Kd.R_drewN | apply Kd.R_drew)); exact HO383.out⟩, ⟨by repeat (first | (with_reducible first | exact HB.out | apply below_alloc | apply pw_below_drewN | apply below_drew1) | exact HB.out)⟩⟩
  case round =>
    clear H'
    try clear c1
    try clear p2
    obtain ⟨x6_1, x7_1, rfl, rfl, HA, HK1, HO_5, HB⟩ := hrel
    cases gk with
    | zero => exact absurd HA.out (by simp [brackenlaw10_Text.l0])
    | succ k1 =>
      have H := HA.out
      clear HA
      simp only [brackenlaw10_Text.l0] at H
      by_cases c5 : x7_1 < (l0.length : Int)
      · rw [if_pos c5] at H
        have c5b0 : decide (x7_1 < (l0.length : Int)) = true := decide_eq_true c5
        clear c5
        by_cases c6 : x7_1 < a1
        · rw [if_pos c6] at H
          have c6b0 : decide (x7_1 < a1) = true := decide_eq_true c6
          clear c6
          by_cases c7 : 0 ≤ x7_1
          · rw [if_pos c7] at H
            have c7b0 : decide (0 ≤ x7_1) = true := decide_eq_true c7
            clear c7
            by_cases c8 : (IntKind.u64.wrap ((y381.length : Int))) = 0
            · rw [if_pos c8] at H
              exact absurd H (by simp)
            · rw [if_neg c8] at H
              have c8b0 : ((IntKind.u64.wrap ((y381.length : Int))) == 0) = false := beq_eq_false_iff_ne.mpr c8
              have c8b1 : ((IntKind.u64.wrap ((y381.length : Int))) != 0) = true := bne_iff_ne.mpr c8
              obtain ⟨ji9, hji9⟩ : ∃ j_ : Int, (Int.tmod (IntKind.u64.wrap (rd l0 x7_1)) (IntKind.u64.wrap ((y381.length : Int)))) = j_ := ⟨_, rfl⟩
              replace H : (if 0 ≤ (ji9) then (if (ji9) < (y381.length : Int) then (if x6_1.size + (rdOf ByteArray.empty y381 (ji9)).size ≤ 9223372036854775807 then (brackenlaw10_Text.l0 k1 l0 a1 y381 (x6_1 ++ (rdOf ByteArray.empty y381 (ji9))) (wrap64 (x7_1 + 1))) else (none)) else (none)) else (none)) = some r := by first | (rw [hji9] at H; exact H) | (simp only [hji9] at H ⊢; exact H)
              by_cases c10 : 0 ≤ (ji9)
              · rw [if_pos c10] at H
                have c10b0 : decide (0 ≤ (ji9)) = true := decide_eq_true c10
                clear c10
                by_cases c11 : (ji9) < (y381.length : Int)
                · rw [if_pos c11] at H
                  have c11b0 : decide ((ji9) < (y381.length : Int)) = true := decide_eq_true c11
                  clear c11
                  by_cases c12 : x6_1.size + (rdOf ByteArray.empty y381 (ji9)).size ≤ 9223372036854775807
                  · rw [if_pos c12] at H
                    have c12b0 := eq_true c12
                    have c12b1 : decide (x6_1.size + (rdOf ByteArray.empty y381 (ji9)).size ≤ 9223372036854775807) = true := decide_eq_true c12
                    try have c12b2 : (9223372036854775807 < x6_1.size + (rdOf ByteArray.empty y381 (ji9)).size) = False := eq_false (Nat.not_lt.2 c12)
                    have H' := Aside0.mk H
                    clear H
                    have p384 : 0 ≤ (x7_1 : Int) := of_decide_eq_true (by first | (with_reducible assumption) | assumption)
                    have q384 : x7_1 < (l0.length : Int) := of_decide_eq_true (by first | (with_reducible assumption) | assumption)
                    obtain ⟨ad384, e384, hx384_0⟩ := Kd.at_int HR0.out x7_1 p384 q384
                    cases e384
                    replace hx384_0 := (HB.out.cell (World.block_lt_of_cell? w _ hx384_0)).trans hx384_0
                    replace p384 := eq_true p384
                    replace q384 := eq_true q384
                    obtain ⟨Ao13, co13, eo13⟩ := Kd.R_slice HO_5.out
                    subst eo13
                    have p385 : 0 ≤ ((ji9) : Int) := of_decide_eq_true (by first | (with_reducible assumption) | assumption)
                    have q385 : (ji9) < (y381.length : Int) := of_decide_eq_true (by first | (with_reducible assumption) | assumption)
                    obtain ⟨ad385, e385, hx385_0⟩ := Kd.at_string (Kd.R_reads' HO_5.out).2.2 (ji9) p385 q385
                    cases e385
                    replace p385 := eq_true p385
                    replace q385 := eq_true q385
                    go_wp2
                    go_roundg k1
                    case measure => have := HK1.out; omega
                    case rel => exact ⟨(x6_1 ++ (rdOf ByteArray.empty y381 (ji9))), (wrap64 (x7_1 + 1)), (by first | rfl | (simp; done) | (simp only [← hji9] <;> (first | rfl | simp)) | (simp [*]; done)), (by first | rfl | (simp; done) | (simp [*]; done)), H', ⟨by have := HK1.out; omega⟩, ⟨by (with_reducible repeat (first | apply Kd.R_alloc | apply Kd.R_drewN | apply Kd.R_drew)); exact HO_5.out⟩, ⟨by repeat (first | (with_reducible first | exact HB.out | apply below_alloc | apply pw_below_drewN | apply below_drew1) | exact HB.out)⟩⟩
                  · rw [if_neg c12] at H
                    exact absurd H (by simp)
                · rw [if_neg c11] at H
                  exact absurd H (by simp)
              · rw [if_neg c10] at H
                exact absurd H (by simp)
          · rw [if_neg c7] at H
            exact absurd H (by simp)
        · rw [if_neg c6] at H
          have c6b0 : decide (x7_1 < a1) = false := decide_eq_false c6
          clear c6
          obtain rfl := Option.some.inj H
          go_wp2
          go_ret
          exact ⟨by first | rfl | (simp [errW_none, errW_some] <;> rfl) | (simp [*, errW_none, errW_some] <;> rfl), by repeat (first | (with_reducible first | exact HB.out | apply below_alloc | apply pw_below_drewN | apply below_drew1) | exact HB.out)⟩
      · rw [if_neg c5] at H
        have c5b0 : decide (x7_1 < (l0.length : Int)) = false := decide_eq_false c5
        clear c5
        obtain rfl := Option.some.inj H
        go_wp2
        go_ret
        exact ⟨by first | rfl | (simp [errW_none, errW_some] <;> rfl) | (simp [*, errW_none, errW_some] <;> rfl), by repeat (first | (with_reducible first | exact HB.out | apply below_alloc | apply pw_below_drewN | apply below_drew1) | exact HB.out)⟩

end Go.Proofs.YtmjdjpelhhibgaaDoor.R1
