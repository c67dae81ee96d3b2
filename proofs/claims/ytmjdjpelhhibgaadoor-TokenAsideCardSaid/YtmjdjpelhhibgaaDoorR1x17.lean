-- written by wip/gen.py (this session's own driver of the kit's printer); Lean checks it
import Derived.Test.YtmjdjpelhhibgaaDoorR1x0
import Derived.Test.YtmjdjpelhhibgaaDoorR1x8
import Derived.Test.YtmjdjpelhhibgaaDoorR1x10
namespace Go.Proofs.YtmjdjpelhhibgaaDoor.R1
open Go.Proofs.YtmjdjpelhhibgaaDoor.Giv
open Go.RowKit Go.Proofs.YtmjdjpelhhibgaaDoorW.PrintWords Go.Proofs.YtmjdjpelhhibgaaDoorW.PrintLast Go.Proofs.YtmjdjpelhhibgaaDoorW.PrintMore
attribute [local go_sem] max2_int min2_int max_two min_two max_three min_three max_four min_four   -- for this text's walks alone
set_option linter.unusedVariables false
set_option linter.unusedSimpArgs false

/-! ### brackenlaw10_TokenAside: function 7 -/
mutual
def brackenlaw10_TokenAside.j0 : Nat → ByteArray → Bool → Bool → Bool → Option (Bool)
 | 0, _, _, _, _ => none
 | k + 1, x0, x3, x4, x5 => brackenlaw10_TokenAside.l0 k x0 x3 x4 x5 0
def brackenlaw10_TokenAside.l0 : Nat → ByteArray → Bool → Bool → Bool → Int → Option (Bool)
 | 0, _, _, _, _, _ => none
 | k + 1, x0, x3, x4, x5, x6 => if (wrap64 (x6 + 1)) < (x0.size : Int) then (if x3 = true then (if x4 = true then (if x5 = true then (brackenlaw10_TokenAside.l0 k x0 true true true (wrap64 (x6 + 1))) else (if (wrap64 (x6 + 2)) < (x0.size : Int) then (if 0 ≤ x6 then (if x6 ≤ (wrap64 (x6 + 3)) then (if (wrap64 (x6 + 3)) ≤ (x0.size : Int) then (brackenlaw10_TokenAside.l0 k x0 true true ((x0.extract (x6 : Int).toNat ((wrap64 (x6 + 3)) : Int).toNat).toList == ([93, 93, 62] : List UInt8)) (wrap64 (x6 + 1))) else (none)) else (none)) else (none)) else (brackenlaw10_TokenAside.l0 k x0 true true false (wrap64 (x6 + 1))))) else (if 0 ≤ x6 then (if x6 ≤ (wrap64 (x6 + 2)) then (if (wrap64 (x6 + 2)) ≤ (x0.size : Int) then (if x5 = true then (brackenlaw10_TokenAside.l0 k x0 true ((x0.extract (x6 : Int).toNat ((wrap64 (x6 + 2)) : Int).toNat).toList == ([63, 62] : List UInt8)) true (wrap64 (x6 + 1))) else (if (wrap64 (x6 + 2)) < (x0.size : Int) then (if x6 ≤ (wrap64 (x6 + 3)) then (if (wrap64 (x6 + 3)) ≤ (x0.size : Int) then (brackenlaw10_TokenAside.l0 k x0 true ((x0.extract (x6 : Int).toNat ((wrap64 (x6 + 2)) : Int).toNat).toList == ([63, 62] : List UInt8)) ((x0.extract (x6 : Int).toNat ((wrap64 (x6 + 3)) : Int).toNat).toList == ([93, 93, 62] : List UInt8)) (wrap64 (x6 + 1))) else (none)) else (none)) else (brackenlaw10_TokenAside.l0 k x0 true ((x0.extract (x6 : Int).toNat ((wrap64 (x6 + 2)) : Int).toNat).toList == ([63, 62] : List UInt8)) false (wrap64 (x6 + 1))))) else (none)) else (none)) else (none))) else (if 0 ≤ x6 then (if x6 ≤ (wrap64 (x6 + 2)) then (if (wrap64 (x6 + 2)) ≤ (x0.size : Int) then (if x4 = true then (if x5 = true then (brackenlaw10_TokenAside.l0 k x0 ((x0.extract (x6 : Int).toNat ((wrap64 (x6 + 2)) : Int).toNat).toList == ([45, 45] : List UInt8)) true true (wrap64 (x6 + 1))) else (if (wrap64 (x6 + 2)) < (x0.size : Int) then (if x6 ≤ (wrap64 (x6 + 3)) then (if (wrap64 (x6 + 3)) ≤ (x0.size : Int) then (brackenlaw10_TokenAside.l0 k x0 ((x0.extract (x6 : Int).toNat ((wrap64 (x6 + 2)) : Int).toNat).toList == ([45, 45] : List UInt8)) true ((x0.extract (x6 : Int).toNat ((wrap64 (x6 + 3)) : Int).toNat).toList == ([93, 93, 62] : List UInt8)) (wrap64 (x6 + 1))) else (none)) else (none)) else (brackenlaw10_TokenAside.l0 k x0 ((x0.extract (x6 : Int).toNat ((wrap64 (x6 + 2)) : Int).toNat).toList == ([45, 45] : List UInt8)) true false (wrap64 (x6 + 1))))) else (if x5 = true then (brackenlaw10_TokenAside.l0 k x0 ((x0.extract (x6 : Int).toNat ((wrap64 (x6 + 2)) : Int).toNat).toList == ([45, 45] : List UInt8)) ((x0.extract (x6 : Int).toNat ((wrap64 (x6 + 2)) : Int).toNat).toList == ([63, 62] : List UInt8)) true (wrap64 (x6 + 1))) else (if (wrap64 (x6 + 2)) < (x0.size : Int) then (if x6 ≤ (wrap64 (x6 + 3)) then (if (wrap64 (x6 + 3)) ≤ (x0.size : Int) then (brackenlaw10_TokenAside.l0 k x0 ((x0.extract (x6 : Int).toNat ((wrap64 (x6 + 2)) : Int).toNat).toList == ([45, 45] : List UInt8)) ((x0.extract (x6 : Int).toNat ((wrap64 (x6 + 2)) : Int).toNat).toList == ([63, 62] : List UInt8)) ((x0.extract (x6 : Int).toNat ((wrap64 (x6 + 3)) : Int).toNat).toList == ([93, 93, 62] : List UInt8)) (wrap64 (x6 + 1))) else (none)) else (none)) else (brackenlaw10_TokenAside.l0 k x0 ((x0.extract (x6 : Int).toNat ((wrap64 (x6 + 2)) : Int).toNat).toList == ([45, 45] : List UInt8)) ((x0.extract (x6 : Int).toNat ((wrap64 (x6 + 2)) : Int).toNat).toList == ([63, 62] : List UInt8)) false (wrap64 (x6 + 1)))))) else (none)) else (none)) else (none))) else (if 4 + x0.size ≤ 9223372036854775807 then (if 4 + x0.size + 3 ≤ 9223372036854775807 then ((token_Next.f k (((⟨#[60, 33, 45, 45]⟩ : ByteArray) ++ x0) ++ (⟨#[45, 45, 62]⟩ : ByteArray)) 0).bind fun bt453 => (if 5 + x0.size ≤ 9223372036854775807 then (if 5 + x0.size + 2 ≤ 9223372036854775807 then ((token_Next.f k (((⟨#[60, 63, 113, 32, 120]⟩ : ByteArray) ++ x0) ++ (⟨#[63, 62]⟩ : ByteArray)) 0).bind fun bt463 => (if 9 + x0.size ≤ 9223372036854775807 then (if 9 + x0.size + 3 ≤ 9223372036854775807 then ((token_Next.f k (((⟨#[60, 33, 91, 67, 68, 65, 84, 65, 91]⟩ : ByteArray) ++ x0) ++ (⟨#[93, 93, 62]⟩ : ByteArray)) 0).bind fun bt473 => (if x3 = true then (if bt453.2.2.2.2.2.2 = 0 then (brackenlaw10_TokenAside.j2 k x0 x4 x5 bt463.2.2.2.2.2.1 bt463.2.2.2.2.2.2 bt473.2.2.2.2.2.1 bt473.2.2.2.2.2.2 (bt453.2.2.1.toList == x0.toList) bt463.1 bt463.2.1 bt463.2.2.1 bt463.2.2.2.1 bt463.2.2.2.2.1 bt473.1 bt473.2.1 bt473.2.2.1 bt473.2.2.2.1 bt473.2.2.2.2.1) else (brackenlaw10_TokenAside.j2 k x0 x4 x5 bt463.2.2.2.2.2.1 bt463.2.2.2.2.2.2 bt473.2.2.2.2.2.1 bt473.2.2.2.2.2.2 false bt463.1 bt463.2.1 bt463.2.2.1 bt463.2.2.2.1 bt463.2.2.2.2.1 bt473.1 bt473.2.1 bt473.2.2.1 bt473.2.2.2.1 bt473.2.2.2.2.1)) else (if bt453.2.2.2.2.2.2 = 0 then (if bt453.2.2.1.toList = x0.toList then (if bt453.2.2.2.2.2.1 = (wrap64 ((x0.size : Int) + 7)) then (brackenlaw10_TokenAside.j2 k x0 x4 x5 bt463.2.2.2.2.2.1 bt463.2.2.2.2.2.2 bt473.2.2.2.2.2.1 bt473.2.2.2.2.2.2 false bt463.1 bt463.2.1 bt463.2.2.1 bt463.2.2.2.1 bt463.2.2.2.2.1 bt473.1 bt473.2.1 bt473.2.2.1 bt473.2.2.2.1 bt473.2.2.2.2.1) else (brackenlaw10_TokenAside.j2 k x0 x4 x5 bt463.2.2.2.2.2.1 bt463.2.2.2.2.2.2 bt473.2.2.2.2.2.1 bt473.2.2.2.2.2.2 true bt463.1 bt463.2.1 bt463.2.2.1 bt463.2.2.2.1 bt463.2.2.2.2.1 bt473.1 bt473.2.1 bt473.2.2.1 bt473.2.2.2.1 bt473.2.2.2.2.1)) else (brackenlaw10_TokenAside.j2 k x0 x4 x5 bt463.2.2.2.2.2.1 bt463.2.2.2.2.2.2 bt473.2.2.2.2.2.1 bt473.2.2.2.2.2.2 true bt463.1 bt463.2.1 bt463.2.2.1 bt463.2.2.2.1 bt463.2.2.2.2.1 bt473.1 bt473.2.1 bt473.2.2.1 bt473.2.2.2.1 bt473.2.2.2.2.1)) else (brackenlaw10_TokenAside.j2 k x0 x4 x5 bt463.2.2.2.2.2.1 bt463.2.2.2.2.2.2 bt473.2.2.2.2.2.1 bt473.2.2.2.2.2.2 true bt463.1 bt463.2.1 bt463.2.2.1 bt463.2.2.2.1 bt463.2.2.2.2.1 bt473.1 bt473.2.1 bt473.2.2.1 bt473.2.2.2.1 bt473.2.2.2.2.1)))) else (none)) else (none))) else (none)) else (none))) else (none)) else (none))
def brackenlaw10_TokenAside.j2 : Nat → ByteArray → Bool → Bool → Int → Int → Int → Int → Bool → Int → ByteArray → ByteArray → List (S42) → Bool → Int → ByteArray → ByteArray → List (S42) → Bool → Option (Bool)
 | 0, _, _, _, _, _, _, _, _, _, _, _, _, _, _, _, _, _, _ => none
 | k + 1, x0, x4, x5, x11, x12, x14, x15, x127, x473000, x473001, x473002, x473003, x473004, x483000, x483001, x483002, x483003, x483004 => if x127 = true then (some false) else (if x4 = true then ((brackenlaw10_told.f k).bind fun t483 => (if t483 = true then (if x5 = true then (some true) else (if (x0.size : Int) > 0 then (if 0 ≤ (wrap64 ((x0.size : Int) - 1)) then (if (wrap64 ((x0.size : Int) - 1)) < (x0.size : Int) then (if (bt x0 (wrap64 ((x0.size : Int) - 1))) = 93 then (some true) else (if x15 = 0 then (if x483002.toList = x0.toList then (some (x14 == (wrap64 ((x0.size : Int) + 12)))) else (some false)) else (some false))) else (none)) else (none)) else (if x15 = 0 then (if x483002.toList = x0.toList then (some (x14 == (wrap64 ((x0.size : Int) + 12)))) else (some false)) else (some false)))) else (some false))) else (if (x0.size : Int) = 0 then (if x12 = 0 then (if 1 + x0.size ≤ 9223372036854775807 then (if x473002.toList = ((⟨#[120]⟩ : ByteArray) ++ x0).toList then (if x11 = (wrap64 ((x0.size : Int) + 7)) then ((brackenlaw10_told.f k).bind fun t484 => (if t484 = true then (if x5 = true then (some true) else (if (x0.size : Int) > 0 then (if 0 ≤ (wrap64 ((x0.size : Int) - 1)) then (if (wrap64 ((x0.size : Int) - 1)) < (x0.size : Int) then (if (bt x0 (wrap64 ((x0.size : Int) - 1))) = 93 then (some true) else (if x15 = 0 then (if x483002.toList = x0.toList then (some (x14 == (wrap64 ((x0.size : Int) + 12)))) else (some false)) else (some false))) else (none)) else (none)) else (if x15 = 0 then (if x483002.toList = x0.toList then (some (x14 == (wrap64 ((x0.size : Int) + 12)))) else (some false)) else (some false)))) else (some false))) else (some false)) else (some false)) else (none)) else (some false)) else (if 0 ≤ (wrap64 ((x0.size : Int) - 1)) then (if (wrap64 ((x0.size : Int) - 1)) < (x0.size : Int) then (if (bt x0 (wrap64 ((x0.size : Int) - 1))) = 63 then ((brackenlaw10_told.f k).bind fun t485 => (if t485 = true then (if x5 = true then (some true) else (if (x0.size : Int) > 0 then (if (bt x0 (wrap64 ((x0.size : Int) - 1))) = 93 then (some true) else (if x15 = 0 then (if x483002.toList = x0.toList then (some (x14 == (wrap64 ((x0.size : Int) + 12)))) else (some false)) else (some false))) else (if x15 = 0 then (if x483002.toList = x0.toList then (some (x14 == (wrap64 ((x0.size : Int) + 12)))) else (some false)) else (some false)))) else (some false))) else (if x12 = 0 then (if 1 + x0.size ≤ 9223372036854775807 then (if x473002.toList = ((⟨#[120]⟩ : ByteArray) ++ x0).toList then (if x11 = (wrap64 ((x0.size : Int) + 7)) then ((brackenlaw10_told.f k).bind fun t486 => (if t486 = true then (if x5 = true then (some true) else (if (x0.size : Int) > 0 then (if (bt x0 (wrap64 ((x0.size : Int) - 1))) = 93 then (some true) else (if x15 = 0 then (if x483002.toList = x0.toList then (some (x14 == (wrap64 ((x0.size : Int) + 12)))) else (some false)) else (some false))) else (if x15 = 0 then (if x483002.toList = x0.toList then (some (x14 == (wrap64 ((x0.size : Int) + 12)))) else (some false)) else (some false)))) else (some false))) else (some false)) else (some false)) else (none)) else (some false))) else (none)) else (none))))
end
def brackenlaw10_TokenAside.f (k : Nat) (a0 : ByteArray) : Option (Bool) := if (a0.size : Int) > 60 then ((brackenlaw10_told.f k).bind fun t452 => (some t452)) else (if (a0.size : Int) > 0 then (if 0 ≤ (wrap64 ((a0.size : Int) - 1)) then (if (wrap64 ((a0.size : Int) - 1)) < (a0.size : Int) then (brackenlaw10_TokenAside.j0 k a0 ((bt a0 (wrap64 ((a0.size : Int) - 1))) == 45) false false) else (none)) else (none)) else (brackenlaw10_TokenAside.j0 k a0 false false false))
theorem brackenlaw10_TokenAside.mono_l : ∀ k, (∀ y0 y1 y2 y3, LeO (brackenlaw10_TokenAside.j0 k y0 y1 y2 y3) (brackenlaw10_TokenAside.j0 (k + 1) y0 y1 y2 y3)) ∧ (∀ y0 y1 y2 y3 y4, LeO (brackenlaw10_TokenAside.l0 k y0 y1 y2 y3 y4) (brackenlaw10_TokenAside.l0 (k + 1) y0 y1 y2 y3 y4)) ∧ (∀ y0 y1 y2 y3 y4 y5 y6 y7 y8 y9 y10 y11 y12 y13 y14 y15 y16 y17, LeO (brackenlaw10_TokenAside.j2 k y0 y1 y2 y3 y4 y5 y6 y7 y8 y9 y10 y11 y12 y13 y14 y15 y16 y17) (brackenlaw10_TokenAside.j2 (k + 1) y0 y1 y2 y3 y4 y5 y6 y7 y8 y9 y10 y11 y12 y13 y14 y15 y16 y17))
 | 0 => ⟨fun _ _ _ _ r h => by simp [brackenlaw10_TokenAside.j0] at h, fun _ _ _ _ _ r h => by simp [brackenlaw10_TokenAside.l0] at h, fun _ _ _ _ _ _ _ _ _ _ _ _ _ _ _ _ _ _ r h => by simp [brackenlaw10_TokenAside.j2] at h⟩
 | k + 1 => by
  obtain ⟨ih0, ih1, ih2⟩ := brackenlaw10_TokenAside.mono_l k
  refine ⟨?_, ?_, ?_⟩
  ·intro y0 y1 y2 y3
   unfold brackenlaw10_TokenAside.j0
   repeat' first
   | (with_reducible exact ih0 _ _ _ _)
   | (with_reducible exact ih1 _ _ _ _ _)
   | (with_reducible exact ih2 _ _ _ _ _ _ _ _ _ _ _ _ _ _ _ _ _ _)
   | (with_reducible exact brackenlaw10_told.mono _)
   | (with_reducible exact token_Next.mono _ _ _)
   | (with_reducible exact LeO.refl _)
   | (with_reducible exact LeO.none _)
   | (with_reducible refine LeO.ite ?_ ?_)
   | (with_reducible refine LeO.bind ?_ (fun _ => ?_))
   | exact ih0 _ _ _ _
   | exact ih1 _ _ _ _ _
   | exact ih2 _ _ _ _ _ _ _ _ _ _ _ _ _ _ _ _ _ _
   | exact brackenlaw10_told.mono _
   | exact token_Next.mono _ _ _
   | exact LeO.none _
   | refine LeO.ite ?_ ?_
   | refine LeO.bind ?_ (fun _ => ?_)
  ·intro y0 y1 y2 y3 y4
   unfold brackenlaw10_TokenAside.l0
   repeat' first
   | (with_reducible exact ih0 _ _ _ _)
   | (with_reducible exact ih1 _ _ _ _ _)
   | (with_reducible exact ih2 _ _ _ _ _ _ _ _ _ _ _ _ _ _ _ _ _ _)
   | (with_reducible exact brackenlaw10_told.mono _)
   | (with_reducible exact token_Next.mono _ _ _)
   | (with_reducible exact LeO.refl _)
   | (with_reducible exact LeO.none _)
   | (with_reducible refine LeO.ite ?_ ?_)
   | (with_reducible refine LeO.bind ?_ (fun _ => ?_))
   | exact ih0 _ _ _ _
   | exact ih1 _ _ _ _ _
   | exact ih2 _ _ _ _ _ _ _ _ _ _ _ _ _ _ _ _ _ _
   | exact brackenlaw10_told.mono _
   | exact token_Next.mono _ _ _
   | exact LeO.none _
   | refine LeO.ite ?_ ?_
   | refine LeO.bind ?_ (fun _ => ?_)
  ·intro y0 y1 y2 y3 y4 y5 y6 y7 y8 y9 y10 y11 y12 y13 y14 y15 y16 y17
   unfold brackenlaw10_TokenAside.j2
   repeat' first
   | (with_reducible exact ih0 _ _ _ _)
   | (with_reducible exact ih1 _ _ _ _ _)
   | (with_reducible exact ih2 _ _ _ _ _ _ _ _ _ _ _ _ _ _ _ _ _ _)
   | (with_reducible exact brackenlaw10_told.mono _)
   | (with_reducible exact token_Next.mono _ _ _)
   | (with_reducible exact LeO.refl _)
   | (with_reducible exact LeO.none _)
   | (with_reducible refine LeO.ite ?_ ?_)
   | (with_reducible refine LeO.bind ?_ (fun _ => ?_))
   | exact ih0 _ _ _ _
   | exact ih1 _ _ _ _ _
   | exact ih2 _ _ _ _ _ _ _ _ _ _ _ _ _ _ _ _ _ _
   | exact brackenlaw10_told.mono _
   | exact token_Next.mono _ _ _
   | exact LeO.none _
   | refine LeO.ite ?_ ?_
   | refine LeO.bind ?_ (fun _ => ?_)
theorem brackenlaw10_TokenAside.mono : ∀ a0 k, LeO (brackenlaw10_TokenAside.f k a0) (brackenlaw10_TokenAside.f (k + 1) a0) := by
 intro a0 k
 obtain ⟨ih0, ih1, ih2⟩ := brackenlaw10_TokenAside.mono_l k
 unfold brackenlaw10_TokenAside.f
 repeat' first
   | (with_reducible exact ih0 _ _ _ _)
   | (with_reducible exact ih1 _ _ _ _ _)
   | (with_reducible exact ih2 _ _ _ _ _ _ _ _ _ _ _ _ _ _ _ _ _ _)
   | (with_reducible exact brackenlaw10_told.mono _)
   | (with_reducible exact token_Next.mono _ _ _)
   | (with_reducible exact LeO.refl _)
   | (with_reducible exact LeO.none _)
   | (with_reducible refine LeO.ite ?_ ?_)
   | (with_reducible refine LeO.bind ?_ (fun _ => ?_))
   | exact ih0 _ _ _ _
   | exact ih1 _ _ _ _ _
   | exact ih2 _ _ _ _ _ _ _ _ _ _ _ _ _ _ _ _ _ _
   | exact brackenlaw10_told.mono _
   | exact token_Next.mono _ _ _
   | exact LeO.none _
   | refine LeO.ite ?_ ?_
   | refine LeO.bind ?_ (fun _ => ?_)
set_option maxHeartbeats 8000000 in
set_option maxRecDepth 100000 in
theorem brackenlaw10_TokenAside.calls (k : Nat) (a0 : ByteArray) (r : Bool) (w : World) (hE : Env w) (hTrue : Hid (r = true)) (h : brackenlaw10_TokenAside.f k a0 = some r) :
  Calls Tryd.prog 7 #[.string a0] w fun e w' => e = .returned (.bool r) ∧ Below w.heap.size w w' := by
 have hu27 := Tryd.underlying27
 have HE := Aside0.mk hE
 clear hE
 have HB := Aside0.mk (Below.refl w.heap.size w)
 have H : (if (a0.size : Int) > 60 then ((brackenlaw10_told.f k).bind fun t452 => (some t452)) else (if (a0.size : Int) > 0 then (if 0 ≤ (wrap64 ((a0.size : Int) - 1)) then (if (wrap64 ((a0.size : Int) - 1)) < (a0.size : Int) then (brackenlaw10_TokenAside.j0 k a0 ((bt a0 (wrap64 ((a0.size : Int) - 1))) == 45) false false) else (none)) else (none)) else (brackenlaw10_TokenAside.j0 k a0 false false false))) = some r := h
 clear h
 by_cases c2 : (a0.size : Int) > 60
 ·rw [if_pos c2] at H
  have c2b0 : decide (60 < (a0.size : Int)) = true := decide_eq_true c2
  have c2b1 : decide (60 < a0.size) = true := decide_eq_true (by omega)
  clear c2
  replace H := Option.bind_eq_some_iff.mp H
  obtain ⟨t452, A30, H⟩ := H
  replace H : (some t452) = some r := H
  have A3 := Aside0.mk A30
  clear A30
  obtain rfl := Option.some.inj H
  go_enter Tryd.func7, Tryd.ntmps7
  go_wp2_with (first | (go_at_call 14; (with_reducible refine (brackenlaw10_told.calls k  t452 _ (Env.below HE.out (by repeat (first | (with_reducible first | exact HB.out | apply below_alloc | apply pw_below_drewN | apply below_drew1) | exact HB.out))) hTrue A3.out).mono ?_); rintro e w4 ⟨rfl, hb⟩; have n0_ := Aside0.mk (below_step (by repeat (first | (with_reducible first | exact HB.out | apply below_alloc | apply pw_below_drewN | apply below_drew1) | exact HB.out)) hb); clear HB; have HB := n0_; clear n0_; (try clear hb); (try clear hb2); (try clear hk); (try clear hi)))
  go_ret
  exact ⟨by first | rfl | (simp [errW_none, errW_some] <;> rfl) | (simp [*, errW_none, errW_some] <;> rfl), by repeat (first | (with_reducible first | exact HB.out | apply below_alloc | apply pw_below_drewN | apply below_drew1) | exact HB.out)⟩
 ·rw [if_neg c2] at H
  have c2b0 : decide (60 < (a0.size : Int)) = false := decide_eq_false c2
  have c2b1 : decide (60 < a0.size) = false := decide_eq_false (by omega)
  clear c2
  have HC5 := Aside0.mk H
  clear H
  go_enter Tryd.func7, Tryd.ntmps7
  go_upto_region 3 with (fail)
  go_cut [3, 4, 5] (fun v3 v4 v5 wc => ∃ (kq : Nat) (x3_4 : Bool) (x4_4 : Bool) (x5_4 : Bool), v3 = .bool x3_4 ∧ v4 = .bool x4_4 ∧ v5 = .bool x5_4 ∧ Aside0 (brackenlaw10_TokenAside.j0 kq a0 x3_4 x4_4 x5_4 = some r) ∧ Aside0 (kq ≤ k) ∧ Aside0 (Below w.heap.size w wc))
  case first =>
   have H := HC5.out
   clear HC5
   by_cases c6 : (a0.size : Int) > 0
   ·rw [if_pos c6] at H
    have c6b0 : decide (0 < (a0.size : Int)) = true := decide_eq_true c6
    have c6b1 : decide (0 < a0.size) = true := decide_eq_true (by omega)
    clear c6
    (first | rw [c6b0] | (simp only [i64_w, i32_w]; rw [c6b0]) | skip)
    obtain ⟨ji7, hji7⟩ : ∃ j_ : Int, (wrap64 ((a0.size : Int) - 1)) = j_ := ⟨_, rfl⟩
    replace H : (if 0 ≤ (ji7) then (if (ji7) < (a0.size : Int) then (brackenlaw10_TokenAside.j0 k a0 ((bt a0 (ji7)) == 45) false false) else (none)) else (none)) = some r := by first | (rw [hji7] at H; exact H) | (simp only [hji7] at H ⊢; exact H)
    have hji7w : (IntKind.i64.wrap ((a0.size : Int) - 1)) = ji7 := (i64_w _).trans hji7
    by_cases c8 : 0 ≤ (ji7)
    ·rw [if_pos c8] at H
     have c8b0 : decide (0 ≤ (ji7)) = true := decide_eq_true c8
     clear c8
     by_cases c9 : (ji7) < (a0.size : Int)
     ·rw [if_pos c9] at H
      have c9b0 : decide ((ji7) < (a0.size : Int)) = true := decide_eq_true c9
      clear c9
      have H' := Aside0.mk H
      clear H
      have p10 : 0 ≤ ((ji7) : Int) := of_decide_eq_true (by first | (with_reducible assumption) | assumption)
      have q10 : (ji7) < (a0.size : Int) := of_decide_eq_true (by first | (with_reducible assumption) | assumption)
      have hx10 := bt_at a0 (ji7)
      replace p10 := eq_true p10
      replace q10 := eq_true q10
      go_wp2
      go_meet
      case rel => exact ⟨_, (((bt a0 (ji7)) == 45)), (false), (false), (by first | rfl | (simp; done) | (simp only [← hji7] <;> (first | rfl | simp)) | (simp [*]; done)), (by first | rfl | (simp; done) | (simp [*]; done)), (by first | rfl | (simp; done) | (simp [*]; done)), H', ⟨by first | omega | exact Nat.le_refl _⟩, ⟨by repeat (first | (with_reducible first | exact HB.out | apply below_alloc | apply pw_below_drewN | apply below_drew1) | exact HB.out)⟩⟩
     ·rw [if_neg c9] at H
      exact absurd H (by simp)
    ·rw [if_neg c8] at H
     exact absurd H (by simp)
   ·rw [if_neg c6] at H
    have c6b0 : decide (0 < (a0.size : Int)) = false := decide_eq_false c6
    have c6b1 : decide (0 < a0.size) = false := decide_eq_false (by omega)
    clear c6
    (first | rw [c6b0] | (simp only [i64_w, i32_w]; rw [c6b0]) | skip)
    have H' := Aside0.mk H
    clear H
    go_wp2
    go_meet
    case rel => exact ⟨_, (false), (false), (false), (by first | rfl | (simp; done) | (simp [*]; done)), (by first | rfl | (simp; done) | (simp [*]; done)), (by first | rfl | (simp; done) | (simp [*]; done)), H', ⟨by first | omega | exact Nat.le_refl _⟩, ⟨by repeat (first | (with_reducible first | exact HB.out | apply below_alloc | apply pw_below_drewN | apply below_drew1) | exact HB.out)⟩⟩
  case rest =>
   clear HC5
   try clear p1
   try clear q1
   try clear hx1
   try clear c2
   try clear c2b0
   try clear c2b1
   try clear p2
   try clear c6
   try clear c6b0
   try clear c6b1
   try clear p6
   try clear c7
   try clear c8
   try clear c8b0
   try clear c9
   try clear c9b0
   try clear p10
   try clear q10
   try clear hx10
   try clear p10
   try clear q10
   obtain ⟨kq, x3_4, x4_4, x5_4, rfl, rfl, rfl, HA, HJ4, HB⟩ := hcut
   cases kq with
   | zero => exact absurd HA.out (by simp [brackenlaw10_TokenAside.j0])
   | succ kj4 =>
    have H := HA.out
    clear HA
    simp only [brackenlaw10_TokenAside.j0] at H
    have H' := Aside0.mk H
    clear H
    go_wp2
    go_loopg [3, 4, 5, 6] kj4 (fun kq v3 v4 v5 v6 w' => ∃ (x3_2 : Bool) (x4_2 : Bool) (x5_2 : Bool) (x6_2 : Int), v3 = .bool x3_2 ∧ v4 = .bool x4_2 ∧ v5 = .bool x5_2 ∧ v6 = .int .i64 x6_2 ∧ Aside0 (brackenlaw10_TokenAside.l0 kq a0 x3_2 x4_2 x5_2 x6_2 = some r) ∧ Aside0 (kq ≤ kj4) ∧ Aside0 (Below w.heap.size w w'))
    case atStart => exact ⟨(x3_4), (x4_4), (x5_4), (0), (by first | rfl | (simp; done) | (simp [*]; done)), (by first | rfl | (simp; done) | (simp [*]; done)), (by first | rfl | (simp; done) | (simp [*]; done)), (by first | rfl | (simp; done) | (simp [*]; done)), H', ⟨Nat.le_refl _⟩, ⟨by repeat (first | (with_reducible first | exact HB.out | apply below_alloc | apply pw_below_drewN | apply below_drew1) | exact HB.out)⟩⟩
    case round =>
     clear H'
     try clear p1
     try clear q1
     try clear hx1
     try clear c2
     try clear c2b0
     try clear c2b1
     try clear p2
     try clear c6
     try clear c6b0
     try clear c6b1
     try clear p6
     try clear c7
     try clear c8
     try clear c8b0
     try clear c9
     try clear c9b0
     try clear p10
     try clear q10
     try clear hx10
     try clear p1
     try clear p10
     try clear p2
     try clear p6
     try clear q1
     try clear q10
     obtain ⟨x3_2, x4_2, x5_2, x6_2, rfl, rfl, rfl, rfl, HA, HK2, HB⟩ := hrel
     cases gk with
     | zero => exact absurd HA.out (by simp [brackenlaw10_TokenAside.l0])
     | succ k2 =>
      have H := HA.out
      clear HA
      simp only [brackenlaw10_TokenAside.l0] at H
      by_cases c11 : (wrap64 (x6_2 + 1)) < (a0.size : Int)
      ·as_aux_lemma =>
       rw [if_pos c11] at H
       have c11b0 : decide ((wrap64 (x6_2 + 1)) < (a0.size : Int)) = true := decide_eq_true c11
       clear c11
       by_cases c12 : x3_2 = true
       ·as_aux_lemma =>
        subst c12
        rw [if_pos rfl] at H
        try dsimp only at H
        by_cases c13 : x4_2 = true
        ·as_aux_lemma =>
         subst c13
         rw [if_pos rfl] at H
         try dsimp only at H
         by_cases c14 : x5_2 = true
         ·as_aux_lemma =>
          subst c14
          rw [if_pos rfl] at H
          try dsimp only at H
          have H' := Aside0.mk H
          clear H
          go_wp2
          go_roundg k2
          case measure => have := HJ4.out; have := HK2.out; omega
          case rel => exact ⟨(true), (true), (true), (wrap64 (x6_2 + 1)), (by first | rfl | (simp; done) | (simp [*]; done)), (by first | rfl | (simp; done) | (simp [*]; done)), (by first | rfl | (simp; done) | (simp [*]; done)), (by first | rfl | (simp; done) | (simp [*]; done)), H', ⟨by have := HJ4.out; have := HK2.out; omega⟩, ⟨by repeat (first | (with_reducible first | exact HB.out | apply below_alloc | apply pw_below_drewN | apply below_drew1) | exact HB.out)⟩⟩
         ·as_aux_lemma =>
          replace c14 := Bool.eq_false_iff.mpr c14
          subst c14
          rw [if_neg (show ¬ (false = true) by decide)] at H
          try dsimp only at H
          by_cases c15 : (wrap64 (x6_2 + 2)) < (a0.size : Int)
          ·rw [if_pos c15] at H
           have c15b0 : decide ((wrap64 (x6_2 + 2)) < (a0.size : Int)) = true := decide_eq_true c15
           clear c15
           by_cases c16 : 0 ≤ x6_2
           ·rw [if_pos c16] at H
            have c16b0 := eq_true c16
            have c16b1 : decide (0 ≤ x6_2) = true := decide_eq_true c16
            clear c16
            by_cases c17 : x6_2 ≤ (wrap64 (x6_2 + 3))
            ·as_aux_lemma =>
             rw [if_pos c17] at H
             have c17b0 := eq_true c17
             have c17b1 : decide (x6_2 ≤ (wrap64 (x6_2 + 3))) = true := decide_eq_true c17
             by_cases c18 : (wrap64 (x6_2 + 3)) ≤ (a0.size : Int)
             ·rw [if_pos c18] at H
              have c18b0 := eq_true c18
              have c18b1 : decide ((wrap64 (x6_2 + 3)) ≤ (a0.size : Int)) = true := decide_eq_true c18
              have H' := Aside0.mk H
              clear H
              go_wp2
              go_roundg k2
              case measure => have := HJ4.out; have := HK2.out; omega
              case rel => exact ⟨(true), (true), (((a0.extract (x6_2 : Int).toNat ((wrap64 (x6_2 + 3)) : Int).toNat).toList == ([93, 93, 62] : List UInt8))), (wrap64 (x6_2 + 1)), (by first | rfl | (simp; done) | (simp [*]; done)), (by first | rfl | (simp; done) | (simp [*]; done)), (by first | rfl | (simp; done) | (simp [*]; done)), (by first | rfl | (simp; done) | (simp [*]; done)), H', ⟨by have := HJ4.out; have := HK2.out; omega⟩, ⟨by repeat (first | (with_reducible first | exact HB.out | apply below_alloc | apply pw_below_drewN | apply below_drew1) | exact HB.out)⟩⟩
             ·rw [if_neg c18] at H
              exact absurd H (by simp)
            ·rw [if_neg c17] at H
             exact absurd H (by simp)
           ·rw [if_neg c16] at H
            exact absurd H (by simp)
          ·rw [if_neg c15] at H
           have c15b0 : decide ((wrap64 (x6_2 + 2)) < (a0.size : Int)) = false := decide_eq_false c15
           clear c15
           have H' := Aside0.mk H
           clear H
           go_wp2
           go_roundg k2
           case measure => have := HJ4.out; have := HK2.out; omega
           case rel => exact ⟨(true), (true), (false), (wrap64 (x6_2 + 1)), (by first | rfl | (simp; done) | (simp [*]; done)), (by first | rfl | (simp; done) | (simp [*]; done)), (by first | rfl | (simp; done) | (simp [*]; done)), (by first | rfl | (simp; done) | (simp [*]; done)), H', ⟨by have := HJ4.out; have := HK2.out; omega⟩, ⟨by repeat (first | (with_reducible first | exact HB.out | apply below_alloc | apply pw_below_drewN | apply below_drew1) | exact HB.out)⟩⟩
        ·as_aux_lemma =>
         replace c13 := Bool.eq_false_iff.mpr c13
         subst c13
         rw [if_neg (show ¬ (false = true) by decide)] at H
         try dsimp only at H
         by_cases c19 : 0 ≤ x6_2
         ·as_aux_lemma =>
          rw [if_pos c19] at H
          have c19b0 := eq_true c19
          have c19b1 : decide (0 ≤ x6_2) = true := decide_eq_true c19
          clear c19
          by_cases c20 : x6_2 ≤ (wrap64 (x6_2 + 2))
          ·rw [if_pos c20] at H
           have c20b0 := eq_true c20
           have c20b1 : decide (x6_2 ≤ (wrap64 (x6_2 + 2))) = true := decide_eq_true c20
           by_cases c21 : (wrap64 (x6_2 + 2)) ≤ (a0.size : Int)
           ·rw [if_pos c21] at H
            have c21b0 := eq_true c21
            have c21b1 : decide ((wrap64 (x6_2 + 2)) ≤ (a0.size : Int)) = true := decide_eq_true c21
            by_cases c22 : x5_2 = true
            ·as_aux_lemma =>
             subst c22
             rw [if_pos rfl] at H
             try dsimp only at H
             have H' := Aside0.mk H
             clear H
             go_wp2
             go_roundg k2
             case measure => have := HJ4.out; have := HK2.out; omega
             case rel => exact ⟨(true), (((a0.extract (x6_2 : Int).toNat ((wrap64 (x6_2 + 2)) : Int).toNat).toList == ([63, 62] : List UInt8))), (true), (wrap64 (x6_2 + 1)), (by first | rfl | (simp; done) | (simp [*]; done)), (by first | rfl | (simp; done) | (simp [*]; done)), (by first | rfl | (simp; done) | (simp [*]; done)), (by first | rfl | (simp; done) | (simp [*]; done)), H', ⟨by have := HJ4.out; have := HK2.out; omega⟩, ⟨by repeat (first | (with_reducible first | exact HB.out | apply below_alloc | apply pw_below_drewN | apply below_drew1) | exact HB.out)⟩⟩
            ·as_aux_lemma =>
             replace c22 := Bool.eq_false_iff.mpr c22
             subst c22
             rw [if_neg (show ¬ (false = true) by decide)] at H
             try dsimp only at H
             by_cases c23 : (wrap64 (x6_2 + 2)) < (a0.size : Int)
             ·rw [if_pos c23] at H
              have c23b0 : decide ((wrap64 (x6_2 + 2)) < (a0.size : Int)) = true := decide_eq_true c23
              clear c23
              have c24b0 := eq_true (of_decide_eq_true (by first | (with_reducible assumption) | assumption) : 0 ≤ x6_2)
              by_cases c25 : x6_2 ≤ (wrap64 (x6_2 + 3))
              ·rw [if_pos c25] at H
               have c25b0 := eq_true c25
               have c25b1 : decide (x6_2 ≤ (wrap64 (x6_2 + 3))) = true := decide_eq_true c25
               by_cases c26 : (wrap64 (x6_2 + 3)) ≤ (a0.size : Int)
               ·as_aux_lemma =>
                rw [if_pos c26] at H
                have c26b0 := eq_true c26
                have c26b1 : decide ((wrap64 (x6_2 + 3)) ≤ (a0.size : Int)) = true := decide_eq_true c26
                have H' := Aside0.mk H
                clear H
                go_wp2
                go_roundg k2
                case measure => have := HJ4.out; have := HK2.out; omega
                case rel => exact ⟨(true), (((a0.extract (x6_2 : Int).toNat ((wrap64 (x6_2 + 2)) : Int).toNat).toList == ([63, 62] : List UInt8))), (((a0.extract (x6_2 : Int).toNat ((wrap64 (x6_2 + 3)) : Int).toNat).toList == ([93, 93, 62] : List UInt8))), (wrap64 (x6_2 + 1)), (by first | rfl | (simp; done) | (simp [*]; done)), (by first | rfl | (simp; done) | (simp [*]; done)), (by first | rfl | (simp; done) | (simp [*]; done)), (by first | rfl | (simp; done) | (simp [*]; done)), H', ⟨by have := HJ4.out; have := HK2.out; omega⟩, ⟨by repeat (first | (with_reducible first | exact HB.out | apply below_alloc | apply pw_below_drewN | apply below_drew1) | exact HB.out)⟩⟩
               ·rw [if_neg c26] at H
                exact absurd H (by simp)
              ·rw [if_neg c25] at H
               exact absurd H (by simp)
             ·rw [if_neg c23] at H
              have c23b0 : decide ((wrap64 (x6_2 + 2)) < (a0.size : Int)) = false := decide_eq_false c23
              clear c23
              have H' := Aside0.mk H
              clear H
              go_wp2
              go_roundg k2
              case measure => have := HJ4.out; have := HK2.out; omega
              case rel => exact ⟨(true), (((a0.extract (x6_2 : Int).toNat ((wrap64 (x6_2 + 2)) : Int).toNat).toList == ([63, 62] : List UInt8))), (false), (wrap64 (x6_2 + 1)), (by first | rfl | (simp; done) | (simp [*]; done)), (by first | rfl | (simp; done) | (simp [*]; done)), (by first | rfl | (simp; done) | (simp [*]; done)), (by first | rfl | (simp; done) | (simp [*]; done)), H', ⟨by have := HJ4.out; have := HK2.out; omega⟩, ⟨by repeat (first | (with_reducible first | exact HB.out | apply below_alloc | apply pw_below_drewN | apply below_drew1) | exact HB.out)⟩⟩
           ·rw [if_neg c21] at H
            exact absurd H (by simp)
          ·rw [if_neg c20] at H
           exact absurd H (by simp)
         ·rw [if_neg c19] at H
          exact absurd H (by simp)
       ·as_aux_lemma =>
        replace c12 := Bool.eq_false_iff.mpr c12
        subst c12
        rw [if_neg (show ¬ (false = true) by decide)] at H
        try dsimp only at H
        by_cases c27 : 0 ≤ x6_2
        ·rw [if_pos c27] at H
         have c27b0 := eq_true c27
         have c27b1 : decide (0 ≤ x6_2) = true := decide_eq_true c27
         clear c27
         by_cases c28 : x6_2 ≤ (wrap64 (x6_2 + 2))
         ·as_aux_lemma =>
          rw [if_pos c28] at H
          have c28b0 := eq_true c28
          have c28b1 : decide (x6_2 ≤ (wrap64 (x6_2 + 2))) = true := decide_eq_true c28
          by_cases c29 : (wrap64 (x6_2 + 2)) ≤ (a0.size : Int)
          ·rw [if_pos c29] at H
           have c29b0 := eq_true c29
           have c29b1 : decide ((wrap64 (x6_2 + 2)) ≤ (a0.size : Int)) = true := decide_eq_true c29
           by_cases c30 : x4_2 = true
           ·as_aux_lemma =>
            subst c30
            rw [if_pos rfl] at H
            try dsimp only at H
            by_cases c31 : x5_2 = true
            ·as_aux_lemma =>
             subst c31
             rw [if_pos rfl] at H
             try dsimp only at H
             have H' := Aside0.mk H
             clear H
             go_wp2
             go_roundg k2
             case measure => have := HJ4.out; have := HK2.out; omega
             case rel => exact ⟨(((a0.extract (x6_2 : Int).toNat ((wrap64 (x6_2 + 2)) : Int).toNat).toList == ([45, 45] : List UInt8))), (true), (true), (wrap64 (x6_2 + 1)), (by first | rfl | (simp; done) | (simp [*]; done)), (by first | rfl | (simp; done) | (simp [*]; done)), (by first | rfl | (simp; done) | (simp [*]; done)), (by first | rfl | (simp; done) | (simp [*]; done)), H', ⟨by have := HJ4.out; have := HK2.out; omega⟩, ⟨by repeat (first | (with_reducible first | exact HB.out | apply below_alloc | apply pw_below_drewN | apply below_drew1) | exact HB.out)⟩⟩
            ·as_aux_lemma =>
             replace c31 := Bool.eq_false_iff.mpr c31
             subst c31
             rw [if_neg (show ¬ (false = true) by decide)] at H
             try dsimp only at H
             by_cases c32 : (wrap64 (x6_2 + 2)) < (a0.size : Int)
             ·rw [if_pos c32] at H
              have c32b0 : decide ((wrap64 (x6_2 + 2)) < (a0.size : Int)) = true := decide_eq_true c32
              clear c32
              have c33b0 := eq_true (of_decide_eq_true (by first | (with_reducible assumption) | assumption) : 0 ≤ x6_2)
              by_cases c34 : x6_2 ≤ (wrap64 (x6_2 + 3))
              ·rw [if_pos c34] at H
               have c34b0 := eq_true c34
               have c34b1 : decide (x6_2 ≤ (wrap64 (x6_2 + 3))) = true := decide_eq_true c34
               by_cases c35 : (wrap64 (x6_2 + 3)) ≤ (a0.size : Int)
               ·as_aux_lemma =>
                rw [if_pos c35] at H
                have c35b0 := eq_true c35
                have c35b1 : decide ((wrap64 (x6_2 + 3)) ≤ (a0.size : Int)) = true := decide_eq_true c35
                have H' := Aside0.mk H
                clear H
                go_wp2
                go_roundg k2
                case measure => have := HJ4.out; have := HK2.out; omega
                case rel => exact ⟨(((a0.extract (x6_2 : Int).toNat ((wrap64 (x6_2 + 2)) : Int).toNat).toList == ([45, 45] : List UInt8))), (true), (((a0.extract (x6_2 : Int).toNat ((wrap64 (x6_2 + 3)) : Int).toNat).toList == ([93, 93, 62] : List UInt8))), (wrap64 (x6_2 + 1)), (by first | rfl | (simp; done) | (simp [*]; done)), (by first | rfl | (simp; done) | (simp [*]; done)), (by first | rfl | (simp; done) | (simp [*]; done)), (by first | rfl | (simp; done) | (simp [*]; done)), H', ⟨by have := HJ4.out; have := HK2.out; omega⟩, ⟨by repeat (first | (with_reducible first | exact HB.out | apply below_alloc | apply pw_below_drewN | apply below_drew1) | exact HB.out)⟩⟩
               ·rw [if_neg c35] at H
                exact absurd H (by simp)
              ·rw [if_neg c34] at H
               exact absurd H (by simp)
             ·rw [if_neg c32] at H
              have c32b0 : decide ((wrap64 (x6_2 + 2)) < (a0.size : Int)) = false := decide_eq_false c32
              clear c32
              have H' := Aside0.mk H
              clear H
              go_wp2
              go_roundg k2
              case measure => have := HJ4.out; have := HK2.out; omega
              case rel => exact ⟨(((a0.extract (x6_2 : Int).toNat ((wrap64 (x6_2 + 2)) : Int).toNat).toList == ([45, 45] : List UInt8))), (true), (false), (wrap64 (x6_2 + 1)), (by first | rfl | (simp; done) | (simp [*]; done)), (by first | rfl | (simp; done) | (simp [*]; done)), (by first | rfl | (simp; done) | (simp [*]; done)), (by first | rfl | (simp; done) | (simp [*]; done)), H', ⟨by have := HJ4.out; have := HK2.out; omega⟩, ⟨by repeat (first | (with_reducible first | exact HB.out | apply below_alloc | apply pw_below_drewN | apply below_drew1) | exact HB.out)⟩⟩
           ·as_aux_lemma =>
            replace c30 := Bool.eq_false_iff.mpr c30
            subst c30
            rw [if_neg (show ¬ (false = true) by decide)] at H
            try dsimp only at H
            have c36b0 := eq_true (of_decide_eq_true (by first | (with_reducible assumption) | assumption) : 0 ≤ x6_2)
            have c37b0 := eq_true (of_decide_eq_true (by first | (with_reducible assumption) | assumption) : x6_2 ≤ (wrap64 (x6_2 + 2)))
            have c38b0 := eq_true (of_decide_eq_true (by first | (with_reducible assumption) | assumption) : (wrap64 (x6_2 + 2)) ≤ (a0.size : Int))
            by_cases c39 : x5_2 = true
            ·as_aux_lemma =>
             subst c39
             rw [if_pos rfl] at H
             try dsimp only at H
             have H' := Aside0.mk H
             clear H
             go_wp2
             go_roundg k2
             case measure => have := HJ4.out; have := HK2.out; omega
             case rel => exact ⟨(((a0.extract (x6_2 : Int).toNat ((wrap64 (x6_2 + 2)) : Int).toNat).toList == ([45, 45] : List UInt8))), (((a0.extract (x6_2 : Int).toNat ((wrap64 (x6_2 + 2)) : Int).toNat).toList == ([63, 62] : List UInt8))), (true), (wrap64 (x6_2 + 1)), (by first | rfl | (simp; done) | (simp [*]; done)), (by first | rfl | (simp; done) | (simp [*]; done)), (by first | rfl | (simp; done) | (simp [*]; done)), (by first | rfl | (simp; done) | (simp [*]; done)), H', ⟨by have := HJ4.out; have := HK2.out; omega⟩, ⟨by repeat (first | (with_reducible first | exact HB.out | apply below_alloc | apply pw_below_drewN | apply below_drew1) | exact HB.out)⟩⟩
            ·as_aux_lemma =>
             replace c39 := Bool.eq_false_iff.mpr c39
             subst c39
             rw [if_neg (show ¬ (false = true) by decide)] at H
             try dsimp only at H
             by_cases c40 : (wrap64 (x6_2 + 2)) < (a0.size : Int)
             ·rw [if_pos c40] at H
              have c40b0 : decide ((wrap64 (x6_2 + 2)) < (a0.size : Int)) = true := decide_eq_true c40
              clear c40
              have c41b0 := eq_true (of_decide_eq_true (by first | (with_reducible assumption) | assumption) : 0 ≤ x6_2)
              by_cases c42 : x6_2 ≤ (wrap64 (x6_2 + 3))
              ·rw [if_pos c42] at H
               have c42b0 := eq_true c42
               have c42b1 : decide (x6_2 ≤ (wrap64 (x6_2 + 3))) = true := decide_eq_true c42
               by_cases c43 : (wrap64 (x6_2 + 3)) ≤ (a0.size : Int)
               ·as_aux_lemma =>
                rw [if_pos c43] at H
                have c43b0 := eq_true c43
                have c43b1 : decide ((wrap64 (x6_2 + 3)) ≤ (a0.size : Int)) = true := decide_eq_true c43
                have H' := Aside0.mk H
                clear H
                go_wp2
                go_roundg k2
                case measure => have := HJ4.out; have := HK2.out; omega
                case rel => exact ⟨(((a0.extract (x6_2 : Int).toNat ((wrap64 (x6_2 + 2)) : Int).toNat).toList == ([45, 45] : List UInt8))), (((a0.extract (x6_2 : Int).toNat ((wrap64 (x6_2 + 2)) : Int).toNat).toList == ([63, 62] : List UInt8))), (((a0.extract (x6_2 : Int).toNat ((wrap64 (x6_2 + 3)) : Int).toNat).toList == ([93, 93, 62] : List UInt8))), (wrap64 (x6_2 + 1)), (by first | rfl | (simp; done) | (simp [*]; done)), (by first | rfl | (simp; done) | (simp [*]; done)), (by first | rfl | (simp; done) | (simp [*]; done)), (by first | rfl | (simp; done) | (simp [*]; done)), H', ⟨by have := HJ4.out; have := HK2.out; omega⟩, ⟨by repeat (first | (with_reducible first | exact HB.out | apply below_alloc | apply pw_below_drewN | apply below_drew1) | exact HB.out)⟩⟩
               ·rw [if_neg c43] at H
                exact absurd H (by simp)
              ·rw [if_neg c42] at H
               exact absurd H (by simp)
             ·rw [if_neg c40] at H
              have c40b0 : decide ((wrap64 (x6_2 + 2)) < (a0.size : Int)) = false := decide_eq_false c40
              clear c40
              have H' := Aside0.mk H
              clear H
              go_wp2
              go_roundg k2
              case measure => have := HJ4.out; have := HK2.out; omega
              case rel => exact ⟨(((a0.extract (x6_2 : Int).toNat ((wrap64 (x6_2 + 2)) : Int).toNat).toList == ([45, 45] : List UInt8))), (((a0.extract (x6_2 : Int).toNat ((wrap64 (x6_2 + 2)) : Int).toNat).toList == ([63, 62] : List UInt8))), (false), (wrap64 (x6_2 + 1)), (by first | rfl | (simp; done) | (simp [*]; done)), (by first | rfl | (simp; done) | (simp [*]; done)), (by first | rfl | (simp; done) | (simp [*]; done)), (by first | rfl | (simp; done) | (simp [*]; done)), H', ⟨by have := HJ4.out; have := HK2.out; omega⟩, ⟨by repeat (first | (with_reducible first | exact HB.out | apply below_alloc | apply pw_below_drewN | apply below_drew1) | exact HB.out)⟩⟩
          ·rw [if_neg c29] at H
           exact absurd H (by simp)
         ·rw [if_neg c28] at H
          exact absurd H (by simp)
        ·rw [if_neg c27] at H
         exact absurd H (by simp)
      ·rw [if_neg c11] at H
       have c11b0 : decide ((wrap64 (x6_2 + 1)) < (a0.size : Int)) = false := decide_eq_false c11
       clear c11
       by_cases c44 : 4 + a0.size ≤ 9223372036854775807
       ·rw [if_pos c44] at H
        have c44b0 := eq_true c44
        have c44b1 : decide (4 + a0.size ≤ 9223372036854775807) = true := decide_eq_true c44
        try have c44b2 : (9223372036854775807 < 4 + a0.size) = False := eq_false (Nat.not_lt.2 c44)
        by_cases c45 : 4 + a0.size + 3 ≤ 9223372036854775807
        ·rw [if_pos c45] at H
         have c45b0 := eq_true c45
         have c45b1 : decide (4 + a0.size + 3 ≤ 9223372036854775807) = true := decide_eq_true c45
         try have c45b2 : (9223372036854775807 < 4 + a0.size + 3) = False := eq_false (Nat.not_lt.2 c45)
         replace H := Option.bind_eq_some_iff.mp H
         obtain ⟨⟨t453, t454, t455, t456, t459, t460, t461⟩, A460, H⟩ := H
         try dsimp only at H
         have A46 := Aside0.mk A460
         clear A460
         by_cases c47 : 5 + a0.size ≤ 9223372036854775807
         ·as_aux_lemma =>
          rw [if_pos c47] at H
          have c47b0 := eq_true c47
          have c47b1 : decide (5 + a0.size ≤ 9223372036854775807) = true := decide_eq_true c47
          try have c47b2 : (9223372036854775807 < 5 + a0.size) = False := eq_false (Nat.not_lt.2 c47)
          by_cases c48 : 5 + a0.size + 2 ≤ 9223372036854775807
          ·rw [if_pos c48] at H
           have c48b0 := eq_true c48
           have c48b1 : decide (5 + a0.size + 2 ≤ 9223372036854775807) = true := decide_eq_true c48
           try have c48b2 : (9223372036854775807 < 5 + a0.size + 2) = False := eq_false (Nat.not_lt.2 c48)
           replace H := Option.bind_eq_some_iff.mp H
           obtain ⟨⟨t463, t464, t465, t466, t469, t470, t471⟩, A490, H⟩ := H
           try dsimp only at H
           have A49 := Aside0.mk A490
           clear A490
           by_cases c50 : 9 + a0.size ≤ 9223372036854775807
           ·rw [if_pos c50] at H
            have c50b0 := eq_true c50
            have c50b1 : decide (9 + a0.size ≤ 9223372036854775807) = true := decide_eq_true c50
            try have c50b2 : (9223372036854775807 < 9 + a0.size) = False := eq_false (Nat.not_lt.2 c50)
            by_cases c51 : 9 + a0.size + 3 ≤ 9223372036854775807
            ·as_aux_lemma =>
             rw [if_pos c51] at H
             have c51b0 := eq_true c51
             have c51b1 : decide (9 + a0.size + 3 ≤ 9223372036854775807) = true := decide_eq_true c51
             try have c51b2 : (9223372036854775807 < 9 + a0.size + 3) = False := eq_false (Nat.not_lt.2 c51)
             replace H := Option.bind_eq_some_iff.mp H
             obtain ⟨⟨t473, t474, t475, t476, t479, t480, t481⟩, A520, H⟩ := H
             try dsimp only at H
             have A52 := Aside0.mk A520
             clear A520
             have HC53 := Aside0.mk H
             clear H
             go_upto_region 13 with (first | ((with_reducible refine gate_callee (f := 15) rfl ?_); refine goesL_ (some 76) rfl rfl Tryd.func15 (by kernel_rfl) rfl #[.string (((⟨#[60, 33, 45, 45]⟩ : ByteArray) ++ a0) ++ (⟨#[45, 45, 62]⟩ : ByteArray)), .int .i64 0] rfl (by (try simp only [List.map_toArray, List.map_cons, List.map_nil]); first | done | rfl | (simp only [List.length_drop, List.length_take]; rfl)) ?_; (with_reducible refine (token_Next.calls k2 (((⟨#[60, 33, 45, 45]⟩ : ByteArray) ++ a0) ++ (⟨#[45, 45, 62]⟩ : ByteArray)) 0 t453 t454 t455 t456 t459 t460 t461 _ (Env.below HE.out (by repeat (first | (with_reducible first | exact HB.out | apply below_alloc | apply pw_below_drewN | apply below_drew1) | exact HB.out))) A46.out).mono ?_); rintro e w54 ⟨v457, rfl, ho0, hb⟩; refine ⟨_, rfl, ?_⟩; have n0_ := Aside0.mk (Kd.R_lower ho0 (below_size (by repeat (first | (with_reducible first | exact HB.out | apply below_alloc | apply pw_below_drewN | apply below_drew1) | exact HB.out)))); have n1_ := Aside0.mk (below_step (by repeat (first | (with_reducible first | exact HB.out | apply below_alloc | apply pw_below_drewN | apply below_drew1) | exact HB.out)) hb); clear HB; have HO458 := n0_; have HB := n1_; clear n0_ n1_; (try clear hb); (try clear hb2); (try clear hk); (try clear hi); (try clear ho0)) | ((with_reducible refine gate_dst (N := 7) rfl ?_); (try (refine gate_guard (by rfl) ?_; dsimp only)); refine box_event ?hg (N := 7) ?hd (cs := #[.int .i64 0, .string (⟨#[]⟩ : ByteArray), .string (⟨#[]⟩ : ByteArray), .slice none 0 0, .bool false]) (t := 27) ?hr ?_; (case hd => rfl); (case hg => rfl); (case hr => first | (go_simp; done) | (go_simp; rfl)); intro gb462 hg w55 hbox hb; have n0_ := Aside0.mk (Kd.R_below (by (with_reducible repeat (first | apply Kd.R_alloc | apply Kd.R_drewN | apply Kd.R_drew)); exact HO458.out) hb); have n1_ := Aside0.mk (below_step (by repeat (first | (with_reducible first | exact HB.out | apply below_alloc | apply pw_below_drewN | apply below_drew1) | exact HB.out)) hb); have n2_ := Aside0.mk (hbox); have n3_ := Aside0.mk ((by rw [hg]; exact (below_size (by repeat (first | (with_reducible first | exact HB.out | apply below_alloc | apply pw_below_drewN | apply below_drew1) | exact HB.out))) : w.heap.size ≤ gb462)); have n4_ := Aside0.mk ((by rw [hg]; exact (below_size (by repeat (first | (with_reducible first | exact HB.out | apply below_alloc | apply pw_below_drewN | apply below_drew1) | exact HB.out))) : w.heap.size ≤ gb462)); clear HO458; clear HB; have HO458 := n0_; have HB := n1_; have BK462 := n2_; have GW462 := n3_; have GE462 := n4_; clear n0_ n1_ n2_ n3_ n4_; clear hb hbox hg; have hcz56_0 : w55.cell? ⟨gb462, 0, none⟩ = some (.int .i64 0) := (blk_cell BK462.out 0).trans rfl; have hcz56_1 : w55.cell? ⟨gb462, 1, none⟩ = some (.string (⟨#[]⟩ : ByteArray)) := (blk_cell BK462.out 1).trans rfl; have hcz56_2 : w55.cell? ⟨gb462, 2, none⟩ = some (.string (⟨#[]⟩ : ByteArray)) := (blk_cell BK462.out 2).trans rfl; have hcz56_3 : w55.cell? ⟨gb462, 3, none⟩ = some (.slice none 0 0) := (blk_cell BK462.out 3).trans rfl; have hcz56_4 : w55.cell? ⟨gb462, 4, none⟩ = some (.bool false) := (blk_cell BK462.out 4).trans rfl; have hfz56_0 := blk_frozen BK462.out 0; have hfz56_1 := blk_frozen BK462.out 1; have hfz56_2 := blk_frozen BK462.out 2; have hfz56_3 := blk_frozen BK462.out 3; have hfz56_4 := blk_frozen BK462.out 4; obtain ⟨Ao57, co57, eo57⟩ := Kd.R_slice HO458.out; subst eo57) | ((with_reducible refine gate_callee (f := 15) rfl ?_); refine goesL_ (some 84) rfl rfl Tryd.func15 (by kernel_rfl) rfl #[.string (((⟨#[60, 63, 113, 32, 120]⟩ : ByteArray) ++ a0) ++ (⟨#[63, 62]⟩ : ByteArray)), .int .i64 0] rfl (by (try simp only [List.map_toArray, List.map_cons, List.map_nil]); first | done | rfl | (simp only [List.length_drop, List.length_take]; rfl)) ?_; (with_reducible refine (token_Next.calls k2 (((⟨#[60, 63, 113, 32, 120]⟩ : ByteArray) ++ a0) ++ (⟨#[63, 62]⟩ : ByteArray)) 0 t463 t464 t465 t466 t469 t470 t471 _ (Env.below HE.out (by repeat (first | (with_reducible first | exact HB.out | apply below_alloc | apply pw_below_drewN | apply below_drew1 | refine below_set ?_ GE462.out) | exact HB.out))) A49.out).mono ?_); rintro e w58 ⟨v467, rfl, ho0, hb⟩; refine ⟨_, rfl, ?_⟩; have n0_ := Aside0.mk (Kd.R_elder' (by (with_reducible repeat (first | apply Kd.R_alloc | apply Kd.R_drewN | apply Kd.R_drew)); exact (Kd.R_mono (Kd.R_far (p := ⟨gb462, 4, none⟩) (Kd.R_far (p := ⟨gb462, 3, none⟩) (Kd.R_far (p := ⟨gb462, 2, none⟩) (Kd.R_far (p := ⟨gb462, 1, none⟩) (Kd.R_far (p := ⟨gb462, 0, none⟩) (Kd.R_types HO458.out BK462.out (by decide)) (fun _ hk => hk.2) (.int .i64 t453)) (fun _ hk => hk.2) (.string t454)) (fun _ hk => hk.2) (.string t455)) (fun _ hk => hk.2) (.slice Ao57 t456.length co57)) (fun _ hk => hk.2) (.bool t459)) (fun _ h_ => h_.1))) (Kd.R_base ho0) hb); have n1_ := Aside0.mk (Kd.R_lower (Kd.R_new' ho0 (Kd.R_lt (by (with_reducible repeat (first | apply Kd.R_alloc | apply Kd.R_drewN | apply Kd.R_drew)); exact (Kd.R_mono (Kd.R_far (p := ⟨gb462, 4, none⟩) (Kd.R_far (p := ⟨gb462, 3, none⟩) (Kd.R_far (p := ⟨gb462, 2, none⟩) (Kd.R_far (p := ⟨gb462, 1, none⟩) (Kd.R_far (p := ⟨gb462, 0, none⟩) (Kd.R_types HO458.out BK462.out (by decide)) (fun _ hk => hk.2) (.int .i64 t453)) (fun _ hk => hk.2) (.string t454)) (fun _ hk => hk.2) (.string t455)) (fun _ hk => hk.2) (.slice Ao57 t456.length co57)) (fun _ hk => hk.2) (.bool t459)) (fun _ h_ => h_.1))))) (below_size (by repeat (first | (with_reducible first | exact HB.out | apply below_alloc | apply pw_below_drewN | apply below_drew1 | refine below_set ?_ GE462.out) | exact HB.out)))); have n2_ := Aside0.mk (blk_below (g := gb462) (o := .cells #[.int .i64 t453, .string t454, .string t455, .slice Ao57 t456.length co57, .bool t459] 27 (0, 0)) (by (with_reducible repeat (first | refine blk_drewN ?_ _ | refine blk_drew ?_ | refine blk_alloc ?_ _)); refine blk_put (cs := #[.int .i64 t453, .string t454, .string t455, .slice Ao57 t456.length co57, .bool false]) ?_ 4 _ rfl; (with_reducible repeat (first | refine blk_drewN ?_ _ | refine blk_drew ?_ | refine blk_alloc ?_ _)); refine blk_put (cs := #[.int .i64 t453, .string t454, .string t455, .slice none 0 0, .bool false]) ?_ 3 _ rfl; (with_reducible repeat (first | refine blk_drewN ?_ _ | refine blk_drew ?_ | refine blk_alloc ?_ _)); refine blk_put (cs := #[.int .i64 t453, .string t454, .string (⟨#[]⟩ : ByteArray), .slice none 0 0, .bool false]) ?_ 2 _ rfl; (with_reducible repeat (first | refine blk_drewN ?_ _ | refine blk_drew ?_ | refine blk_alloc ?_ _)); refine blk_put (cs := #[.int .i64 t453, .string (⟨#[]⟩ : ByteArray), .string (⟨#[]⟩ : ByteArray), .slice none 0 0, .bool false]) ?_ 1 _ rfl; (with_reducible repeat (first | refine blk_drewN ?_ _ | refine blk_drew ?_ | refine blk_alloc ?_ _)); refine blk_put (cs := #[.int .i64 0, .string (⟨#[]⟩ : ByteArray), .string (⟨#[]⟩ : ByteArray), .slice none 0 0, .bool false]) ?_ 0 _ rfl; (with_reducible repeat (first | refine blk_drewN ?_ _ | refine blk_drew ?_ | refine blk_alloc ?_ _)); exact BK462.out) hb); have n3_ := Aside0.mk (below_step (by repeat (first | (with_reducible first | exact HB.out | apply below_alloc | apply pw_below_drewN | apply below_drew1 | refine below_set ?_ GE462.out) | exact HB.out)) hb); clear HO458; clear BK462; clear HB; have HO458 := n0_; have HO468 := n1_; have BK462 := n2_; have HB := n3_; clear n0_ n1_ n2_ n3_; (try clear hb); (try clear hb2); (try clear hk); (try clear hi); (try clear ho0)) | ((with_reducible refine gate_dst (N := 10) rfl ?_); (try (refine gate_guard (by rfl) ?_; dsimp only)); refine box_event ?hg (N := 10) ?hd (cs := #[.int .i64 0, .string (⟨#[]⟩ : ByteArray), .string (⟨#[]⟩ : ByteArray), .slice none 0 0, .bool false]) (t := 27) ?hr ?_; (case hd => rfl); (case hg => rfl); (case hr => first | (go_simp; done) | (go_simp; rfl)); intro gb472 hg w59 hbox hb; have n0_ := Aside0.mk (Kd.R_below (by (with_reducible repeat (first | apply Kd.R_alloc | apply Kd.R_drewN | apply Kd.R_drew)); exact HO458.out) hb); have n1_ := Aside0.mk (Kd.R_below (by (with_reducible repeat (first | apply Kd.R_alloc | apply Kd.R_drewN | apply Kd.R_drew)); exact HO468.out) hb); have n2_ := Aside0.mk (blk_below (g := gb462) (o := .cells #[.int .i64 t453, .string t454, .string t455, .slice Ao57 t456.length co57, .bool t459] 27 (0, 0)) (by (with_reducible repeat (first | refine blk_drewN ?_ _ | refine blk_drew ?_ | refine blk_alloc ?_ _)); exact BK462.out) hb); have n3_ := Aside0.mk (below_step (by repeat (first | (with_reducible first | exact HB.out | apply below_alloc | apply pw_below_drewN | apply below_drew1 | refine below_set ?_ GE462.out) | exact HB.out)) hb); have n4_ := Aside0.mk (hbox); have n5_ := Aside0.mk ((by rw [hg]; exact (below_size (by repeat (first | (with_reducible first | exact HB.out | apply below_alloc | apply pw_below_drewN | apply below_drew1 | refine below_set ?_ GE462.out) | exact HB.out))) : w.heap.size ≤ gb472)); have n6_ := Aside0.mk ((by rw [hg]; exact (below_size (by repeat (first | (with_reducible first | exact HB.out | apply below_alloc | apply pw_below_drewN | apply below_drew1 | refine below_set ?_ GE462.out) | exact HB.out))) : w.heap.size ≤ gb472)); have n7_ := Aside0.mk ((by rw [hg]; exact Nat.ne_of_lt (blk_lt (g := gb462) (o := .cells #[.int .i64 t453, .string t454, .string t455, .slice Ao57 t456.length co57, .bool t459] 27 (0, 0)) (by (with_reducible repeat (first | refine blk_drewN ?_ _ | refine blk_drew ?_ | refine blk_alloc ?_ _)); exact BK462.out)) : gb462 ≠ gb472)); have n8_ := Aside0.mk ((by rw [hg]; exact Nat.ne_of_gt (blk_lt (g := gb462) (o := .cells #[.int .i64 t453, .string t454, .string t455, .slice Ao57 t456.length co57, .bool t459] 27 (0, 0)) (by (with_reducible repeat (first | refine blk_drewN ?_ _ | refine blk_drew ?_ | refine blk_alloc ?_ _)); exact BK462.out)) : gb472 ≠ gb462)); clear HO458; clear HO468; clear BK462; clear HB; have HO458 := n0_; have HO468 := n1_; have BK462 := n2_; have HB := n3_; have BK472 := n4_; have GW472 := n5_; have GE472 := n6_; have NB462_472 := n7_; have NB472_462 := n8_; clear n0_ n1_ n2_ n3_ n4_ n5_ n6_ n7_ n8_; clear hb hbox hg; have hnb60 := NB472_462.out; have hnc60 := NB462_472.out; have hcz61_0 : w59.cell? ⟨gb472, 0, none⟩ = some (.int .i64 0) := (blk_cell BK472.out 0).trans rfl; have hcz61_1 : w59.cell? ⟨gb472, 1, none⟩ = some (.string (⟨#[]⟩ : ByteArray)) := (blk_cell BK472.out 1).trans rfl; have hcz61_2 : w59.cell? ⟨gb472, 2, none⟩ = some (.string (⟨#[]⟩ : ByteArray)) := (blk_cell BK472.out 2).trans rfl; have hcz61_3 : w59.cell? ⟨gb472, 3, none⟩ = some (.slice none 0 0) := (blk_cell BK472.out 3).trans rfl; have hcz61_4 : w59.cell? ⟨gb472, 4, none⟩ = some (.bool false) := (blk_cell BK472.out 4).trans rfl; have hfz61_0 := blk_frozen BK472.out 0; have hfz61_1 := blk_frozen BK472.out 1; have hfz61_2 := blk_frozen BK472.out 2; have hfz61_3 := blk_frozen BK472.out 3; have hfz61_4 := blk_frozen BK472.out 4; obtain ⟨Ao62, co62, eo62⟩ := Kd.R_slice HO468.out; subst eo62) | ((with_reducible refine gate_callee (f := 15) rfl ?_); refine goesL_ (some 92) rfl rfl Tryd.func15 (by kernel_rfl) rfl #[.string (((⟨#[60, 33, 91, 67, 68, 65, 84, 65, 91]⟩ : ByteArray) ++ a0) ++ (⟨#[93, 93, 62]⟩ : ByteArray)), .int .i64 0] rfl (by (try simp only [List.map_toArray, List.map_cons, List.map_nil]); first | done | rfl | (simp only [List.length_drop, List.length_take]; rfl)) ?_; (with_reducible refine (token_Next.calls k2 (((⟨#[60, 33, 91, 67, 68, 65, 84, 65, 91]⟩ : ByteArray) ++ a0) ++ (⟨#[93, 93, 62]⟩ : ByteArray)) 0 t473 t474 t475 t476 t479 t480 t481 _ (Env.below HE.out (by repeat (first | (with_reducible first | exact HB.out | apply below_alloc | apply pw_below_drewN | apply below_drew1 | refine below_set ?_ GE462.out | refine below_set ?_ GE472.out) | exact HB.out))) A52.out).mono ?_); rintro e w63 ⟨v477, rfl, ho0, hb⟩; refine ⟨_, rfl, ?_⟩; have n0_ := Aside0.mk (Kd.R_elder' (by (with_reducible repeat (first | apply Kd.R_alloc | apply Kd.R_drewN | apply Kd.R_drew)); exact (Kd.R_mono (Kd.R_far (p := ⟨gb472, 4, none⟩) (Kd.R_far (p := ⟨gb472, 3, none⟩) (Kd.R_far (p := ⟨gb472, 2, none⟩) (Kd.R_far (p := ⟨gb472, 1, none⟩) (Kd.R_far (p := ⟨gb472, 0, none⟩) (Kd.R_types HO458.out BK472.out (by decide)) (fun _ hk => hk.2) (.int .i64 t463)) (fun _ hk => hk.2) (.string t464)) (fun _ hk => hk.2) (.string t465)) (fun _ hk => hk.2) (.slice Ao62 t466.length co62)) (fun _ hk => hk.2) (.bool t469)) (fun _ h_ => h_.1))) (Kd.R_base ho0) hb); have n1_ := Aside0.mk (Kd.R_elder' (by (with_reducible repeat (first | apply Kd.R_alloc | apply Kd.R_drewN | apply Kd.R_drew)); exact (Kd.R_mono (Kd.R_far (p := ⟨gb472, 4, none⟩) (Kd.R_far (p := ⟨gb472, 3, none⟩) (Kd.R_far (p := ⟨gb472, 2, none⟩) (Kd.R_far (p := ⟨gb472, 1, none⟩) (Kd.R_far (p := ⟨gb472, 0, none⟩) (Kd.R_types HO468.out BK472.out (by decide)) (fun _ hk => hk.2) (.int .i64 t463)) (fun _ hk => hk.2) (.string t464)) (fun _ hk => hk.2) (.string t465)) (fun _ hk => hk.2) (.slice Ao62 t466.length co62)) (fun _ hk => hk.2) (.bool t469)) (fun _ h_ => h_.1))) (Kd.R_base ho0) hb); have n2_ := Aside0.mk (Kd.R_lower (Kd.R_new' (Kd.R_new' ho0 (Kd.R_lt (by (with_reducible repeat (first | apply Kd.R_alloc | apply Kd.R_drewN | apply Kd.R_drew)); exact (Kd.R_mono (Kd.R_far (p := ⟨gb472, 4, none⟩) (Kd.R_far (p := ⟨gb472, 3, none⟩) (Kd.R_far (p := ⟨gb472, 2, none⟩) (Kd.R_far (p := ⟨gb472, 1, none⟩) (Kd.R_far (p := ⟨gb472, 0, none⟩) (Kd.R_types HO458.out BK472.out (by decide)) (fun _ hk => hk.2) (.int .i64 t463)) (fun _ hk => hk.2) (.string t464)) (fun _ hk => hk.2) (.string t465)) (fun _ hk => hk.2) (.slice Ao62 t466.length co62)) (fun _ hk => hk.2) (.bool t469)) (fun _ h_ => h_.1))))) (Kd.R_lt (by (with_reducible repeat (first | apply Kd.R_alloc | apply Kd.R_drewN | apply Kd.R_drew)); exact (Kd.R_mono (Kd.R_far (p := ⟨gb472, 4, none⟩) (Kd.R_far (p := ⟨gb472, 3, none⟩) (Kd.R_far (p := ⟨gb472, 2, none⟩) (Kd.R_far (p := ⟨gb472, 1, none⟩) (Kd.R_far (p := ⟨gb472, 0, none⟩) (Kd.R_types HO468.out BK472.out (by decide)) (fun _ hk => hk.2) (.int .i64 t463)) (fun _ hk => hk.2) (.string t464)) (fun _ hk => hk.2) (.string t465)) (fun _ hk => hk.2) (.slice Ao62 t466.length co62)) (fun _ hk => hk.2) (.bool t469)) (fun _ h_ => h_.1))))) (below_size (by repeat (first | (with_reducible first | exact HB.out | apply below_alloc | apply pw_below_drewN | apply below_drew1 | refine below_set ?_ GE462.out | refine below_set ?_ GE472.out) | exact HB.out)))); have n3_ := Aside0.mk (blk_below (g := gb462) (o := .cells #[.int .i64 t453, .string t454, .string t455, .slice Ao57 t456.length co57, .bool t459] 27 (0, 0)) (by (with_reducible repeat (first | refine blk_drewN ?_ _ | refine blk_drew ?_ | refine blk_alloc ?_ _)); refine blk_far ?_ NB462_472.out _; (with_reducible repeat (first | refine blk_drewN ?_ _ | refine blk_drew ?_ | refine blk_alloc ?_ _)); refine blk_far ?_ NB462_472.out _; (with_reducible repeat (first | refine blk_drewN ?_ _ | refine blk_drew ?_ | refine blk_alloc ?_ _)); refine blk_far ?_ NB462_472.out _; (with_reducible repeat (first | refine blk_drewN ?_ _ | refine blk_drew ?_ | refine blk_alloc ?_ _)); refine blk_far ?_ NB462_472.out _; (with_reducible repeat (first | refine blk_drewN ?_ _ | refine blk_drew ?_ | refine blk_alloc ?_ _)); refine blk_far ?_ NB462_472.out _; (with_reducible repeat (first | refine blk_drewN ?_ _ | refine blk_drew ?_ | refine blk_alloc ?_ _)); exact BK462.out) hb); have n4_ := Aside0.mk (blk_below (g := gb472) (o := .cells #[.int .i64 t463, .string t464, .string t465, .slice Ao62 t466.length co62, .bool t469] 27 (0, 0)) (by (with_reducible repeat (first | refine blk_drewN ?_ _ | refine blk_drew ?_ | refine blk_alloc ?_ _)); refine blk_put (cs := #[.int .i64 t463, .string t464, .string t465, .slice Ao62 t466.length co62, .bool false]) ?_ 4 _ rfl; (with_reducible repeat (first | refine blk_drewN ?_ _ | refine blk_drew ?_ | refine blk_alloc ?_ _)); refine blk_put (cs := #[.int .i64 t463, .string t464, .string t465, .slice none 0 0, .bool false]) ?_ 3 _ rfl; (with_reducible repeat (first | refine blk_drewN ?_ _ | refine blk_drew ?_ | refine blk_alloc ?_ _)); refine blk_put (cs := #[.int .i64 t463, .string t464, .string (⟨#[]⟩ : ByteArray), .slice none 0 0, .bool false]) ?_ 2 _ rfl; (with_reducible repeat (first | refine blk_drewN ?_ _ | refine blk_drew ?_ | refine blk_alloc ?_ _)); refine blk_put (cs := #[.int .i64 t463, .string (⟨#[]⟩ : ByteArray), .string (⟨#[]⟩ : ByteArray), .slice none 0 0, .bool false]) ?_ 1 _ rfl; (with_reducible repeat (first | refine blk_drewN ?_ _ | refine blk_drew ?_ | refine blk_alloc ?_ _)); refine blk_put (cs := #[.int .i64 0, .string (⟨#[]⟩ : ByteArray), .string (⟨#[]⟩ : ByteArray), .slice none 0 0, .bool false]) ?_ 0 _ rfl; (with_reducible repeat (first | refine blk_drewN ?_ _ | refine blk_drew ?_ | refine blk_alloc ?_ _)); exact BK472.out) hb); have n5_ := Aside0.mk (below_step (by repeat (first | (with_reducible first | exact HB.out | apply below_alloc | apply pw_below_drewN | apply below_drew1 | refine below_set ?_ GE462.out | refine below_set ?_ GE472.out) | exact HB.out)) hb); clear HO458; clear HO468; clear BK462; clear BK472; clear HB; have HO458 := n0_; have HO468 := n1_; have HO478 := n2_; have BK462 := n3_; have BK472 := n4_; have HB := n5_; clear n0_ n1_ n2_ n3_ n4_ n5_; (try clear hb); (try clear hb2); (try clear hk); (try clear hi); (try clear ho0)) | ((with_reducible refine gate_dst (N := 13) rfl ?_); (try (refine gate_guard (by rfl) ?_; dsimp only)); refine box_event ?hg (N := 13) ?hd (cs := #[.int .i64 0, .string (⟨#[]⟩ : ByteArray), .string (⟨#[]⟩ : ByteArray), .slice none 0 0, .bool false]) (t := 27) ?hr ?_; (case hd => rfl); (case hg => rfl); (case hr => first | (go_simp; done) | (go_simp; rfl)); intro gb482 hg w64 hbox hb; have n0_ := Aside0.mk (Kd.R_below (by (with_reducible repeat (first | apply Kd.R_alloc | apply Kd.R_drewN | apply Kd.R_drew)); exact HO458.out) hb); have n1_ := Aside0.mk (Kd.R_below (by (with_reducible repeat (first | apply Kd.R_alloc | apply Kd.R_drewN | apply Kd.R_drew)); exact HO468.out) hb); have n2_ := Aside0.mk (Kd.R_below (by (with_reducible repeat (first | apply Kd.R_alloc | apply Kd.R_drewN | apply Kd.R_drew)); exact HO478.out) hb); have n3_ := Aside0.mk (blk_below (g := gb462) (o := .cells #[.int .i64 t453, .string t454, .string t455, .slice Ao57 t456.length co57, .bool t459] 27 (0, 0)) (by (with_reducible repeat (first | refine blk_drewN ?_ _ | refine blk_drew ?_ | refine blk_alloc ?_ _)); exact BK462.out) hb); have n4_ := Aside0.mk (blk_below (g := gb472) (o := .cells #[.int .i64 t463, .string t464, .string t465, .slice Ao62 t466.length co62, .bool t469] 27 (0, 0)) (by (with_reducible repeat (first | refine blk_drewN ?_ _ | refine blk_drew ?_ | refine blk_alloc ?_ _)); exact BK472.out) hb); have n5_ := Aside0.mk (below_step (by repeat (first | (with_reducible first | exact HB.out | apply below_alloc | apply pw_below_drewN | apply below_drew1 | refine below_set ?_ GE462.out | refine below_set ?_ GE472.out) | exact HB.out)) hb); have n6_ := Aside0.mk (hbox); have n7_ := Aside0.mk ((by rw [hg]; exact (below_size (by repeat (first | (with_reducible first | exact HB.out | apply below_alloc | apply pw_below_drewN | apply below_drew1 | refine below_set ?_ GE462.out | refine below_set ?_ GE472.out) | exact HB.out))) : w.heap.size ≤ gb482)); have n8_ := Aside0.mk ((by rw [hg]; exact (below_size (by repeat (first | (with_reducible first | exact HB.out | apply below_alloc | apply pw_below_drewN | apply below_drew1 | refine below_set ?_ GE462.out | refine below_set ?_ GE472.out) | exact HB.out))) : w.heap.size ≤ gb482)); have n9_ := Aside0.mk ((by rw [hg]; exact Nat.ne_of_lt (blk_lt (g := gb462) (o := .cells #[.int .i64 t453, .string t454, .string t455, .slice Ao57 t456.length co57, .bool t459] 27 (0, 0)) (by (with_reducible repeat (first | refine blk_drewN ?_ _ | refine blk_drew ?_ | refine blk_alloc ?_ _)); exact BK462.out)) : gb462 ≠ gb482)); have n10_ := Aside0.mk ((by rw [hg]; exact Nat.ne_of_gt (blk_lt (g := gb462) (o := .cells #[.int .i64 t453, .string t454, .string t455, .slice Ao57 t456.length co57, .bool t459] 27 (0, 0)) (by (with_reducible repeat (first | refine blk_drewN ?_ _ | refine blk_drew ?_ | refine blk_alloc ?_ _)); exact BK462.out)) : gb482 ≠ gb462)); have n11_ := Aside0.mk ((by rw [hg]; exact Nat.ne_of_lt (blk_lt (g := gb472) (o := .cells #[.int .i64 t463, .string t464, .string t465, .slice Ao62 t466.length co62, .bool t469] 27 (0, 0)) (by (with_reducible repeat (first | refine blk_drewN ?_ _ | refine blk_drew ?_ | refine blk_alloc ?_ _)); exact BK472.out)) : gb472 ≠ gb482)); have n12_ := Aside0.mk ((by rw [hg]; exact Nat.ne_of_gt (blk_lt (g := gb472) (o := .cells #[.int .i64 t463, .string t464, .string t465, .slice Ao62 t466.length co62, .bool t469] 27 (0, 0)) (by (with_reducible repeat (first | refine blk_drewN ?_ _ | refine blk_drew ?_ | refine blk_alloc ?_ _)); exact BK472.out)) : gb482 ≠ gb472)); clear HO458; clear HO468; clear HO478; clear BK462; clear BK472; clear HB; have HO458 := n0_; have HO468 := n1_; have HO478 := n2_; have BK462 := n3_; have BK472 := n4_; have HB := n5_; have BK482 := n6_; have GW482 := n7_; have GE482 := n8_; have NB462_482 := n9_; have NB482_462 := n10_; have NB472_482 := n11_; have NB482_472 := n12_; clear n0_ n1_ n2_ n3_ n4_ n5_ n6_ n7_ n8_ n9_ n10_ n11_ n12_; clear hb hbox hg; have hnb65 := NB482_462.out; have hnc65 := NB462_482.out; have hnb66 := NB482_472.out; have hnc66 := NB472_482.out; have hcz67_0 : w64.cell? ⟨gb482, 0, none⟩ = some (.int .i64 0) := (blk_cell BK482.out 0).trans rfl; have hcz67_1 : w64.cell? ⟨gb482, 1, none⟩ = some (.string (⟨#[]⟩ : ByteArray)) := (blk_cell BK482.out 1).trans rfl; have hcz67_2 : w64.cell? ⟨gb482, 2, none⟩ = some (.string (⟨#[]⟩ : ByteArray)) := (blk_cell BK482.out 2).trans rfl; have hcz67_3 : w64.cell? ⟨gb482, 3, none⟩ = some (.slice none 0 0) := (blk_cell BK482.out 3).trans rfl; have hcz67_4 : w64.cell? ⟨gb482, 4, none⟩ = some (.bool false) := (blk_cell BK482.out 4).trans rfl; have hfz67_0 := blk_frozen BK482.out 0; have hfz67_1 := blk_frozen BK482.out 1; have hfz67_2 := blk_frozen BK482.out 2; have hfz67_3 := blk_frozen BK482.out 3; have hfz67_4 := blk_frozen BK482.out 4; obtain ⟨Ao68, co68, eo68⟩ := Kd.R_slice HO478.out; subst eo68))
             (try simp only [Act.put, List.setIfInBounds_toArray, List.set_cons_zero, List.set_cons_succ])
             go_cut [127] (fun v127 wc => ∃ (kq : Nat) (x127_52 : Bool), v127 = .bool x127_52 ∧ Aside0 (brackenlaw10_TokenAside.j2 kq a0 x4_2 x5_2 t470 t471 t480 t481 x127_52 t463 t464 t465 t466 t469 t473 t474 t475 t476 t479 = some r) ∧ Aside0 (kq ≤ k2) ∧ Aside0 (Kd.R k42 42 wc w.heap.size (fun k_ => some k_ ≠ ((.slice Ao62 t466.length co62) : Value).ownBlock ∧ some k_ ≠ ((.slice Ao68 t476.length co68) : Value).ownBlock) (.slice Ao57 t456.length co57) t456) ∧ Aside0 (Kd.R k42 42 wc w.heap.size (fun k_ => some k_ ≠ ((.slice Ao57 t456.length co57) : Value).ownBlock ∧ some k_ ≠ ((.slice Ao68 t476.length co68) : Value).ownBlock) (.slice Ao62 t466.length co62) t466) ∧ Aside0 (Kd.R k42 42 wc w.heap.size (fun k_ => some k_ ≠ ((.slice Ao57 t456.length co57) : Value).ownBlock ∧ some k_ ≠ ((.slice Ao62 t466.length co62) : Value).ownBlock) (.slice Ao68 t476.length co68) t476) ∧ Aside0 (wc.heap[gb462]? = some (.cells #[.int .i64 t453, .string t454, .string t455, (.slice Ao57 t456.length co57), .bool t459] 27 (0, 0))) ∧ Aside0 (wc.heap[gb472]? = some (.cells #[.int .i64 t463, .string t464, .string t465, (.slice Ao62 t466.length co62), .bool t469] 27 (0, 0))) ∧ Aside0 (wc.heap[gb482]? = some (.cells #[.int .i64 t473, .string t474, .string t475, (.slice Ao68 t476.length co68), .bool t479] 27 (0, 0))) ∧ Aside0 (Below w.heap.size w wc))
             case first =>
              have H := HC53.out
              clear HC53
              by_cases c69 : x3_2 = true
              ·as_aux_lemma =>
               subst c69
               rw [if_pos rfl] at H
               try dsimp only at H
               by_cases c70 : t461 = 0
               ·as_aux_lemma =>
                rw [if_pos c70] at H
                have c70b0 : (t461 == 0) = true := beq_iff_eq.mpr c70
                have c70b1 : (t461 != 0) = false := bne_eq_false_iff_eq.mpr c70
                clear c70
                (first | rw [c70b0] | (simp only [i64_w, i32_w]; rw [c70b0]) | skip)
                have H' := Aside0.mk H
                clear H
                have hnb71 := NB462_472.out
                have hnc71 := NB472_462.out
                have hnb72 := NB462_482.out
                have hnc72 := NB482_462.out
                have hcz73_0 : w64.cell? ⟨gb462, 0, none⟩ = some (.int .i64 t453) := (blk_cell BK462.out 0).trans rfl
                have hcz73_1 : w64.cell? ⟨gb462, 1, none⟩ = some (.string t454) := (blk_cell BK462.out 1).trans rfl
                have hcz73_2 : w64.cell? ⟨gb462, 2, none⟩ = some (.string t455) := (blk_cell BK462.out 2).trans rfl
                have hcz73_3 : w64.cell? ⟨gb462, 3, none⟩ = some (.slice Ao57 t456.length co57) := (blk_cell BK462.out 3).trans rfl
                have hcz73_4 : w64.cell? ⟨gb462, 4, none⟩ = some (.bool t459) := (blk_cell BK462.out 4).trans rfl
                have hfz73_0 := blk_frozen BK462.out 0
                have hfz73_1 := blk_frozen BK462.out 1
                have hfz73_2 := blk_frozen BK462.out 2
                have hfz73_3 := blk_frozen BK462.out 3
                have hfz73_4 := blk_frozen BK462.out 4
                go_wp2
                go_meet
                case rel => exact ⟨_, ((t455.toList == a0.toList)), (by first | rfl | (simp; done) | (simp [*]; done)), H', ⟨by have := HJ4.out; have := HK2.out; first | omega | exact Nat.le_refl _⟩, ⟨by (with_reducible repeat (first | apply Kd.R_alloc | apply Kd.R_drewN | apply Kd.R_drew)); exact Kd.R_mono (Kd.R_far (p := ⟨gb482, 4, none⟩) (Kd.R_far (p := ⟨gb482, 3, none⟩) (Kd.R_far (p := ⟨gb482, 2, none⟩) (Kd.R_far (p := ⟨gb482, 1, none⟩) (Kd.R_far (p := ⟨gb482, 0, none⟩) (Kd.R_types HO458.out BK482.out (by decide)) (fun _ hk => hk.2) (.int .i64 t473)) (fun _ hk => hk.2) (.string t474)) (fun _ hk => hk.2) (.string t475)) (fun _ hk => hk.2) (.slice Ao68 t476.length co68)) (fun _ hk => hk.2) (.bool t479)) (fun _ hk => ⟨hk.1.1.2, hk.1.2⟩)⟩, ⟨by (with_reducible repeat (first | apply Kd.R_alloc | apply Kd.R_drewN | apply Kd.R_drew)); exact Kd.R_mono (Kd.R_far (p := ⟨gb482, 4, none⟩) (Kd.R_far (p := ⟨gb482, 3, none⟩) (Kd.R_far (p := ⟨gb482, 2, none⟩) (Kd.R_far (p := ⟨gb482, 1, none⟩) (Kd.R_far (p := ⟨gb482, 0, none⟩) (Kd.R_types HO468.out BK482.out (by decide)) (fun _ hk => hk.2) (.int .i64 t473)) (fun _ hk => hk.2) (.string t474)) (fun _ hk => hk.2) (.string t475)) (fun _ hk => hk.2) (.slice Ao68 t476.length co68)) (fun _ hk => hk.2) (.bool t479)) (fun _ hk => ⟨hk.1.1.2, hk.1.2⟩)⟩, ⟨by (with_reducible repeat (first | apply Kd.R_alloc | apply Kd.R_drewN | apply Kd.R_drew)); exact Kd.R_mono (Kd.R_far (p := ⟨gb482, 4, none⟩) (Kd.R_far (p := ⟨gb482, 3, none⟩) (Kd.R_far (p := ⟨gb482, 2, none⟩) (Kd.R_far (p := ⟨gb482, 1, none⟩) (Kd.R_far (p := ⟨gb482, 0, none⟩) (Kd.R_types HO478.out BK482.out (by decide)) (fun _ hk => hk.2) (.int .i64 t473)) (fun _ hk => hk.2) (.string t474)) (fun _ hk => hk.2) (.string t475)) (fun _ hk => hk.2) (.slice Ao68 t476.length co68)) (fun _ hk => hk.2) (.bool t479)) (fun _ hk => ⟨hk.1.1.2, hk.1.2⟩)⟩, ⟨by (with_reducible repeat (first | refine blk_drewN ?_ _ | refine blk_drew ?_ | refine blk_alloc ?_ _)); refine blk_far ?_ NB462_482.out _; (with_reducible repeat (first | refine blk_drewN ?_ _ | refine blk_drew ?_ | refine blk_alloc ?_ _)); refine blk_far ?_ NB462_482.out _; (with_reducible repeat (first | refine blk_drewN ?_ _ | refine blk_drew ?_ | refine blk_alloc ?_ _)); refine blk_far ?_ NB462_482.out _; (with_reducible repeat (first | refine blk_drewN ?_ _ | refine blk_drew ?_ | refine blk_alloc ?_ _)); refine blk_far ?_ NB462_482.out _; (with_reducible repeat (first | refine blk_drewN ?_ _ | refine blk_drew ?_ | refine blk_alloc ?_ _)); refine blk_far ?_ NB462_482.out _; (with_reducible repeat (first | refine blk_drewN ?_ _ | refine blk_drew ?_ | refine blk_alloc ?_ _)); exact BK462.out⟩, ⟨by (with_reducible repeat (first | refine blk_drewN ?_ _ | refine blk_drew ?_ | refine blk_alloc ?_ _)); refine blk_far ?_ NB472_482.out _; (with_reducible repeat (first | refine blk_drewN ?_ _ | refine blk_drew ?_ | refine blk_alloc ?_ _)); refine blk_far ?_ NB472_482.out _; (with_reducible repeat (first | refine blk_drewN ?_ _ | refine blk_drew ?_ | refine blk_alloc ?_ _)); refine blk_far ?_ NB472_482.out _; (with_reducible repeat (first | refine blk_drewN ?_ _ | refine blk_drew ?_ | refine blk_alloc ?_ _)); refine blk_far ?_ NB472_482.out _; (with_reducible repeat (first | refine blk_drewN ?_ _ | refine blk_drew ?_ | refine blk_alloc ?_ _)); refine blk_far ?_ NB472_482.out _; (with_reducible repeat (first | refine blk_drewN ?_ _ | refine blk_drew ?_ | refine blk_alloc ?_ _)); exact BK472.out⟩, ⟨by (with_reducible repeat (first | refine blk_drewN ?_ _ | refine blk_drew ?_ | refine blk_alloc ?_ _)); refine blk_put (cs := #[.int .i64 t473, .string t474, .string t475, .slice Ao68 t476.length co68, .bool false]) ?_ 4 _ rfl; (with_reducible repeat (first | refine blk_drewN ?_ _ | refine blk_drew ?_ | refine blk_alloc ?_ _)); refine blk_put (cs := #[.int .i64 t473, .string t474, .string t475, .slice none 0 0, .bool false]) ?_ 3 _ rfl; (with_reducible repeat (first | refine blk_drewN ?_ _ | refine blk_drew ?_ | refine blk_alloc ?_ _)); refine blk_put (cs := #[.int .i64 t473, .string t474, .string (⟨#[]⟩ : ByteArray), .slice none 0 0, .bool false]) ?_ 2 _ rfl; (with_reducible repeat (first | refine blk_drewN ?_ _ | refine blk_drew ?_ | refine blk_alloc ?_ _)); refine blk_put (cs := #[.int .i64 t473, .string (⟨#[]⟩ : ByteArray), .string (⟨#[]⟩ : ByteArray), .slice none 0 0, .bool false]) ?_ 1 _ rfl; (with_reducible repeat (first | refine blk_drewN ?_ _ | refine blk_drew ?_ | refine blk_alloc ?_ _)); refine blk_put (cs := #[.int .i64 0, .string (⟨#[]⟩ : ByteArray), .string (⟨#[]⟩ : ByteArray), .slice none 0 0, .bool false]) ?_ 0 _ rfl; (with_reducible repeat (first | refine blk_drewN ?_ _ | refine blk_drew ?_ | refine blk_alloc ?_ _)); exact BK482.out⟩, ⟨by repeat (first | (with_reducible first | exact HB.out | apply below_alloc | apply pw_below_drewN | apply below_drew1 | refine below_set ?_ GE462.out | refine below_set ?_ GE472.out | refine below_set ?_ GE482.out) | exact HB.out)⟩⟩
               ·rw [if_neg c70] at H
                have c70b0 : (t461 == 0) = false := beq_eq_false_iff_ne.mpr c70
                have c70b1 : (t461 != 0) = true := bne_iff_ne.mpr c70
                (first | rw [c70b0] | (simp only [i64_w, i32_w]; rw [c70b0]) | skip)
                have H' := Aside0.mk H
                clear H
                go_wp2
                go_meet
                case rel => exact ⟨_, (false), (by first | rfl | (simp; done) | (simp [*]; done)), H', ⟨by have := HJ4.out; have := HK2.out; first | omega | exact Nat.le_refl _⟩, ⟨by (with_reducible repeat (first | apply Kd.R_alloc | apply Kd.R_drewN | apply Kd.R_drew)); exact Kd.R_mono (Kd.R_far (p := ⟨gb482, 4, none⟩) (Kd.R_far (p := ⟨gb482, 3, none⟩) (Kd.R_far (p := ⟨gb482, 2, none⟩) (Kd.R_far (p := ⟨gb482, 1, none⟩) (Kd.R_far (p := ⟨gb482, 0, none⟩) (Kd.R_types HO458.out BK482.out (by decide)) (fun _ hk => hk.2) (.int .i64 t473)) (fun _ hk => hk.2) (.string t474)) (fun _ hk => hk.2) (.string t475)) (fun _ hk => hk.2) (.slice Ao68 t476.length co68)) (fun _ hk => hk.2) (.bool t479)) (fun _ hk => ⟨hk.1.1.2, hk.1.2⟩)⟩, ⟨by (with_reducible repeat (first | apply Kd.R_alloc | apply Kd.R_drewN | apply Kd.R_drew)); exact Kd.R_mono (Kd.R_far (p := ⟨gb482, 4, none⟩) (Kd.R_far (p := ⟨gb482, 3, none⟩) (Kd.R_far (p := ⟨gb482, 2, none⟩) (Kd.R_far (p := ⟨gb482, 1, none⟩) (Kd.R_far (p := ⟨gb482, 0, none⟩) (Kd.R_types HO468.out BK482.out (by decide)) (fun _ hk => hk.2) (.int .i64 t473)) (fun _ hk => hk.2) (.string t474)) (fun _ hk => hk.2) (.string t475)) (fun _ hk => hk.2) (.slice Ao68 t476.length co68)) (fun _ hk => hk.2) (.bool t479)) (fun _ hk => ⟨hk.1.1.2, hk.1.2⟩)⟩, ⟨by (with_reducible repeat (first | apply Kd.R_alloc | apply Kd.R_drewN | apply Kd.R_drew)); exact Kd.R_mono (Kd.R_far (p := ⟨gb482, 4, none⟩) (Kd.R_far (p := ⟨gb482, 3, none⟩) (Kd.R_far (p := ⟨gb482, 2, none⟩) (Kd.R_far (p := ⟨gb482, 1, none⟩) (Kd.R_far (p := ⟨gb482, 0, none⟩) (Kd.R_types HO478.out BK482.out (by decide)) (fun _ hk => hk.2) (.int .i64 t473)) (fun _ hk => hk.2) (.string t474)) (fun _ hk => hk.2) (.string t475)) (fun _ hk => hk.2) (.slice Ao68 t476.length co68)) (fun _ hk => hk.2) (.bool t479)) (fun _ hk => ⟨hk.1.1.2, hk.1.2⟩)⟩, ⟨by (with_reducible repeat (first | refine blk_drewN ?_ _ | refine blk_drew ?_ | refine blk_alloc ?_ _)); refine blk_far ?_ NB462_482.out _; (with_reducible repeat (first | refine blk_drewN ?_ _ | refine blk_drew ?_ | refine blk_alloc ?_ _)); refine blk_far ?_ NB462_482.out _; (with_reducible repeat (first | refine blk_drewN ?_ _ | refine blk_drew ?_ | refine blk_alloc ?_ _)); refine blk_far ?_ NB462_482.out _; (with_reducible repeat (first | refine blk_drewN ?_ _ | refine blk_drew ?_ | refine blk_alloc ?_ _)); refine blk_far ?_ NB462_482.out _; (with_reducible repeat (first | refine blk_drewN ?_ _ | refine blk_drew ?_ | refine blk_alloc ?_ _)); refine blk_far ?_ NB462_482.out _; (with_reducible repeat (first | refine blk_drewN ?_ _ | refine blk_drew ?_ | refine blk_alloc ?_ _)); exact BK462.out⟩, ⟨by (with_reducible repeat (first | refine blk_drewN ?_ _ | refine blk_drew ?_ | refine blk_alloc ?_ _)); refine blk_far ?_ NB472_482.out _; (with_reducible repeat (first | refine blk_drewN ?_ _ | refine blk_drew ?_ | refine blk_alloc ?_ _)); refine blk_far ?_ NB472_482.out _; (with_reducible repeat (first | refine blk_drewN ?_ _ | refine blk_drew ?_ | refine blk_alloc ?_ _)); refine blk_far ?_ NB472_482.out _; (with_reducible repeat (first | refine blk_drewN ?_ _ | refine blk_drew ?_ | refine blk_alloc ?_ _)); refine blk_far ?_ NB472_482.out _; (with_reducible repeat (first | refine blk_drewN ?_ _ | refine blk_drew ?_ | refine blk_alloc ?_ _)); refine blk_far ?_ NB472_482.out _; (with_reducible repeat (first | refine blk_drewN ?_ _ | refine blk_drew ?_ | refine blk_alloc ?_ _)); exact BK472.out⟩, ⟨by (with_reducible repeat (first | refine blk_drewN ?_ _ | refine blk_drew ?_ | refine blk_alloc ?_ _)); refine blk_put (cs := #[.int .i64 t473, .string t474, .string t475, .slice Ao68 t476.length co68, .bool false]) ?_ 4 _ rfl; (with_reducible repeat (first | refine blk_drewN ?_ _ | refine blk_drew ?_ | refine blk_alloc ?_ _)); refine blk_put (cs := #[.int .i64 t473, .string t474, .string t475, .slice none 0 0, .bool false]) ?_ 3 _ rfl; (with_reducible repeat (first | refine blk_drewN ?_ _ | refine blk_drew ?_ | refine blk_alloc ?_ _)); refine blk_put (cs := #[.int .i64 t473, .string t474, .string (⟨#[]⟩ : ByteArray), .slice none 0 0, .bool false]) ?_ 2 _ rfl; (with_reducible repeat (first | refine blk_drewN ?_ _ | refine blk_drew ?_ | refine blk_alloc ?_ _)); refine blk_put (cs := #[.int .i64 t473, .string (⟨#[]⟩ : ByteArray), .string (⟨#[]⟩ : ByteArray), .slice none 0 0, .bool false]) ?_ 1 _ rfl; (with_reducible repeat (first | refine blk_drewN ?_ _ | refine blk_drew ?_ | refine blk_alloc ?_ _)); refine blk_put (cs := #[.int .i64 0, .string (⟨#[]⟩ : ByteArray), .string (⟨#[]⟩ : ByteArray), .slice none 0 0, .bool false]) ?_ 0 _ rfl; (with_reducible repeat (first | refine blk_drewN ?_ _ | refine blk_drew ?_ | refine blk_alloc ?_ _)); exact BK482.out⟩, ⟨by repeat (first | (with_reducible first | exact HB.out | apply below_alloc | apply pw_below_drewN | apply below_drew1 | refine below_set ?_ GE462.out | refine below_set ?_ GE472.out | refine below_set ?_ GE482.out) | exact HB.out)⟩⟩
              ·as_aux_lemma =>
               replace c69 := Bool.eq_false_iff.mpr c69
               subst c69
               rw [if_neg (show ¬ (false = true) by decide)] at H
               try dsimp only at H
               by_cases c74 : t461 = 0
               ·as_aux_lemma =>
                rw [if_pos c74] at H
                have c74b0 : (t461 == 0) = true := beq_iff_eq.mpr c74
                have c74b1 : (t461 != 0) = false := bne_eq_false_iff_eq.mpr c74
                clear c74
                by_cases c75 : t455.toList = a0.toList
                ·rw [if_pos c75] at H
                 have c75b0 : (t455.toList == a0.toList) = true := beq_iff_eq.mpr c75
                 have c75b1 : (t455.toList != a0.toList) = false := bne_eq_false_iff_eq.mpr c75
                 clear c75
                 by_cases c76 : t460 = (wrap64 ((a0.size : Int) + 7))
                 ·rw [if_pos c76] at H
                  have c76b0 : (t460 == (wrap64 ((a0.size : Int) + 7))) = true := beq_iff_eq.mpr c76
                  have c76b1 : (t460 != (wrap64 ((a0.size : Int) + 7))) = false := bne_eq_false_iff_eq.mpr c76
                  try (have c76b2 : (t460 == ((a0.size : Int) + 7)) = true := by rw [← c76b0]; congr 1; unfold wrap64; omega)
                  try (have c76b3 : (t460 != ((a0.size : Int) + 7)) = false := by rw [← c76b1]; congr 1; unfold wrap64; omega)
                  clear c76
                  have H' := Aside0.mk H
                  clear H
                  have hnb77 := NB462_472.out
                  have hnc77 := NB472_462.out
                  have hnb78 := NB462_482.out
                  have hnc78 := NB482_462.out
                  have hcz79_0 : w64.cell? ⟨gb462, 0, none⟩ = some (.int .i64 t453) := (blk_cell BK462.out 0).trans rfl
                  have hcz79_1 : w64.cell? ⟨gb462, 1, none⟩ = some (.string t454) := (blk_cell BK462.out 1).trans rfl
                  have hcz79_2 : w64.cell? ⟨gb462, 2, none⟩ = some (.string t455) := (blk_cell BK462.out 2).trans rfl
                  have hcz79_3 : w64.cell? ⟨gb462, 3, none⟩ = some (.slice Ao57 t456.length co57) := (blk_cell BK462.out 3).trans rfl
                  have hcz79_4 : w64.cell? ⟨gb462, 4, none⟩ = some (.bool t459) := (blk_cell BK462.out 4).trans rfl
                  have hfz79_0 := blk_frozen BK462.out 0
                  have hfz79_1 := blk_frozen BK462.out 1
                  have hfz79_2 := blk_frozen BK462.out 2
                  have hfz79_3 := blk_frozen BK462.out 3
                  have hfz79_4 := blk_frozen BK462.out 4
                  go_wp2
                  go_meet
                  case rel => exact ⟨_, (false), (by first | rfl | (simp; done) | (simp [*]; done)), H', ⟨by have := HJ4.out; have := HK2.out; first | omega | exact Nat.le_refl _⟩, ⟨by (with_reducible repeat (first | apply Kd.R_alloc | apply Kd.R_drewN | apply Kd.R_drew)); exact Kd.R_mono (Kd.R_far (p := ⟨gb482, 4, none⟩) (Kd.R_far (p := ⟨gb482, 3, none⟩) (Kd.R_far (p := ⟨gb482, 2, none⟩) (Kd.R_far (p := ⟨gb482, 1, none⟩) (Kd.R_far (p := ⟨gb482, 0, none⟩) (Kd.R_types HO458.out BK482.out (by decide)) (fun _ hk => hk.2) (.int .i64 t473)) (fun _ hk => hk.2) (.string t474)) (fun _ hk => hk.2) (.string t475)) (fun _ hk => hk.2) (.slice Ao68 t476.length co68)) (fun _ hk => hk.2) (.bool t479)) (fun _ hk => ⟨hk.1.1.2, hk.1.2⟩)⟩, ⟨by (with_reducible repeat (first | apply Kd.R_alloc | apply Kd.R_drewN | apply Kd.R_drew)); exact Kd.R_mono (Kd.R_far (p := ⟨gb482, 4, none⟩) (Kd.R_far (p := ⟨gb482, 3, none⟩) (Kd.R_far (p := ⟨gb482, 2, none⟩) (Kd.R_far (p := ⟨gb482, 1, none⟩) (Kd.R_far (p := ⟨gb482, 0, none⟩) (Kd.R_types HO468.out BK482.out (by decide)) (fun _ hk => hk.2) (.int .i64 t473)) (fun _ hk => hk.2) (.string t474)) (fun _ hk => hk.2) (.string t475)) (fun _ hk => hk.2) (.slice Ao68 t476.length co68)) (fun _ hk => hk.2) (.bool t479)) (fun _ hk => ⟨hk.1.1.2, hk.1.2⟩)⟩, ⟨by (with_reducible repeat (first | apply Kd.R_alloc | apply Kd.R_drewN | apply Kd.R_drew)); exact Kd.R_mono (Kd.R_far (p := ⟨gb482, 4, none⟩) (Kd.R_far (p := ⟨gb482, 3, none⟩) (Kd.R_far (p := ⟨gb482, 2, none⟩) (Kd.R_far (p := ⟨gb482, 1, none⟩) (Kd.R_far (p := ⟨gb482, 0, none⟩) (Kd.R_types HO478.out BK482.out (by decide)) (fun _ hk => hk.2) (.int .i64 t473)) (fun _ hk => hk.2) (.string t474)) (fun _ hk => hk.2) (.string t475)) (fun _ hk => hk.2) (.slice Ao68 t476.length co68)) (fun _ hk => hk.2) (.bool t479)) (fun _ hk => ⟨hk.1.1.2, hk.1.2⟩)⟩, ⟨by (with_reducible repeat (first | refine blk_drewN ?_ _ | refine blk_drew ?_ | refine blk_alloc ?_ _)); refine blk_far ?_ NB462_482.out _; (with_reducible repeat (first | refine blk_drewN ?_ _ | refine blk_drew ?_ | refine blk_alloc ?_ _)); refine blk_far ?_ NB462_482.out _; (with_reducible repeat (first | refine blk_drewN ?_ _ | refine blk_drew ?_ | refine blk_alloc ?_ _)); refine blk_far ?_ NB462_482.out _; (with_reducible repeat (first | refine blk_drewN ?_ _ | refine blk_drew ?_ | refine blk_alloc ?_ _)); refine blk_far ?_ NB462_482.out _; (with_reducible repeat (first | refine blk_drewN ?_ _ | refine blk_drew ?_ | refine blk_alloc ?_ _)); refine blk_far ?_ NB462_482.out _; (with_reducible repeat (first | refine blk_drewN ?_ _ | refine blk_drew ?_ | refine blk_alloc ?_ _)); exact BK462.out⟩, ⟨by (with_reducible repeat (first | refine blk_drewN ?_ _ | refine blk_drew ?_ | refine blk_alloc ?_ _)); refine blk_far ?_ NB472_482.out _; (with_reducible repeat (first | refine blk_drewN ?_ _ | refine blk_drew ?_ | refine blk_alloc ?_ _)); refine blk_far ?_ NB472_482.out _; (with_reducible repeat (first | refine blk_drewN ?_ _ | refine blk_drew ?_ | refine blk_alloc ?_ _)); refine blk_far ?_ NB472_482.out _; (with_reducible repeat (first | refine blk_drewN ?_ _ | refine blk_drew ?_ | refine blk_alloc ?_ _)); refine blk_far ?_ NB472_482.out _; (with_reducible repeat (first | refine blk_drewN ?_ _ | refine blk_drew ?_ | refine blk_alloc ?_ _)); refine blk_far ?_ NB472_482.out _; (with_reducible repeat (first | refine blk_drewN ?_ _ | refine blk_drew ?_ | refine blk_alloc ?_ _)); exact BK472.out⟩, ⟨by (with_reducible repeat (first | refine blk_drewN ?_ _ | refine blk_drew ?_ | refine blk_alloc ?_ _)); refine blk_put (cs := #[.int .i64 t473, .string t474, .string t475, .slice Ao68 t476.length co68, .bool false]) ?_ 4 _ rfl; (with_reducible repeat (first | refine blk_drewN ?_ _ | refine blk_drew ?_ | refine blk_alloc ?_ _)); refine blk_put (cs := #[.int .i64 t473, .string t474, .string t475, .slice none 0 0, .bool false]) ?_ 3 _ rfl; (with_reducible repeat (first | refine blk_drewN ?_ _ | refine blk_drew ?_ | refine blk_alloc ?_ _)); refine blk_put (cs := #[.int .i64 t473, .string t474, .string (⟨#[]⟩ : ByteArray), .slice none 0 0, .bool false]) ?_ 2 _ rfl; (with_reducible repeat (first | refine blk_drewN ?_ _ | refine blk_drew ?_ | refine blk_alloc ?_ _)); refine blk_put (cs := #[.int .i64 t473, .string (⟨#[]⟩ : ByteArray), .string (⟨#[]⟩ : ByteArray), .slice none 0 0, .bool false]) ?_ 1 _ rfl; (with_reducible repeat (first | refine blk_drewN ?_ _ | refine blk_drew ?_ | refine blk_alloc ?_ _)); refine blk_put (cs := #[.int .i64 0, .string (⟨#[]⟩ : ByteArray), .string (⟨#[]⟩ : ByteArray), .slice none 0 0, .bool false]) ?_ 0 _ rfl; (with_reducible repeat (first | refine blk_drewN ?_ _ | refine blk_drew ?_ | refine blk_alloc ?_ _)); exact BK482.out⟩, ⟨by repeat (first | (with_reducible first | exact HB.out | apply below_alloc | apply pw_below_drewN | apply below_drew1 | refine below_set ?_ GE462.out | refine below_set ?_ GE472.out | refine below_set ?_ GE482.out) | exact HB.out)⟩⟩
                 ·rw [if_neg c76] at H
                  have c76b0 : (t460 == (wrap64 ((a0.size : Int) + 7))) = false := beq_eq_false_iff_ne.mpr c76
                  have c76b1 : (t460 != (wrap64 ((a0.size : Int) + 7))) = true := bne_iff_ne.mpr c76
                  try (have c76b2 : (t460 == ((a0.size : Int) + 7)) = false := by rw [← c76b0]; congr 1; unfold wrap64; omega)
                  try (have c76b3 : (t460 != ((a0.size : Int) + 7)) = true := by rw [← c76b1]; congr 1; unfold wrap64; omega)
                  have H' := Aside0.mk H
                  clear H
                  have hnb80 := NB462_472.out
                  have hnc80 := NB472_462.out
                  have hnb81 := NB462_482.out
                  have hnc81 := NB482_462.out
                  have hcz82_0 : w64.cell? ⟨gb462, 0, none⟩ = some (.int .i64 t453) := (blk_cell BK462.out 0).trans rfl
                  have hcz82_1 : w64.cell? ⟨gb462, 1, none⟩ = some (.string t454) := (blk_cell BK462.out 1).trans rfl
                  have hcz82_2 : w64.cell? ⟨gb462, 2, none⟩ = some (.string t455) := (blk_cell BK462.out 2).trans rfl
                  have hcz82_3 : w64.cell? ⟨gb462, 3, none⟩ = some (.slice Ao57 t456.length co57) := (blk_cell BK462.out 3).trans rfl
                  have hcz82_4 : w64.cell? ⟨gb462, 4, none⟩ = some (.bool t459) := (blk_cell BK462.out 4).trans rfl
                  have hfz82_0 := blk_frozen BK462.out 0
                  have hfz82_1 := blk_frozen BK462.out 1
                  have hfz82_2 := blk_frozen BK462.out 2
                  have hfz82_3 := blk_frozen BK462.out 3
                  have hfz82_4 := blk_frozen BK462.out 4
                  go_wp2
                  go_meet
                  case rel => exact ⟨_, (true), (by first | rfl | (simp; done) | (simp [*]; done)), H', ⟨by have := HJ4.out; have := HK2.out; first | omega | exact Nat.le_refl _⟩, ⟨by (with_reducible repeat (first | apply Kd.R_alloc | apply Kd.R_drewN | apply Kd.R_drew)); exact Kd.R_mono (Kd.R_far (p := ⟨gb482, 4, none⟩) (Kd.R_far (p := ⟨gb482, 3, none⟩) (Kd.R_far (p := ⟨gb482, 2, none⟩) (Kd.R_far (p := ⟨gb482, 1, none⟩) (Kd.R_far (p := ⟨gb482, 0, none⟩) (Kd.R_types HO458.out BK482.out (by decide)) (fun _ hk => hk.2) (.int .i64 t473)) (fun _ hk => hk.2) (.string t474)) (fun _ hk => hk.2) (.string t475)) (fun _ hk => hk.2) (.slice Ao68 t476.length co68)) (fun _ hk => hk.2) (.bool t479)) (fun _ hk => ⟨hk.1.1.2, hk.1.2⟩)⟩, ⟨by (with_reducible repeat (first | apply Kd.R_alloc | apply Kd.R_drewN | apply Kd.R_drew)); exact Kd.R_mono (Kd.R_far (p := ⟨gb482, 4, none⟩) (Kd.R_far (p := ⟨gb482, 3, none⟩) (Kd.R_far (p := ⟨gb482, 2, none⟩) (Kd.R_far (p := ⟨gb482, 1, none⟩) (Kd.R_far (p := ⟨gb482, 0, none⟩) (Kd.R_types HO468.out BK482.out (by decide)) (fun _ hk => hk.2) (.int .i64 t473)) (fun _ hk => hk.2) (.string t474)) (fun _ hk => hk.2) (.string t475)) (fun _ hk => hk.2) (.slice Ao68 t476.length co68)) (fun _ hk => hk.2) (.bool t479)) (fun _ hk => ⟨hk.1.1.2, hk.1.2⟩)⟩, ⟨by (with_reducible repeat (first | apply Kd.R_alloc | apply Kd.R_drewN | apply Kd.R_drew)); exact Kd.R_mono (Kd.R_far (p := ⟨gb482, 4, none⟩) (Kd.R_far (p := ⟨gb482, 3, none⟩) (Kd.R_far (p := ⟨gb482, 2, none⟩) (Kd.R_far (p := ⟨gb482, 1, none⟩) (Kd.R_far (p := ⟨gb482, 0, none⟩) (Kd.R_types HO478.out BK482.out (by decide)) (fun _ hk => hk.2) (.int .i64 t473)) (fun _ hk => hk.2) (.string t474)) (fun _ hk => hk.2) (.string t475)) (fun _ hk => hk.2) (.slice Ao68 t476.length co68)) (fun _ hk => hk.2) (.bool t479)) (fun _ hk => ⟨hk.1.1.2, hk.1.2⟩)⟩, ⟨by (with_reducible repeat (first | refine blk_drewN ?_ _ | refine blk_drew ?_ | refine blk_alloc ?_ _)); refine blk_far ?_ NB462_482.out _; (with_reducible repeat (first | refine blk_drewN ?_ _ | refine blk_drew ?_ | refine blk_alloc ?_ _)); refine blk_far ?_ NB462_482.out _; (with_reducible repeat (first | refine blk_drewN ?_ _ | refine blk_drew ?_ | refine blk_alloc ?_ _)); refine blk_far ?_ NB462_482.out _; (with_reducible repeat (first | refine blk_drewN ?_ _ | refine blk_drew ?_ | refine blk_alloc ?_ _)); refine blk_far ?_ NB462_482.out _; (with_reducible repeat (first | refine blk_drewN ?_ _ | refine blk_drew ?_ | refine blk_alloc ?_ _)); refine blk_far ?_ NB462_482.out _; (with_reducible repeat (first | refine blk_drewN ?_ _ | refine blk_drew ?_ | refine blk_alloc ?_ _)); exact BK462.out⟩, ⟨by (with_reducible repeat (first | refine blk_drewN ?_ _ | refine blk_drew ?_ | refine blk_alloc ?_ _)); refine blk_far ?_ NB472_482.out _; (with_reducible repeat (first | refine blk_drewN ?_ _ | refine blk_drew ?_ | refine blk_alloc ?_ _)); refine blk_far ?_ NB472_482.out _; (with_reducible repeat (first | refine blk_drewN ?_ _ | refine blk_drew ?_ | refine blk_alloc ?_ _)); refine blk_far ?_ NB472_482.out _; (with_reducible repeat (first | refine blk_drewN ?_ _ | refine blk_drew ?_ | refine blk_alloc ?_ _)); refine blk_far ?_ NB472_482.out _; (with_reducible repeat (first | refine blk_drewN ?_ _ | refine blk_drew ?_ | refine blk_alloc ?_ _)); refine blk_far ?_ NB472_482.out _; (with_reducible repeat (first | refine blk_drewN ?_ _ | refine blk_drew ?_ | refine blk_alloc ?_ _)); exact BK472.out⟩, ⟨by (with_reducible repeat (first | refine blk_drewN ?_ _ | refine blk_drew ?_ | refine blk_alloc ?_ _)); refine blk_put (cs := #[.int .i64 t473, .string t474, .string t475, .slice Ao68 t476.length co68, .bool false]) ?_ 4 _ rfl; (with_reducible repeat (first | refine blk_drewN ?_ _ | refine blk_drew ?_ | refine blk_alloc ?_ _)); refine blk_put (cs := #[.int .i64 t473, .string t474, .string t475, .slice none 0 0, .bool false]) ?_ 3 _ rfl; (with_reducible repeat (first | refine blk_drewN ?_ _ | refine blk_drew ?_ | refine blk_alloc ?_ _)); refine blk_put (cs := #[.int .i64 t473, .string t474, .string (⟨#[]⟩ : ByteArray), .slice none 0 0, .bool false]) ?_ 2 _ rfl; (with_reducible repeat (first | refine blk_drewN ?_ _ | refine blk_drew ?_ | refine blk_alloc ?_ _)); refine blk_put (cs := #[.int .i64 t473, .string (⟨#[]⟩ : ByteArray), .string (⟨#[]⟩ : ByteArray), .slice none 0 0, .bool false]) ?_ 1 _ rfl; (with_reducible repeat (first | refine blk_drewN ?_ _ | refine blk_drew ?_ | refine blk_alloc ?_ _)); refine blk_put (cs := #[.int .i64 0, .string (⟨#[]⟩ : ByteArray), .string (⟨#[]⟩ : ByteArray), .slice none 0 0, .bool false]) ?_ 0 _ rfl; (with_reducible repeat (first | refine blk_drewN ?_ _ | refine blk_drew ?_ | refine blk_alloc ?_ _)); exact BK482.out⟩, ⟨by repeat (first | (with_reducible first | exact HB.out | apply below_alloc | apply pw_below_drewN | apply below_drew1 | refine below_set ?_ GE462.out | refine below_set ?_ GE472.out | refine below_set ?_ GE482.out) | exact HB.out)⟩⟩
                ·rw [if_neg c75] at H
                 have c75b0 : (t455.toList == a0.toList) = false := beq_eq_false_iff_ne.mpr c75
                 have c75b1 : (t455.toList != a0.toList) = true := bne_iff_ne.mpr c75
                 have H' := Aside0.mk H
                 clear H
                 have hnb83 := NB462_472.out
                 have hnc83 := NB472_462.out
                 have hnb84 := NB462_482.out
                 have hnc84 := NB482_462.out
                 have hcz85_0 : w64.cell? ⟨gb462, 0, none⟩ = some (.int .i64 t453) := (blk_cell BK462.out 0).trans rfl
                 have hcz85_1 : w64.cell? ⟨gb462, 1, none⟩ = some (.string t454) := (blk_cell BK462.out 1).trans rfl
                 have hcz85_2 : w64.cell? ⟨gb462, 2, none⟩ = some (.string t455) := (blk_cell BK462.out 2).trans rfl
                 have hcz85_3 : w64.cell? ⟨gb462, 3, none⟩ = some (.slice Ao57 t456.length co57) := (blk_cell BK462.out 3).trans rfl
                 have hcz85_4 : w64.cell? ⟨gb462, 4, none⟩ = some (.bool t459) := (blk_cell BK462.out 4).trans rfl
                 have hfz85_0 := blk_frozen BK462.out 0
                 have hfz85_1 := blk_frozen BK462.out 1
                 have hfz85_2 := blk_frozen BK462.out 2
                 have hfz85_3 := blk_frozen BK462.out 3
                 have hfz85_4 := blk_frozen BK462.out 4
                 go_wp2
                 go_meet
                 case rel => exact ⟨_, (true), (by first | rfl | (simp; done) | (simp [*]; done)), H', ⟨by have := HJ4.out; have := HK2.out; first | omega | exact Nat.le_refl _⟩, ⟨by (with_reducible repeat (first | apply Kd.R_alloc | apply Kd.R_drewN | apply Kd.R_drew)); exact Kd.R_mono (Kd.R_far (p := ⟨gb482, 4, none⟩) (Kd.R_far (p := ⟨gb482, 3, none⟩) (Kd.R_far (p := ⟨gb482, 2, none⟩) (Kd.R_far (p := ⟨gb482, 1, none⟩) (Kd.R_far (p := ⟨gb482, 0, none⟩) (Kd.R_types HO458.out BK482.out (by decide)) (fun _ hk => hk.2) (.int .i64 t473)) (fun _ hk => hk.2) (.string t474)) (fun _ hk => hk.2) (.string t475)) (fun _ hk => hk.2) (.slice Ao68 t476.length co68)) (fun _ hk => hk.2) (.bool t479)) (fun _ hk => ⟨hk.1.1.2, hk.1.2⟩)⟩, ⟨by (with_reducible repeat (first | apply Kd.R_alloc | apply Kd.R_drewN | apply Kd.R_drew)); exact Kd.R_mono (Kd.R_far (p := ⟨gb482, 4, none⟩) (Kd.R_far (p := ⟨gb482, 3, none⟩) (Kd.R_far (p := ⟨gb482, 2, none⟩) (Kd.R_far (p := ⟨gb482, 1, none⟩) (Kd.R_far (p := ⟨gb482, 0, none⟩) (Kd.R_types HO468.out BK482.out (by decide)) (fun _ hk => hk.2) (.int .i64 t473)) (fun _ hk => hk.2) (.string t474)) (fun _ hk => hk.2) (.string t475)) (fun _ hk => hk.2) (.slice Ao68 t476.length co68)) (fun _ hk => hk.2) (.bool t479)) (fun _ hk => ⟨hk.1.1.2, hk.1.2⟩)⟩, ⟨by (with_reducible repeat (first | apply Kd.R_alloc | apply Kd.R_drewN | apply Kd.R_drew)); exact Kd.R_mono (Kd.R_far (p := ⟨gb482, 4, none⟩) (Kd.R_far (p := ⟨gb482, 3, none⟩) (Kd.R_far (p := ⟨gb482, 2, none⟩) (Kd.R_far (p := ⟨gb482, 1, none⟩) (Kd.R_far (p := ⟨gb482, 0, none⟩) (Kd.R_types HO478.out BK482.out (by decide)) (fun _ hk => hk.2) (.int .i64 t473)) (fun _ hk => hk.2) (.string t474)) (fun _ hk => hk.2) (.string t475)) (fun _ hk => hk.2) (.slice Ao68 t476.length co68)) (fun _ hk => hk.2) (.bool t479)) (fun _ hk => ⟨hk.1.1.2, hk.1.2⟩)⟩, ⟨by (with_reducible repeat (first | refine blk_drewN ?_ _ | refine blk_drew ?_ | refine blk_alloc ?_ _)); refine blk_far ?_ NB462_482.out _; (with_reducible repeat (first | refine blk_drewN ?_ _ | refine blk_drew ?_ | refine blk_alloc ?_ _)); refine blk_far ?_ NB462_482.out _; (with_reducible repeat (first | refine blk_drewN ?_ _ | refine blk_drew ?_ | refine blk_alloc ?_ _)); refine blk_far ?_ NB462_482.out _; (with_reducible repeat (first | refine blk_drewN ?_ _ | refine blk_drew ?_ | refine blk_alloc ?_ _)); refine blk_far ?_ NB462_482.out _; (with_reducible repeat (first | refine blk_drewN ?_ _ | refine blk_drew ?_ | refine blk_alloc ?_ _)); refine blk_far ?_ NB462_482.out _; (with_reducible repeat (first | refine blk_drewN ?_ _ | refine blk_drew ?_ | refine blk_alloc ?_ _)); exact BK462.out⟩, ⟨by (with_reducible repeat (first | refine blk_drewN ?_ _ | refine blk_drew ?_ | refine blk_alloc ?_ _)); refine blk_far ?_ NB472_482.out _; (with_reducible repeat (first | refine blk_drewN ?_ _ | refine blk_drew ?_ | refine blk_alloc ?_ _)); refine blk_far ?_ NB472_482.out _; (with_reducible repeat (first | refine blk_drewN ?_ _ | refine blk_drew ?_ | refine blk_alloc ?_ _)); refine blk_far ?_ NB472_482.out _; (with_reducible repeat (first | refine blk_drewN ?_ _ | refine blk_drew ?_ | refine blk_alloc ?_ _)); refine blk_far ?_ NB472_482.out _; (with_reducible repeat (first | refine blk_drewN ?_ _ | refine blk_drew ?_ | refine blk_alloc ?_ _)); refine blk_far ?_ NB472_482.out _; (with_reducible repeat (first | refine blk_drewN ?_ _ | refine blk_drew ?_ | refine blk_alloc ?_ _)); exact BK472.out⟩, ⟨by (with_reducible repeat (first | refine blk_drewN ?_ _ | refine blk_drew ?_ | refine blk_alloc ?_ _)); refine blk_put (cs := #[.int .i64 t473, .string t474, .string t475, .slice Ao68 t476.length co68, .bool false]) ?_ 4 _ rfl; (with_reducible repeat (first | refine blk_drewN ?_ _ | refine blk_drew ?_ | refine blk_alloc ?_ _)); refine blk_put (cs := #[.int .i64 t473, .string t474, .string t475, .slice none 0 0, .bool false]) ?_ 3 _ rfl; (with_reducible repeat (first | refine blk_drewN ?_ _ | refine blk_drew ?_ | refine blk_alloc ?_ _)); refine blk_put (cs := #[.int .i64 t473, .string t474, .string (⟨#[]⟩ : ByteArray), .slice none 0 0, .bool false]) ?_ 2 _ rfl; (with_reducible repeat (first | refine blk_drewN ?_ _ | refine blk_drew ?_ | refine blk_alloc ?_ _)); refine blk_put (cs := #[.int .i64 t473, .string (⟨#[]⟩ : ByteArray), .string (⟨#[]⟩ : ByteArray), .slice none 0 0, .bool false]) ?_ 1 _ rfl; (with_reducible repeat (first | refine blk_drewN ?_ _ | refine blk_drew ?_ | refine blk_alloc ?_ _)); refine blk_put (cs := #[.int .i64 0, .string (⟨#[]⟩ : ByteArray), .string (⟨#[]⟩ : ByteArray), .slice none 0 0, .bool false]) ?_ 0 _ rfl; (with_reducible repeat (first | refine blk_drewN ?_ _ | refine blk_drew ?_ | refine blk_alloc ?_ _)); exact BK482.out⟩, ⟨by repeat (first | (with_reducible first | exact HB.out | apply below_alloc | apply pw_below_drewN | apply below_drew1 | refine below_set ?_ GE462.out | refine below_set ?_ GE472.out | refine below_set ?_ GE482.out) | exact HB.out)⟩⟩
               ·rw [if_neg c74] at H
                have c74b0 : (t461 == 0) = false := beq_eq_false_iff_ne.mpr c74
                have c74b1 : (t461 != 0) = true := bne_iff_ne.mpr c74
                have H' := Aside0.mk H
                clear H
                go_wp2
                go_meet
                case rel => exact ⟨_, (true), (by first | rfl | (simp; done) | (simp [*]; done)), H', ⟨by have := HJ4.out; have := HK2.out; first | omega | exact Nat.le_refl _⟩, ⟨by (with_reducible repeat (first | apply Kd.R_alloc | apply Kd.R_drewN | apply Kd.R_drew)); exact Kd.R_mono (Kd.R_far (p := ⟨gb482, 4, none⟩) (Kd.R_far (p := ⟨gb482, 3, none⟩) (Kd.R_far (p := ⟨gb482, 2, none⟩) (Kd.R_far (p := ⟨gb482, 1, none⟩) (Kd.R_far (p := ⟨gb482, 0, none⟩) (Kd.R_types HO458.out BK482.out (by decide)) (fun _ hk => hk.2) (.int .i64 t473)) (fun _ hk => hk.2) (.string t474)) (fun _ hk => hk.2) (.string t475)) (fun _ hk => hk.2) (.slice Ao68 t476.length co68)) (fun _ hk => hk.2) (.bool t479)) (fun _ hk => ⟨hk.1.1.2, hk.1.2⟩)⟩, ⟨by (with_reducible repeat (first | apply Kd.R_alloc | apply Kd.R_drewN | apply Kd.R_drew)); exact Kd.R_mono (Kd.R_far (p := ⟨gb482, 4, none⟩) (Kd.R_far (p := ⟨gb482, 3, none⟩) (Kd.R_far (p := ⟨gb482, 2, none⟩) (Kd.R_far (p := ⟨gb482, 1, none⟩) (Kd.R_far (p := ⟨gb482, 0, none⟩) (Kd.R_types HO468.out BK482.out (by decide)) (fun _ hk => hk.2) (.int .i64 t473)) (fun _ hk => hk.2) (.string t474)) (fun _ hk => hk.2) (.string t475)) (fun _ hk => hk.2) (.slice Ao68 t476.length co68)) (fun _ hk => hk.2) (.bool t479)) (fun _ hk => ⟨hk.1.1.2, hk.1.2⟩)⟩, ⟨by (with_reducible repeat (first | apply Kd.R_alloc | apply Kd.R_drewN | apply Kd.R_drew)); exact Kd.R_mono (Kd.R_far (p := ⟨gb482, 4, none⟩) (Kd.R_far (p := ⟨gb482, 3, none⟩) (Kd.R_far (p := ⟨gb482, 2, none⟩) (Kd.R_far (p := ⟨gb482, 1, none⟩) (Kd.R_far (p := ⟨gb482, 0, none⟩) (Kd.R_types HO478.out BK482.out (by decide)) (fun _ hk => hk.2) (.int .i64 t473)) (fun _ hk => hk.2) (.string t474)) (fun _ hk => hk.2) (.string t475)) (fun _ hk => hk.2) (.slice Ao68 t476.length co68)) (fun _ hk => hk.2) (.bool t479)) (fun _ hk => ⟨hk.1.1.2, hk.1.2⟩)⟩, ⟨by (with_reducible repeat (first | refine blk_drewN ?_ _ | refine blk_drew ?_ | refine blk_alloc ?_ _)); refine blk_far ?_ NB462_482.out _; (with_reducible repeat (first | refine blk_drewN ?_ _ | refine blk_drew ?_ | refine blk_alloc ?_ _)); refine blk_far ?_ NB462_482.out _; (with_reducible repeat (first | refine blk_drewN ?_ _ | refine blk_drew ?_ | refine blk_alloc ?_ _)); refine blk_far ?_ NB462_482.out _; (with_reducible repeat (first | refine blk_drewN ?_ _ | refine blk_drew ?_ | refine blk_alloc ?_ _)); refine blk_far ?_ NB462_482.out _; (with_reducible repeat (first | refine blk_drewN ?_ _ | refine blk_drew ?_ | refine blk_alloc ?_ _)); refine blk_far ?_ NB462_482.out _; (with_reducible repeat (first | refine blk_drewN ?_ _ | refine blk_drew ?_ | refine blk_alloc ?_ _)); exact BK462.out⟩, ⟨by (with_reducible repeat (first | refine blk_drewN ?_ _ | refine blk_drew ?_ | refine blk_alloc ?_ _)); refine blk_far ?_ NB472_482.out _; (with_reducible repeat (first | refine blk_drewN ?_ _ | refine blk_drew ?_ | refine blk_alloc ?_ _)); refine blk_far ?_ NB472_482.out _; (with_reducible repeat (first | refine blk_drewN ?_ _ | refine blk_drew ?_ | refine blk_alloc ?_ _)); refine blk_far ?_ NB472_482.out _; (with_reducible repeat (first | refine blk_drewN ?_ _ | refine blk_drew ?_ | refine blk_alloc ?_ _)); refine blk_far ?_ NB472_482.out _; (with_reducible repeat (first | refine blk_drewN ?_ _ | refine blk_drew ?_ | refine blk_alloc ?_ _)); refine blk_far ?_ NB472_482.out _; (with_reducible repeat (first | refine blk_drewN ?_ _ | refine blk_drew ?_ | refine blk_alloc ?_ _)); exact BK472.out⟩, ⟨by (with_reducible repeat (first | refine blk_drewN ?_ _ | refine blk_drew ?_ | refine blk_alloc ?_ _)); refine blk_put (cs := #[.int .i64 t473, .string t474, .string t475, .slice Ao68 t476.length co68, .bool false]) ?_ 4 _ rfl; (with_reducible repeat (first | refine blk_drewN ?_ _ | refine blk_drew ?_ | refine blk_alloc ?_ _)); refine blk_put (cs := #[.int .i64 t473, .string t474, .string t475, .slice none 0 0, .bool false]) ?_ 3 _ rfl; (with_reducible repeat (first | refine blk_drewN ?_ _ | refine blk_drew ?_ | refine blk_alloc ?_ _)); refine blk_put (cs := #[.int .i64 t473, .string t474, .string (⟨#[]⟩ : ByteArray), .slice none 0 0, .bool false]) ?_ 2 _ rfl; (with_reducible repeat (first | refine blk_drewN ?_ _ | refine blk_drew ?_ | refine blk_alloc ?_ _)); refine blk_put (cs := #[.int .i64 t473, .string (⟨#[]⟩ : ByteArray), .string (⟨#[]⟩ : ByteArray), .slice none 0 0, .bool false]) ?_ 1 _ rfl; (with_reducible repeat (first | refine blk_drewN ?_ _ | refine blk_drew ?_ | refine blk_alloc ?_ _)); refine blk_put (cs := #[.int .i64 0, .string (⟨#[]⟩ : ByteArray), .string (⟨#[]⟩ : ByteArray), .slice none 0 0, .bool false]) ?_ 0 _ rfl; (with_reducible repeat (first | refine blk_drewN ?_ _ | refine blk_drew ?_ | refine blk_alloc ?_ _)); exact BK482.out⟩, ⟨by repeat (first | (with_reducible first | exact HB.out | apply below_alloc | apply pw_below_drewN | apply below_drew1 | refine below_set ?_ GE462.out | refine below_set ?_ GE472.out | refine below_set ?_ GE482.out) | exact HB.out)⟩⟩
             case rest =>
              clear HC53
              try clear c1
              try clear p1
              try clear q1
              try clear hx1
              try clear c2
              try clear c2b0
              try clear c2b1
              try clear p2
              try clear c3
              try clear c4
              try clear c5
              try clear c6
              try clear c6b0
              try clear c6b1
              try clear p6
              try clear c7
              try clear c8
              try clear c8b0
              try clear c9
              try clear c9b0
              try clear p10
              try clear q10
              try clear hx10
              try clear c11
              try clear c11b0
              try clear c12
              try clear c13
              try clear c14
              try clear c15
              try clear c15b0
              try clear c16
              try clear c16b0
              try clear c16b1
              try clear c17
              try clear c17b0
              try clear c17b1
              try clear c18
              try clear c18b0
              try clear c18b1
              try clear c19
              try clear c19b0
              try clear c19b1
              try clear c20
              try clear c20b0
              try clear c20b1
              try clear c21
              try clear c21b0
              try clear c21b1
              try clear c22
              try clear c23
              try clear c23b0
              try clear c24
              try clear c24b0
              try clear c25
              try clear c25b0
              try clear c25b1
              try clear c26
              try clear c26b0
              try clear c26b1
              try clear c27
              try clear c27b0
              try clear c27b1
              try clear c28
              try clear c28b0
              try clear c28b1
              try clear c29
              try clear c29b0
              try clear c29b1
              try clear c30
              try clear c31
              try clear c32
              try clear c32b0
              try clear c33
              try clear c33b0
              try clear c34
              try clear c34b0
              try clear c34b1
              try clear c35
              try clear c35b0
              try clear c35b1
              try clear c36
              try clear c36b0
              try clear c37
              try clear c37b0
              try clear c38
              try clear c38b0
              try clear c39
              try clear c40
              try clear c40b0
              try clear c41
              try clear c41b0
              try clear c42
              try clear c42b0
              try clear c42b1
              try clear c43
              try clear c43b0
              try clear c43b1
              try clear c44
              try clear c44b0
              try clear c44b1
              try clear c44b2
              try clear c45
              try clear c45b0
              try clear c45b1
              try clear c45b2
              try clear c47
              try clear c47b0
              try clear c47b1
              try clear c47b2
              try clear c48
              try clear c48b0
              try clear c48b1
              try clear c48b2
              try clear c50
              try clear c50b0
              try clear c50b1
              try clear c50b2
              try clear c51
              try clear c51b0
              try clear c51b1
              try clear c51b2
              try clear c60
              try clear p64
              try clear c65
              try clear c66
              try clear c69
              try clear c70
              try clear c70b0
              try clear c70b1
              try clear c71
              try clear c72
              try clear c74
              try clear c74b0
              try clear c74b1
              try clear c75
              try clear c75b0
              try clear c75b1
              try clear c76
              try clear c76b0
              try clear c76b1
              try clear c77
              try clear c78
              try clear c80
              try clear c81
              try clear c83
              try clear c84
              try clear hcz56_0
              try clear hcz56_1
              try clear hcz56_2
              try clear hcz56_3
              try clear hcz56_4
              try clear hcz61_0
              try clear hcz61_1
              try clear hcz61_2
              try clear hcz61_3
              try clear hcz61_4
              try clear hcz67_0
              try clear hcz67_1
              try clear hcz67_2
              try clear hcz67_3
              try clear hcz67_4
              try clear hcz73_0
              try clear hcz73_1
              try clear hcz73_2
              try clear hcz73_3
              try clear hcz73_4
              try clear hcz79_0
              try clear hcz79_1
              try clear hcz79_2
              try clear hcz79_3
              try clear hcz79_4
              try clear hcz82_0
              try clear hcz82_1
              try clear hcz82_2
              try clear hcz82_3
              try clear hcz82_4
              try clear hcz85_0
              try clear hcz85_1
              try clear hcz85_2
              try clear hcz85_3
              try clear hcz85_4
              try clear hfz56_0
              try clear hfz56_1
              try clear hfz56_2
              try clear hfz56_3
              try clear hfz56_4
              try clear hfz61_0
              try clear hfz61_1
              try clear hfz61_2
              try clear hfz61_3
              try clear hfz61_4
              try clear hfz67_0
              try clear hfz67_1
              try clear hfz67_2
              try clear hfz67_3
              try clear hfz67_4
              try clear hfz73_0
              try clear hfz73_1
              try clear hfz73_2
              try clear hfz73_3
              try clear hfz73_4
              try clear hfz79_0
              try clear hfz79_1
              try clear hfz79_2
              try clear hfz79_3
              try clear hfz79_4
              try clear hfz82_0
              try clear hfz82_1
              try clear hfz82_2
              try clear hfz82_3
              try clear hfz82_4
              try clear hfz85_0
              try clear hfz85_1
              try clear hfz85_2
              try clear hfz85_3
              try clear hfz85_4
              try clear p1
              try clear p10
              try clear p2
              try clear p6
              try clear q1
              try clear q10
              obtain ⟨kq, x127_52, rfl, HA, HJ52, HO_463003, HO_473003, HO_483003, BK462, BK472, BK482, HB⟩ := hcut
              cases kq with
              | zero => exact absurd HA.out (by simp [brackenlaw10_TokenAside.j2])
              | succ kj52 =>
               have H := HA.out
               clear HA
               simp only [brackenlaw10_TokenAside.j2] at H
               by_cases c86 : x127_52 = true
               ·as_aux_lemma =>
                subst c86
                rw [if_pos rfl] at H
                try dsimp only at H
                exact absurd ((Option.some.inj H).trans hTrue.out) (by decide)
               ·as_aux_lemma =>
                replace c86 := Bool.eq_false_iff.mpr c86
                subst c86
                rw [if_neg (show ¬ (false = true) by decide)] at H
                try dsimp only at H
                by_cases c87 : x4_2 = true
                ·as_aux_lemma =>
                 subst c87
                 rw [if_pos rfl] at H
                 try dsimp only at H
                 replace H := Option.bind_eq_some_iff.mp H
                 obtain ⟨t483, A880, H⟩ := H
                 try dsimp only at H
                 have A88 := Aside0.mk A880
                 clear A880
                 by_cases c89 : t483 = true
                 ·as_aux_lemma =>
                  subst c89
                  rw [if_pos rfl] at H
                  try dsimp only at H
                  by_cases c90 : x5_2 = true
                  ·as_aux_lemma =>
                   subst c90
                   rw [if_pos rfl] at H
                   try dsimp only at H
                   obtain rfl := Option.some.inj H
                   go_wp2_with (first | (go_at_call 14; (with_reducible refine (brackenlaw10_told.calls kj52  true _ (Env.below HE.out (by repeat (first | (with_reducible first | exact HB.out | apply below_alloc | apply pw_below_drewN | apply below_drew1 | refine below_set ?_ GE462.out | refine below_set ?_ GE472.out | refine below_set ?_ GE482.out) | exact HB.out))) hidTrue A88.out).mono ?_); rintro e w91 ⟨rfl, hb⟩; have n0_ := Aside0.mk (Kd.R_below (by (with_reducible repeat (first | apply Kd.R_alloc | apply Kd.R_drewN | apply Kd.R_drew)); exact HO_463003.out) hb); have n1_ := Aside0.mk (Kd.R_below (by (with_reducible repeat (first | apply Kd.R_alloc | apply Kd.R_drewN | apply Kd.R_drew)); exact HO_473003.out) hb); have n2_ := Aside0.mk (Kd.R_below (by (with_reducible repeat (first | apply Kd.R_alloc | apply Kd.R_drewN | apply Kd.R_drew)); exact HO_483003.out) hb); have n3_ := Aside0.mk (blk_below (g := gb462) (o := .cells #[.int .i64 t453, .string t454, .string t455, .slice Ao57 t456.length co57, .bool t459] 27 (0, 0)) (by (with_reducible repeat (first | refine blk_drewN ?_ _ | refine blk_drew ?_ | refine blk_alloc ?_ _)); exact BK462.out) hb); have n4_ := Aside0.mk (blk_below (g := gb472) (o := .cells #[.int .i64 t463, .string t464, .string t465, .slice Ao62 t466.length co62, .bool t469] 27 (0, 0)) (by (with_reducible repeat (first | refine blk_drewN ?_ _ | refine blk_drew ?_ | refine blk_alloc ?_ _)); exact BK472.out) hb); have n5_ := Aside0.mk (blk_below (g := gb482) (o := .cells #[.int .i64 t473, .string t474, .string t475, .slice Ao68 t476.length co68, .bool t479] 27 (0, 0)) (by (with_reducible repeat (first | refine blk_drewN ?_ _ | refine blk_drew ?_ | refine blk_alloc ?_ _)); exact BK482.out) hb); have n6_ := Aside0.mk (below_step (by repeat (first | (with_reducible first | exact HB.out | apply below_alloc | apply pw_below_drewN | apply below_drew1 | refine below_set ?_ GE462.out | refine below_set ?_ GE472.out | refine below_set ?_ GE482.out) | exact HB.out)) hb); clear HO_463003; clear HO_473003; clear HO_483003; clear BK462; clear BK472; clear BK482; clear HB; have HO_463003 := n0_; have HO_473003 := n1_; have HO_483003 := n2_; have BK462 := n3_; have BK472 := n4_; have BK482 := n5_; have HB := n6_; clear n0_ n1_ n2_ n3_ n4_ n5_ n6_; (try clear hb); (try clear hb2); (try clear hk); (try clear hi)))
                   go_ret
                   exact ⟨by first | rfl | (simp [errW_none, errW_some] <;> rfl) | (simp [*, errW_none, errW_some] <;> rfl), by repeat (first | (with_reducible first | exact HB.out | apply below_alloc | apply pw_below_drewN | apply below_drew1 | refine below_set ?_ GE462.out | refine below_set ?_ GE472.out | refine below_set ?_ GE482.out) | exact HB.out)⟩
                  ·as_aux_lemma =>
                   replace c90 := Bool.eq_false_iff.mpr c90
                   subst c90
                   rw [if_neg (show ¬ (false = true) by decide)] at H
                   try dsimp only at H
                   by_cases c92 : (a0.size : Int) > 0
                   ·rw [if_pos c92] at H
                    have c92b0 : decide (0 < (a0.size : Int)) = true := decide_eq_true c92
                    have c92b1 : decide (0 < a0.size) = true := decide_eq_true (by omega)
                    clear c92
                    obtain ⟨ji93, hji93⟩ : ∃ j_ : Int, (wrap64 ((a0.size : Int) - 1)) = j_ := ⟨_, rfl⟩
                    replace H : (if 0 ≤ (ji93) then (if (ji93) < (a0.size : Int) then (if (bt a0 (ji93)) = 93 then (some true) else (if t481 = 0 then (if t475.toList = a0.toList then (some (t480 == (wrap64 ((a0.size : Int) + 12)))) else (some false)) else (some false))) else (none)) else (none)) = some r := by first | (rw [hji93] at H; exact H) | (simp only [hji93] at H ⊢; exact H)
                    (try rw [hji93] at A88)
                    have hji93w : (IntKind.i64.wrap ((a0.size : Int) - 1)) = ji93 := (i64_w _).trans hji93
                    by_cases c94 : 0 ≤ (ji93)
                    ·rw [if_pos c94] at H
                     have c94b0 : decide (0 ≤ (ji93)) = true := decide_eq_true c94
                     clear c94
                     by_cases c95 : (ji93) < (a0.size : Int)
                     ·as_aux_lemma =>
                      rw [if_pos c95] at H
                      have c95b0 : decide ((ji93) < (a0.size : Int)) = true := decide_eq_true c95
                      clear c95
                      by_cases c97 : (bt a0 (ji93)) = 93
                      ·rw [if_pos c97] at H
                       have c97b0 : ((bt a0 (ji93)) == 93) = true := beq_iff_eq.mpr c97
                       have c97b1 : ((bt a0 (ji93)) != 93) = false := bne_eq_false_iff_eq.mpr c97
                       clear c97
                       obtain rfl := Option.some.inj H
                       go_wp2_with (first | (go_at_call 14; (with_reducible refine (brackenlaw10_told.calls kj52  true _ (Env.below HE.out (by repeat (first | (with_reducible first | exact HB.out | apply below_alloc | apply pw_below_drewN | apply below_drew1 | refine below_set ?_ GE462.out | refine below_set ?_ GE472.out | refine below_set ?_ GE482.out) | exact HB.out))) hidTrue A88.out).mono ?_); rintro e w98 ⟨rfl, hb⟩; have n0_ := Aside0.mk (Kd.R_below (by (with_reducible repeat (first | apply Kd.R_alloc | apply Kd.R_drewN | apply Kd.R_drew)); exact HO_463003.out) hb); have n1_ := Aside0.mk (Kd.R_below (by (with_reducible repeat (first | apply Kd.R_alloc | apply Kd.R_drewN | apply Kd.R_drew)); exact HO_473003.out) hb); have n2_ := Aside0.mk (Kd.R_below (by (with_reducible repeat (first | apply Kd.R_alloc | apply Kd.R_drewN | apply Kd.R_drew)); exact HO_483003.out) hb); have n3_ := Aside0.mk (blk_below (g := gb462) (o := .cells #[.int .i64 t453, .string t454, .string t455, .slice Ao57 t456.length co57, .bool t459] 27 (0, 0)) (by (with_reducible repeat (first | refine blk_drewN ?_ _ | refine blk_drew ?_ | refine blk_alloc ?_ _)); exact BK462.out) hb); have n4_ := Aside0.mk (blk_below (g := gb472) (o := .cells #[.int .i64 t463, .string t464, .string t465, .slice Ao62 t466.length co62, .bool t469] 27 (0, 0)) (by (with_reducible repeat (first | refine blk_drewN ?_ _ | refine blk_drew ?_ | refine blk_alloc ?_ _)); exact BK472.out) hb); have n5_ := Aside0.mk (blk_below (g := gb482) (o := .cells #[.int .i64 t473, .string t474, .string t475, .slice Ao68 t476.length co68, .bool t479] 27 (0, 0)) (by (with_reducible repeat (first | refine blk_drewN ?_ _ | refine blk_drew ?_ | refine blk_alloc ?_ _)); exact BK482.out) hb); have n6_ := Aside0.mk (below_step (by repeat (first | (with_reducible first | exact HB.out | apply below_alloc | apply pw_below_drewN | apply below_drew1 | refine below_set ?_ GE462.out | refine below_set ?_ GE472.out | refine below_set ?_ GE482.out) | exact HB.out)) hb); clear HO_463003; clear HO_473003; clear HO_483003; clear BK462; clear BK472; clear BK482; clear HB; have HO_463003 := n0_; have HO_473003 := n1_; have HO_483003 := n2_; have BK462 := n3_; have BK472 := n4_; have BK482 := n5_; have HB := n6_; clear n0_ n1_ n2_ n3_ n4_ n5_ n6_; (try clear hb); (try clear hb2); (try clear hk); (try clear hi); have p96 : 0 ≤ ((ji93) : Int) := of_decide_eq_true (by first | (with_reducible assumption) | assumption); have q96 : (ji93) < (a0.size : Int) := of_decide_eq_true (by first | (with_reducible assumption) | assumption); have hx96 := bt_at a0 (ji93); replace p96 := eq_true p96; replace q96 := eq_true q96))
                       go_ret
                       exact ⟨by first | rfl | (simp [errW_none, errW_some] <;> rfl) | (simp only [← hji93]; first | rfl | (simp [errW_none, errW_some] <;> rfl)) | (simp [*, errW_none, errW_some] <;> rfl), by repeat (first | (with_reducible first | exact HB.out | apply below_alloc | apply pw_below_drewN | apply below_drew1 | refine below_set ?_ GE462.out | refine below_set ?_ GE472.out | refine below_set ?_ GE482.out) | exact HB.out)⟩
                      ·rw [if_neg c97] at H
                       have c97b0 : ((bt a0 (ji93)) == 93) = false := beq_eq_false_iff_ne.mpr c97
                       have c97b1 : ((bt a0 (ji93)) != 93) = true := bne_iff_ne.mpr c97
                       by_cases c99 : t481 = 0
                       ·rw [if_pos c99] at H
                        have c99b0 : (t481 == 0) = true := beq_iff_eq.mpr c99
                        have c99b1 : (t481 != 0) = false := bne_eq_false_iff_eq.mpr c99
                        clear c99
                        by_cases c100 : t475.toList = a0.toList
                        ·as_aux_lemma =>
                         rw [if_pos c100] at H
                         have c100b0 : (t475.toList == a0.toList) = true := beq_iff_eq.mpr c100
                         have c100b1 : (t475.toList != a0.toList) = false := bne_eq_false_iff_eq.mpr c100
                         clear c100
                         obtain rfl := Option.some.inj H
                         go_wp2_with (first | (go_at_call 14; (with_reducible refine (brackenlaw10_told.calls kj52  true _ (Env.below HE.out (by repeat (first | (with_reducible first | exact HB.out | apply below_alloc | apply pw_below_drewN | apply below_drew1 | refine below_set ?_ GE462.out | refine below_set ?_ GE472.out | refine below_set ?_ GE482.out) | exact HB.out))) hidTrue A88.out).mono ?_); rintro e w101 ⟨rfl, hb⟩; have n0_ := Aside0.mk (Kd.R_below (by (with_reducible repeat (first | apply Kd.R_alloc | apply Kd.R_drewN | apply Kd.R_drew)); exact HO_463003.out) hb); have n1_ := Aside0.mk (Kd.R_below (by (with_reducible repeat (first | apply Kd.R_alloc | apply Kd.R_drewN | apply Kd.R_drew)); exact HO_473003.out) hb); have n2_ := Aside0.mk (Kd.R_below (by (with_reducible repeat (first | apply Kd.R_alloc | apply Kd.R_drewN | apply Kd.R_drew)); exact HO_483003.out) hb); have n3_ := Aside0.mk (blk_below (g := gb462) (o := .cells #[.int .i64 t453, .string t454, .string t455, .slice Ao57 t456.length co57, .bool t459] 27 (0, 0)) (by (with_reducible repeat (first | refine blk_drewN ?_ _ | refine blk_drew ?_ | refine blk_alloc ?_ _)); exact BK462.out) hb); have n4_ := Aside0.mk (blk_below (g := gb472) (o := .cells #[.int .i64 t463, .string t464, .string t465, .slice Ao62 t466.length co62, .bool t469] 27 (0, 0)) (by (with_reducible repeat (first | refine blk_drewN ?_ _ | refine blk_drew ?_ | refine blk_alloc ?_ _)); exact BK472.out) hb); have n5_ := Aside0.mk (blk_below (g := gb482) (o := .cells #[.int .i64 t473, .string t474, .string t475, .slice Ao68 t476.length co68, .bool t479] 27 (0, 0)) (by (with_reducible repeat (first | refine blk_drewN ?_ _ | refine blk_drew ?_ | refine blk_alloc ?_ _)); exact BK482.out) hb); have n6_ := Aside0.mk (below_step (by repeat (first | (with_reducible first | exact HB.out | apply below_alloc | apply pw_below_drewN | apply below_drew1 | refine below_set ?_ GE462.out | refine below_set ?_ GE472.out | refine below_set ?_ GE482.out) | exact HB.out)) hb); clear HO_463003; clear HO_473003; clear HO_483003; clear BK462; clear BK472; clear BK482; clear HB; have HO_463003 := n0_; have HO_473003 := n1_; have HO_483003 := n2_; have BK462 := n3_; have BK472 := n4_; have BK482 := n5_; have HB := n6_; clear n0_ n1_ n2_ n3_ n4_ n5_ n6_; (try clear hb); (try clear hb2); (try clear hk); (try clear hi); have p96 : 0 ≤ ((ji93) : Int) := of_decide_eq_true (by first | (with_reducible assumption) | assumption); have q96 : (ji93) < (a0.size : Int) := of_decide_eq_true (by first | (with_reducible assumption) | assumption); have hx96 := bt_at a0 (ji93); replace p96 := eq_true p96; replace q96 := eq_true q96; have hnb102 := NB482_462.out; have hnc102 := NB462_482.out; have hnb103 := NB482_472.out; have hnc103 := NB472_482.out; have hcz104_0 : w101.cell? ⟨gb482, 0, none⟩ = some (.int .i64 t473) := (blk_cell BK482.out 0).trans rfl; have hcz104_1 : w101.cell? ⟨gb482, 1, none⟩ = some (.string t474) := (blk_cell BK482.out 1).trans rfl; have hcz104_2 : w101.cell? ⟨gb482, 2, none⟩ = some (.string t475) := (blk_cell BK482.out 2).trans rfl; have hcz104_3 : w101.cell? ⟨gb482, 3, none⟩ = some (.slice Ao68 t476.length co68) := (blk_cell BK482.out 3).trans rfl; have hcz104_4 : w101.cell? ⟨gb482, 4, none⟩ = some (.bool t479) := (blk_cell BK482.out 4).trans rfl; have hfz104_0 := blk_frozen BK482.out 0; have hfz104_1 := blk_frozen BK482.out 1; have hfz104_2 := blk_frozen BK482.out 2; have hfz104_3 := blk_frozen BK482.out 3; have hfz104_4 := blk_frozen BK482.out 4))
                         go_ret
                         exact ⟨by first | rfl | (simp [errW_none, errW_some] <;> rfl) | (simp only [← hji93]; first | rfl | (simp [errW_none, errW_some] <;> rfl)) | (simp [*, errW_none, errW_some] <;> rfl), by repeat (first | (with_reducible first | exact HB.out | apply below_alloc | apply pw_below_drewN | apply below_drew1 | refine below_set ?_ GE462.out | refine below_set ?_ GE472.out | refine below_set ?_ GE482.out) | exact HB.out)⟩
                        ·rw [if_neg c100] at H
                         have c100b0 : (t475.toList == a0.toList) = false := beq_eq_false_iff_ne.mpr c100
                         have c100b1 : (t475.toList != a0.toList) = true := bne_iff_ne.mpr c100
                         exact absurd ((Option.some.inj H).trans hTrue.out) (by decide)
                       ·rw [if_neg c99] at H
                        have c99b0 : (t481 == 0) = false := beq_eq_false_iff_ne.mpr c99
                        have c99b1 : (t481 != 0) = true := bne_iff_ne.mpr c99
                        exact absurd ((Option.some.inj H).trans hTrue.out) (by decide)
                     ·rw [if_neg c95] at H
                      exact absurd H (by simp)
                    ·rw [if_neg c94] at H
                     exact absurd H (by simp)
                   ·rw [if_neg c92] at H
                    have c92b0 : decide (0 < (a0.size : Int)) = false := decide_eq_false c92
                    have c92b1 : decide (0 < a0.size) = false := decide_eq_false (by omega)
                    clear c92
                    by_cases c105 : t481 = 0
                    ·rw [if_pos c105] at H
                     have c105b0 : (t481 == 0) = true := beq_iff_eq.mpr c105
                     have c105b1 : (t481 != 0) = false := bne_eq_false_iff_eq.mpr c105
                     clear c105
                     by_cases c106 : t475.toList = a0.toList
                     ·as_aux_lemma =>
                      rw [if_pos c106] at H
                      have c106b0 : (t475.toList == a0.toList) = true := beq_iff_eq.mpr c106
                      have c106b1 : (t475.toList != a0.toList) = false := bne_eq_false_iff_eq.mpr c106
                      clear c106
                      obtain rfl := Option.some.inj H
                      go_wp2_with (first | (go_at_call 14; (with_reducible refine (brackenlaw10_told.calls kj52  true _ (Env.below HE.out (by repeat (first | (with_reducible first | exact HB.out | apply below_alloc | apply pw_below_drewN | apply below_drew1 | refine below_set ?_ GE462.out | refine below_set ?_ GE472.out | refine below_set ?_ GE482.out) | exact HB.out))) hidTrue A88.out).mono ?_); rintro e w107 ⟨rfl, hb⟩; have n0_ := Aside0.mk (Kd.R_below (by (with_reducible repeat (first | apply Kd.R_alloc | apply Kd.R_drewN | apply Kd.R_drew)); exact HO_463003.out) hb); have n1_ := Aside0.mk (Kd.R_below (by (with_reducible repeat (first | apply Kd.R_alloc | apply Kd.R_drewN | apply Kd.R_drew)); exact HO_473003.out) hb); have n2_ := Aside0.mk (Kd.R_below (by (with_reducible repeat (first | apply Kd.R_alloc | apply Kd.R_drewN | apply Kd.R_drew)); exact HO_483003.out) hb); have n3_ := Aside0.mk (blk_below (g := gb462) (o := .cells #[.int .i64 t453, .string t454, .string t455, .slice Ao57 t456.length co57, .bool t459] 27 (0, 0)) (by (with_reducible repeat (first | refine blk_drewN ?_ _ | refine blk_drew ?_ | refine blk_alloc ?_ _)); exact BK462.out) hb); have n4_ := Aside0.mk (blk_below (g := gb472) (o := .cells #[.int .i64 t463, .string t464, .string t465, .slice Ao62 t466.length co62, .bool t469] 27 (0, 0)) (by (with_reducible repeat (first | refine blk_drewN ?_ _ | refine blk_drew ?_ | refine blk_alloc ?_ _)); exact BK472.out) hb); have n5_ := Aside0.mk (blk_below (g := gb482) (o := .cells #[.int .i64 t473, .string t474, .string t475, .slice Ao68 t476.length co68, .bool t479] 27 (0, 0)) (by (with_reducible repeat (first | refine blk_drewN ?_ _ | refine blk_drew ?_ | refine blk_alloc ?_ _)); exact BK482.out) hb); have n6_ := Aside0.mk (below_step (by repeat (first | (with_reducible first | exact HB.out | apply below_alloc | apply pw_below_drewN | apply below_drew1 | refine below_set ?_ GE462.out | refine below_set ?_ GE472.out | refine below_set ?_ GE482.out) | exact HB.out)) hb); clear HO_463003; clear HO_473003; clear HO_483003; clear BK462; clear BK472; clear BK482; clear HB; have HO_463003 := n0_; have HO_473003 := n1_; have HO_483003 := n2_; have BK462 := n3_; have BK472 := n4_; have BK482 := n5_; have HB := n6_; clear n0_ n1_ n2_ n3_ n4_ n5_ n6_; (try clear hb); (try clear hb2); (try clear hk); (try clear hi); have hnb108 := NB482_462.out; have hnc108 := NB462_482.out; have hnb109 := NB482_472.out; have hnc109 := NB472_482.out; have hcz110_0 : w107.cell? ⟨gb482, 0, none⟩ = some (.int .i64 t473) := (blk_cell BK482.out 0).trans rfl; have hcz110_1 : w107.cell? ⟨gb482, 1, none⟩ = some (.string t474) := (blk_cell BK482.out 1).trans rfl; have hcz110_2 : w107.cell? ⟨gb482, 2, none⟩ = some (.string t475) := (blk_cell BK482.out 2).trans rfl; have hcz110_3 : w107.cell? ⟨gb482, 3, none⟩ = some (.slice Ao68 t476.length co68) := (blk_cell BK482.out 3).trans rfl; have hcz110_4 : w107.cell? ⟨gb482, 4, none⟩ = some (.bool t479) := (blk_cell BK482.out 4).trans rfl; have hfz110_0 := blk_frozen BK482.out 0; have hfz110_1 := blk_frozen BK482.out 1; have hfz110_2 := blk_frozen BK482.out 2; have hfz110_3 := blk_frozen BK482.out 3; have hfz110_4 := blk_frozen BK482.out 4))
                      go_ret
                      exact ⟨by first | rfl | (simp [errW_none, errW_some] <;> rfl) | (simp [*, errW_none, errW_some] <;> rfl), by repeat (first | (with_reducible first | exact HB.out | apply below_alloc | apply pw_below_drewN | apply below_drew1 | refine below_set ?_ GE462.out | refine below_set ?_ GE472.out | refine below_set ?_ GE482.out) | exact HB.out)⟩
                     ·rw [if_neg c106] at H
                      have c106b0 : (t475.toList == a0.toList) = false := beq_eq_false_iff_ne.mpr c106
                      have c106b1 : (t475.toList != a0.toList) = true := bne_iff_ne.mpr c106
                      exact absurd ((Option.some.inj H).trans hTrue.out) (by decide)
                    ·rw [if_neg c105] at H
                     have c105b0 : (t481 == 0) = false := beq_eq_false_iff_ne.mpr c105
                     have c105b1 : (t481 != 0) = true := bne_iff_ne.mpr c105
                     exact absurd ((Option.some.inj H).trans hTrue.out) (by decide)
                 ·as_aux_lemma =>
                  replace c89 := Bool.eq_false_iff.mpr c89
                  subst c89
                  rw [if_neg (show ¬ (false = true) by decide)] at H
                  try dsimp only at H
                  exact absurd ((Option.some.inj H).trans hTrue.out) (by decide)
                ·as_aux_lemma =>
                 replace c87 := Bool.eq_false_iff.mpr c87
                 subst c87
                 rw [if_neg (show ¬ (false = true) by decide)] at H
                 try dsimp only at H
                 by_cases c111 : (a0.size : Int) = 0
                 ·rw [if_pos c111] at H
                  have c111b0 : ((a0.size : Int) == 0) = true := beq_iff_eq.mpr c111
                  have c111b1 : ((a0.size : Int) != 0) = false := bne_eq_false_iff_eq.mpr c111
                  clear c111
                  by_cases c112 : t471 = 0
                  ·as_aux_lemma =>
                   rw [if_pos c112] at H
                   have c112b0 : (t471 == 0) = true := beq_iff_eq.mpr c112
                   have c112b1 : (t471 != 0) = false := bne_eq_false_iff_eq.mpr c112
                   clear c112
                   by_cases c113 : 1 + a0.size ≤ 9223372036854775807
                   ·rw [if_pos c113] at H
                    have c113b0 := eq_true c113
                    have c113b1 : decide (1 + a0.size ≤ 9223372036854775807) = true := decide_eq_true c113
                    try have c113b2 : (9223372036854775807 < 1 + a0.size) = False := eq_false (Nat.not_lt.2 c113)
                    by_cases c114 : t465.toList = ((⟨#[120]⟩ : ByteArray) ++ a0).toList
                    ·rw [if_pos c114] at H
                     have c114b0 : (t465.toList == ((⟨#[120]⟩ : ByteArray) ++ a0).toList) = true := beq_iff_eq.mpr c114
                     have c114b1 : (t465.toList != ((⟨#[120]⟩ : ByteArray) ++ a0).toList) = false := bne_eq_false_iff_eq.mpr c114
                     clear c114
                     by_cases c115 : t470 = (wrap64 ((a0.size : Int) + 7))
                     ·as_aux_lemma =>
                      rw [if_pos c115] at H
                      have c115b0 : (t470 == (wrap64 ((a0.size : Int) + 7))) = true := beq_iff_eq.mpr c115
                      have c115b1 : (t470 != (wrap64 ((a0.size : Int) + 7))) = false := bne_eq_false_iff_eq.mpr c115
                      try (have c115b2 : (t470 == ((a0.size : Int) + 7)) = true := by rw [← c115b0]; congr 1; unfold wrap64; omega)
                      try (have c115b3 : (t470 != ((a0.size : Int) + 7)) = false := by rw [← c115b1]; congr 1; unfold wrap64; omega)
                      clear c115
                      replace H := Option.bind_eq_some_iff.mp H
                      obtain ⟨t484, A1160, H⟩ := H
                      try dsimp only at H
                      have A116 := Aside0.mk A1160
                      clear A1160
                      by_cases c117 : t484 = true
                      ·as_aux_lemma =>
                       subst c117
                       rw [if_pos rfl] at H
                       try dsimp only at H
                       by_cases c118 : x5_2 = true
                       ·as_aux_lemma =>
                        subst c118
                        rw [if_pos rfl] at H
                        try dsimp only at H
                        obtain rfl := Option.some.inj H
                        have hnb119 := NB472_462.out
                        have hnc119 := NB462_472.out
                        have hnb120 := NB472_482.out
                        have hnc120 := NB482_472.out
                        have hcz121_0 : wc.cell? ⟨gb472, 0, none⟩ = some (.int .i64 t463) := (blk_cell BK472.out 0).trans rfl
                        have hcz121_1 : wc.cell? ⟨gb472, 1, none⟩ = some (.string t464) := (blk_cell BK472.out 1).trans rfl
                        have hcz121_2 : wc.cell? ⟨gb472, 2, none⟩ = some (.string t465) := (blk_cell BK472.out 2).trans rfl
                        have hcz121_3 : wc.cell? ⟨gb472, 3, none⟩ = some (.slice Ao62 t466.length co62) := (blk_cell BK472.out 3).trans rfl
                        have hcz121_4 : wc.cell? ⟨gb472, 4, none⟩ = some (.bool t469) := (blk_cell BK472.out 4).trans rfl
                        have hfz121_0 := blk_frozen BK472.out 0
                        have hfz121_1 := blk_frozen BK472.out 1
                        have hfz121_2 := blk_frozen BK472.out 2
                        have hfz121_3 := blk_frozen BK472.out 3
                        have hfz121_4 := blk_frozen BK472.out 4
                        go_wp2_with (first | (go_at_call 14; (with_reducible refine (brackenlaw10_told.calls kj52  true _ (Env.below HE.out (by repeat (first | (with_reducible first | exact HB.out | apply below_alloc | apply pw_below_drewN | apply below_drew1 | refine below_set ?_ GE462.out | refine below_set ?_ GE472.out | refine below_set ?_ GE482.out) | exact HB.out))) hidTrue A116.out).mono ?_); rintro e w122 ⟨rfl, hb⟩; have n0_ := Aside0.mk (Kd.R_below (by (with_reducible repeat (first | apply Kd.R_alloc | apply Kd.R_drewN | apply Kd.R_drew)); exact HO_463003.out) hb); have n1_ := Aside0.mk (Kd.R_below (by (with_reducible repeat (first | apply Kd.R_alloc | apply Kd.R_drewN | apply Kd.R_drew)); exact HO_473003.out) hb); have n2_ := Aside0.mk (Kd.R_below (by (with_reducible repeat (first | apply Kd.R_alloc | apply Kd.R_drewN | apply Kd.R_drew)); exact HO_483003.out) hb); have n3_ := Aside0.mk (blk_below (g := gb462) (o := .cells #[.int .i64 t453, .string t454, .string t455, .slice Ao57 t456.length co57, .bool t459] 27 (0, 0)) (by (with_reducible repeat (first | refine blk_drewN ?_ _ | refine blk_drew ?_ | refine blk_alloc ?_ _)); exact BK462.out) hb); have n4_ := Aside0.mk (blk_below (g := gb472) (o := .cells #[.int .i64 t463, .string t464, .string t465, .slice Ao62 t466.length co62, .bool t469] 27 (0, 0)) (by (with_reducible repeat (first | refine blk_drewN ?_ _ | refine blk_drew ?_ | refine blk_alloc ?_ _)); exact BK472.out) hb); have n5_ := Aside0.mk (blk_below (g := gb482) (o := .cells #[.int .i64 t473, .string t474, .string t475, .slice Ao68 t476.length co68, .bool t479] 27 (0, 0)) (by (with_reducible repeat (first | refine blk_drewN ?_ _ | refine blk_drew ?_ | refine blk_alloc ?_ _)); exact BK482.out) hb); have n6_ := Aside0.mk (below_step (by repeat (first | (with_reducible first | exact HB.out | apply below_alloc | apply pw_below_drewN | apply below_drew1 | refine below_set ?_ GE462.out | refine below_set ?_ GE472.out | refine below_set ?_ GE482.out) | exact HB.out)) hb); clear HO_463003; clear HO_473003; clear HO_483003; clear BK462; clear BK472; clear BK482; clear HB; have HO_463003 := n0_; have HO_473003 := n1_; have HO_483003 := n2_; have BK462 := n3_; have BK472 := n4_; have BK482 := n5_; have HB := n6_; clear n0_ n1_ n2_ n3_ n4_ n5_ n6_; (try clear hb); (try clear hb2); (try clear hk); (try clear hi)))
                        go_ret
                        exact ⟨by first | rfl | (simp [errW_none, errW_some] <;> rfl) | (simp [*, errW_none, errW_some] <;> rfl), by repeat (first | (with_reducible first | exact HB.out | apply below_alloc | apply pw_below_drewN | apply below_drew1 | refine below_set ?_ GE462.out | refine below_set ?_ GE472.out | refine below_set ?_ GE482.out) | exact HB.out)⟩
                       ·as_aux_lemma =>
                        replace c118 := Bool.eq_false_iff.mpr c118
                        subst c118
                        rw [if_neg (show ¬ (false = true) by decide)] at H
                        try dsimp only at H
                        by_cases c123 : (a0.size : Int) > 0
                        ·as_aux_lemma =>
                         rw [if_pos c123] at H
                         have c123b0 : decide (0 < (a0.size : Int)) = true := decide_eq_true c123
                         have c123b1 : decide (0 < a0.size) = true := decide_eq_true (by omega)
                         clear c123
                         obtain ⟨ji124, hji124⟩ : ∃ j_ : Int, (wrap64 ((a0.size : Int) - 1)) = j_ := ⟨_, rfl⟩
                         replace H : (if 0 ≤ (ji124) then (if (ji124) < (a0.size : Int) then (if (bt a0 (ji124)) = 93 then (some true) else (if t481 = 0 then (if t475.toList = a0.toList then (some (t480 == (wrap64 ((a0.size : Int) + 12)))) else (some false)) else (some false))) else (none)) else (none)) = some r := by first | (rw [hji124] at H; exact H) | (simp only [hji124] at H ⊢; exact H)
                         (try rw [hji124] at A116)
                         have hji124w : (IntKind.i64.wrap ((a0.size : Int) - 1)) = ji124 := (i64_w _).trans hji124
                         by_cases c125 : 0 ≤ (ji124)
                         ·rw [if_pos c125] at H
                          have c125b0 : decide (0 ≤ (ji124)) = true := decide_eq_true c125
                          clear c125
                          by_cases c126 : (ji124) < (a0.size : Int)
                          ·rw [if_pos c126] at H
                           have c126b0 : decide ((ji124) < (a0.size : Int)) = true := decide_eq_true c126
                           clear c126
                           by_cases c128 : (bt a0 (ji124)) = 93
                           ·as_aux_lemma =>
                            rw [if_pos c128] at H
                            have c128b0 : ((bt a0 (ji124)) == 93) = true := beq_iff_eq.mpr c128
                            have c128b1 : ((bt a0 (ji124)) != 93) = false := bne_eq_false_iff_eq.mpr c128
                            clear c128
                            obtain rfl := Option.some.inj H
                            have hnb129 := NB472_462.out
                            have hnc129 := NB462_472.out
                            have hnb130 := NB472_482.out
                            have hnc130 := NB482_472.out
                            have hcz131_0 : wc.cell? ⟨gb472, 0, none⟩ = some (.int .i64 t463) := (blk_cell BK472.out 0).trans rfl
                            have hcz131_1 : wc.cell? ⟨gb472, 1, none⟩ = some (.string t464) := (blk_cell BK472.out 1).trans rfl
                            have hcz131_2 : wc.cell? ⟨gb472, 2, none⟩ = some (.string t465) := (blk_cell BK472.out 2).trans rfl
                            have hcz131_3 : wc.cell? ⟨gb472, 3, none⟩ = some (.slice Ao62 t466.length co62) := (blk_cell BK472.out 3).trans rfl
                            have hcz131_4 : wc.cell? ⟨gb472, 4, none⟩ = some (.bool t469) := (blk_cell BK472.out 4).trans rfl
                            have hfz131_0 := blk_frozen BK472.out 0
                            have hfz131_1 := blk_frozen BK472.out 1
                            have hfz131_2 := blk_frozen BK472.out 2
                            have hfz131_3 := blk_frozen BK472.out 3
                            have hfz131_4 := blk_frozen BK472.out 4
                            go_wp2_with (first | (go_at_call 14; (with_reducible refine (brackenlaw10_told.calls kj52  true _ (Env.below HE.out (by repeat (first | (with_reducible first | exact HB.out | apply below_alloc | apply pw_below_drewN | apply below_drew1 | refine below_set ?_ GE462.out | refine below_set ?_ GE472.out | refine below_set ?_ GE482.out) | exact HB.out))) hidTrue A116.out).mono ?_); rintro e w132 ⟨rfl, hb⟩; have n0_ := Aside0.mk (Kd.R_below (by (with_reducible repeat (first | apply Kd.R_alloc | apply Kd.R_drewN | apply Kd.R_drew)); exact HO_463003.out) hb); have n1_ := Aside0.mk (Kd.R_below (by (with_reducible repeat (first | apply Kd.R_alloc | apply Kd.R_drewN | apply Kd.R_drew)); exact HO_473003.out) hb); have n2_ := Aside0.mk (Kd.R_below (by (with_reducible repeat (first | apply Kd.R_alloc | apply Kd.R_drewN | apply Kd.R_drew)); exact HO_483003.out) hb); have n3_ := Aside0.mk (blk_below (g := gb462) (o := .cells #[.int .i64 t453, .string t454, .string t455, .slice Ao57 t456.length co57, .bool t459] 27 (0, 0)) (by (with_reducible repeat (first | refine blk_drewN ?_ _ | refine blk_drew ?_ | refine blk_alloc ?_ _)); exact BK462.out) hb); have n4_ := Aside0.mk (blk_below (g := gb472) (o := .cells #[.int .i64 t463, .string t464, .string t465, .slice Ao62 t466.length co62, .bool t469] 27 (0, 0)) (by (with_reducible repeat (first | refine blk_drewN ?_ _ | refine blk_drew ?_ | refine blk_alloc ?_ _)); exact BK472.out) hb); have n5_ := Aside0.mk (blk_below (g := gb482) (o := .cells #[.int .i64 t473, .string t474, .string t475, .slice Ao68 t476.length co68, .bool t479] 27 (0, 0)) (by (with_reducible repeat (first | refine blk_drewN ?_ _ | refine blk_drew ?_ | refine blk_alloc ?_ _)); exact BK482.out) hb); have n6_ := Aside0.mk (below_step (by repeat (first | (with_reducible first | exact HB.out | apply below_alloc | apply pw_below_drewN | apply below_drew1 | refine below_set ?_ GE462.out | refine below_set ?_ GE472.out | refine below_set ?_ GE482.out) | exact HB.out)) hb); clear HO_463003; clear HO_473003; clear HO_483003; clear BK462; clear BK472; clear BK482; clear HB; have HO_463003 := n0_; have HO_473003 := n1_; have HO_483003 := n2_; have BK462 := n3_; have BK472 := n4_; have BK482 := n5_; have HB := n6_; clear n0_ n1_ n2_ n3_ n4_ n5_ n6_; (try clear hb); (try clear hb2); (try clear hk); (try clear hi); have p127 : 0 ≤ ((ji124) : Int) := of_decide_eq_true (by first | (with_reducible assumption) | assumption); have q127 : (ji124) < (a0.size : Int) := of_decide_eq_true (by first | (with_reducible assumption) | assumption); have hx127 := bt_at a0 (ji124); replace p127 := eq_true p127; replace q127 := eq_true q127))
                            go_ret
                            exact ⟨by first | rfl | (simp [errW_none, errW_some] <;> rfl) | (simp only [← hji124]; first | rfl | (simp [errW_none, errW_some] <;> rfl)) | (simp [*, errW_none, errW_some] <;> rfl), by repeat (first | (with_reducible first | exact HB.out | apply below_alloc | apply pw_below_drewN | apply below_drew1 | refine below_set ?_ GE462.out | refine below_set ?_ GE472.out | refine below_set ?_ GE482.out) | exact HB.out)⟩
                           ·rw [if_neg c128] at H
                            have c128b0 : ((bt a0 (ji124)) == 93) = false := beq_eq_false_iff_ne.mpr c128
                            have c128b1 : ((bt a0 (ji124)) != 93) = true := bne_iff_ne.mpr c128
                            by_cases c133 : t481 = 0
                            ·rw [if_pos c133] at H
                             have c133b0 : (t481 == 0) = true := beq_iff_eq.mpr c133
                             have c133b1 : (t481 != 0) = false := bne_eq_false_iff_eq.mpr c133
                             clear c133
                             by_cases c134 : t475.toList = a0.toList
                             ·rw [if_pos c134] at H
                              have c134b0 : (t475.toList == a0.toList) = true := beq_iff_eq.mpr c134
                              have c134b1 : (t475.toList != a0.toList) = false := bne_eq_false_iff_eq.mpr c134
                              clear c134
                              obtain rfl := Option.some.inj H
                              have hnb135 := NB472_462.out
                              have hnc135 := NB462_472.out
                              have hnb136 := NB472_482.out
                              have hnc136 := NB482_472.out
                              have hcz137_0 : wc.cell? ⟨gb472, 0, none⟩ = some (.int .i64 t463) := (blk_cell BK472.out 0).trans rfl
                              have hcz137_1 : wc.cell? ⟨gb472, 1, none⟩ = some (.string t464) := (blk_cell BK472.out 1).trans rfl
                              have hcz137_2 : wc.cell? ⟨gb472, 2, none⟩ = some (.string t465) := (blk_cell BK472.out 2).trans rfl
                              have hcz137_3 : wc.cell? ⟨gb472, 3, none⟩ = some (.slice Ao62 t466.length co62) := (blk_cell BK472.out 3).trans rfl
                              have hcz137_4 : wc.cell? ⟨gb472, 4, none⟩ = some (.bool t469) := (blk_cell BK472.out 4).trans rfl
                              have hfz137_0 := blk_frozen BK472.out 0
                              have hfz137_1 := blk_frozen BK472.out 1
                              have hfz137_2 := blk_frozen BK472.out 2
                              have hfz137_3 := blk_frozen BK472.out 3
                              have hfz137_4 := blk_frozen BK472.out 4
                              go_wp2_with (first | (go_at_call 14; (with_reducible refine (brackenlaw10_told.calls kj52  true _ (Env.below HE.out (by repeat (first | (with_reducible first | exact HB.out | apply below_alloc | apply pw_below_drewN | apply below_drew1 | refine below_set ?_ GE462.out | refine below_set ?_ GE472.out | refine below_set ?_ GE482.out) | exact HB.out))) hidTrue A116.out).mono ?_); rintro e w138 ⟨rfl, hb⟩; have n0_ := Aside0.mk (Kd.R_below (by (with_reducible repeat (first | apply Kd.R_alloc | apply Kd.R_drewN | apply Kd.R_drew)); exact HO_463003.out) hb); have n1_ := Aside0.mk (Kd.R_below (by (with_reducible repeat (first | apply Kd.R_alloc | apply Kd.R_drewN | apply Kd.R_drew)); exact HO_473003.out) hb); have n2_ := Aside0.mk (Kd.R_below (by (with_reducible repeat (first | apply Kd.R_alloc | apply Kd.R_drewN | apply Kd.R_drew)); exact HO_483003.out) hb); have n3_ := Aside0.mk (blk_below (g := gb462) (o := .cells #[.int .i64 t453, .string t454, .string t455, .slice Ao57 t456.length co57, .bool t459] 27 (0, 0)) (by (with_reducible repeat (first | refine blk_drewN ?_ _ | refine blk_drew ?_ | refine blk_alloc ?_ _)); exact BK462.out) hb); have n4_ := Aside0.mk (blk_below (g := gb472) (o := .cells #[.int .i64 t463, .string t464, .string t465, .slice Ao62 t466.length co62, .bool t469] 27 (0, 0)) (by (with_reducible repeat (first | refine blk_drewN ?_ _ | refine blk_drew ?_ | refine blk_alloc ?_ _)); exact BK472.out) hb); have n5_ := Aside0.mk (blk_below (g := gb482) (o := .cells #[.int .i64 t473, .string t474, .string t475, .slice Ao68 t476.length co68, .bool t479] 27 (0, 0)) (by (with_reducible repeat (first | refine blk_drewN ?_ _ | refine blk_drew ?_ | refine blk_alloc ?_ _)); exact BK482.out) hb); have n6_ := Aside0.mk (below_step (by repeat (first | (with_reducible first | exact HB.out | apply below_alloc | apply pw_below_drewN | apply below_drew1 | refine below_set ?_ GE462.out | refine below_set ?_ GE472.out | refine below_set ?_ GE482.out) | exact HB.out)) hb); clear HO_463003; clear HO_473003; clear HO_483003; clear BK462; clear BK472; clear BK482; clear HB; have HO_463003 := n0_; have HO_473003 := n1_; have HO_483003 := n2_; have BK462 := n3_; have BK472 := n4_; have BK482 := n5_; have HB := n6_; clear n0_ n1_ n2_ n3_ n4_ n5_ n6_; (try clear hb); (try clear hb2); (try clear hk); (try clear hi); have p127 : 0 ≤ ((ji124) : Int) := of_decide_eq_true (by first | (with_reducible assumption) | assumption); have q127 : (ji124) < (a0.size : Int) := of_decide_eq_true (by first | (with_reducible assumption) | assumption); have hx127 := bt_at a0 (ji124); replace p127 := eq_true p127; replace q127 := eq_true q127; have hnb139 := NB482_462.out; have hnc139 := NB462_482.out; have hcz140_0 : w138.cell? ⟨gb482, 0, none⟩ = some (.int .i64 t473) := (blk_cell BK482.out 0).trans rfl; have hcz140_1 : w138.cell? ⟨gb482, 1, none⟩ = some (.string t474) := (blk_cell BK482.out 1).trans rfl; have hcz140_2 : w138.cell? ⟨gb482, 2, none⟩ = some (.string t475) := (blk_cell BK482.out 2).trans rfl; have hcz140_3 : w138.cell? ⟨gb482, 3, none⟩ = some (.slice Ao68 t476.length co68) := (blk_cell BK482.out 3).trans rfl; have hcz140_4 : w138.cell? ⟨gb482, 4, none⟩ = some (.bool t479) := (blk_cell BK482.out 4).trans rfl; have hfz140_0 := blk_frozen BK482.out 0; have hfz140_1 := blk_frozen BK482.out 1; have hfz140_2 := blk_frozen BK482.out 2; have hfz140_3 := blk_frozen BK482.out 3; have hfz140_4 := blk_frozen BK482.out 4))
                              go_ret
                              exact ⟨by first | rfl | (simp [errW_none, errW_some] <;> rfl) | (simp only [← hji124]; first | rfl | (simp [errW_none, errW_some] <;> rfl)) | (simp [*, errW_none, errW_some] <;> rfl), by repeat (first | (with_reducible first | exact HB.out | apply below_alloc | apply pw_below_drewN | apply below_drew1 | refine below_set ?_ GE462.out | refine below_set ?_ GE472.out | refine below_set ?_ GE482.out) | exact HB.out)⟩
                             ·rw [if_neg c134] at H
                              have c134b0 : (t475.toList == a0.toList) = false := beq_eq_false_iff_ne.mpr c134
                              have c134b1 : (t475.toList != a0.toList) = true := bne_iff_ne.mpr c134
                              exact absurd ((Option.some.inj H).trans hTrue.out) (by decide)
                            ·rw [if_neg c133] at H
                             have c133b0 : (t481 == 0) = false := beq_eq_false_iff_ne.mpr c133
                             have c133b1 : (t481 != 0) = true := bne_iff_ne.mpr c133
                             exact absurd ((Option.some.inj H).trans hTrue.out) (by decide)
                          ·rw [if_neg c126] at H
                           exact absurd H (by simp)
                         ·rw [if_neg c125] at H
                          exact absurd H (by simp)
                        ·rw [if_neg c123] at H
                         have c123b0 : decide (0 < (a0.size : Int)) = false := decide_eq_false c123
                         have c123b1 : decide (0 < a0.size) = false := decide_eq_false (by omega)
                         clear c123
                         by_cases c141 : t481 = 0
                         ·rw [if_pos c141] at H
                          have c141b0 : (t481 == 0) = true := beq_iff_eq.mpr c141
                          have c141b1 : (t481 != 0) = false := bne_eq_false_iff_eq.mpr c141
                          clear c141
                          by_cases c142 : t475.toList = a0.toList
                          ·rw [if_pos c142] at H
                           have c142b0 : (t475.toList == a0.toList) = true := beq_iff_eq.mpr c142
                           have c142b1 : (t475.toList != a0.toList) = false := bne_eq_false_iff_eq.mpr c142
                           clear c142
                           obtain rfl := Option.some.inj H
                           have hnb143 := NB472_462.out
                           have hnc143 := NB462_472.out
                           have hnb144 := NB472_482.out
                           have hnc144 := NB482_472.out
                           have hcz145_0 : wc.cell? ⟨gb472, 0, none⟩ = some (.int .i64 t463) := (blk_cell BK472.out 0).trans rfl
                           have hcz145_1 : wc.cell? ⟨gb472, 1, none⟩ = some (.string t464) := (blk_cell BK472.out 1).trans rfl
                           have hcz145_2 : wc.cell? ⟨gb472, 2, none⟩ = some (.string t465) := (blk_cell BK472.out 2).trans rfl
                           have hcz145_3 : wc.cell? ⟨gb472, 3, none⟩ = some (.slice Ao62 t466.length co62) := (blk_cell BK472.out 3).trans rfl
                           have hcz145_4 : wc.cell? ⟨gb472, 4, none⟩ = some (.bool t469) := (blk_cell BK472.out 4).trans rfl
                           have hfz145_0 := blk_frozen BK472.out 0
                           have hfz145_1 := blk_frozen BK472.out 1
                           have hfz145_2 := blk_frozen BK472.out 2
                           have hfz145_3 := blk_frozen BK472.out 3
                           have hfz145_4 := blk_frozen BK472.out 4
                           go_wp2_with (first | (go_at_call 14; (with_reducible refine (brackenlaw10_told.calls kj52  true _ (Env.below HE.out (by repeat (first | (with_reducible first | exact HB.out | apply below_alloc | apply pw_below_drewN | apply below_drew1 | refine below_set ?_ GE462.out | refine below_set ?_ GE472.out | refine below_set ?_ GE482.out) | exact HB.out))) hidTrue A116.out).mono ?_); rintro e w146 ⟨rfl, hb⟩; have n0_ := Aside0.mk (Kd.R_below (by (with_reducible repeat (first | apply Kd.R_alloc | apply Kd.R_drewN | apply Kd.R_drew)); exact HO_463003.out) hb); have n1_ := Aside0.mk (Kd.R_below (by (with_reducible repeat (first | apply Kd.R_alloc | apply Kd.R_drewN | apply Kd.R_drew)); exact HO_473003.out) hb); have n2_ := Aside0.mk (Kd.R_below (by (with_reducible repeat (first | apply Kd.R_alloc | apply Kd.R_drewN | apply Kd.R_drew)); exact HO_483003.out) hb); have n3_ := Aside0.mk (blk_below (g := gb462) (o := .cells #[.int .i64 t453, .string t454, .string t455, .slice Ao57 t456.length co57, .bool t459] 27 (0, 0)) (by (with_reducible repeat (first | refine blk_drewN ?_ _ | refine blk_drew ?_ | refine blk_alloc ?_ _)); exact BK462.out) hb); have n4_ := Aside0.mk (blk_below (g := gb472) (o := .cells #[.int .i64 t463, .string t464, .string t465, .slice Ao62 t466.length co62, .bool t469] 27 (0, 0)) (by (with_reducible repeat (first | refine blk_drewN ?_ _ | refine blk_drew ?_ | refine blk_alloc ?_ _)); exact BK472.out) hb); have n5_ := Aside0.mk (blk_below (g := gb482) (o := .cells #[.int .i64 t473, .string t474, .string t475, .slice Ao68 t476.length co68, .bool t479] 27 (0, 0)) (by (with_reducible repeat (first | refine blk_drewN ?_ _ | refine blk_drew ?_ | refine blk_alloc ?_ _)); exact BK482.out) hb); have n6_ := Aside0.mk (below_step (by repeat (first | (with_reducible first | exact HB.out | apply below_alloc | apply pw_below_drewN | apply below_drew1 | refine below_set ?_ GE462.out | refine below_set ?_ GE472.out | refine below_set ?_ GE482.out) | exact HB.out)) hb); clear HO_463003; clear HO_473003; clear HO_483003; clear BK462; clear BK472; clear BK482; clear HB; have HO_463003 := n0_; have HO_473003 := n1_; have HO_483003 := n2_; have BK462 := n3_; have BK472 := n4_; have BK482 := n5_; have HB := n6_; clear n0_ n1_ n2_ n3_ n4_ n5_ n6_; (try clear hb); (try clear hb2); (try clear hk); (try clear hi); have hnb147 := NB482_462.out; have hnc147 := NB462_482.out; have hcz148_0 : w146.cell? ⟨gb482, 0, none⟩ = some (.int .i64 t473) := (blk_cell BK482.out 0).trans rfl; have hcz148_1 : w146.cell? ⟨gb482, 1, none⟩ = some (.string t474) := (blk_cell BK482.out 1).trans rfl; have hcz148_2 : w146.cell? ⟨gb482, 2, none⟩ = some (.string t475) := (blk_cell BK482.out 2).trans rfl; have hcz148_3 : w146.cell? ⟨gb482, 3, none⟩ = some (.slice Ao68 t476.length co68) := (blk_cell BK482.out 3).trans rfl; have hcz148_4 : w146.cell? ⟨gb482, 4, none⟩ = some (.bool t479) := (blk_cell BK482.out 4).trans rfl; have hfz148_0 := blk_frozen BK482.out 0; have hfz148_1 := blk_frozen BK482.out 1; have hfz148_2 := blk_frozen BK482.out 2; have hfz148_3 := blk_frozen BK482.out 3; have hfz148_4 := blk_frozen BK482.out 4))
                           go_ret
                           exact ⟨by first | rfl | (simp [errW_none, errW_some] <;> rfl) | (simp [*, errW_none, errW_some] <;> rfl), by repeat (first | (with_reducible first | exact HB.out | apply below_alloc | apply pw_below_drewN | apply below_drew1 | refine below_set ?_ GE462.out | refine below_set ?_ GE472.out | refine below_set ?_ GE482.out) | exact HB.out)⟩
                          ·rw [if_neg c142] at H
                           have c142b0 : (t475.toList == a0.toList) = false := beq_eq_false_iff_ne.mpr c142
                           have c142b1 : (t475.toList != a0.toList) = true := bne_iff_ne.mpr c142
                           exact absurd ((Option.some.inj H).trans hTrue.out) (by decide)
                         ·rw [if_neg c141] at H
                          have c141b0 : (t481 == 0) = false := beq_eq_false_iff_ne.mpr c141
                          have c141b1 : (t481 != 0) = true := bne_iff_ne.mpr c141
                          exact absurd ((Option.some.inj H).trans hTrue.out) (by decide)
                      ·as_aux_lemma =>
                       replace c117 := Bool.eq_false_iff.mpr c117
                       subst c117
                       rw [if_neg (show ¬ (false = true) by decide)] at H
                       try dsimp only at H
                       exact absurd ((Option.some.inj H).trans hTrue.out) (by decide)
                     ·rw [if_neg c115] at H
                      have c115b0 : (t470 == (wrap64 ((a0.size : Int) + 7))) = false := beq_eq_false_iff_ne.mpr c115
                      have c115b1 : (t470 != (wrap64 ((a0.size : Int) + 7))) = true := bne_iff_ne.mpr c115
                      try (have c115b2 : (t470 == ((a0.size : Int) + 7)) = false := by rw [← c115b0]; congr 1; unfold wrap64; omega)
                      try (have c115b3 : (t470 != ((a0.size : Int) + 7)) = true := by rw [← c115b1]; congr 1; unfold wrap64; omega)
                      exact absurd ((Option.some.inj H).trans hTrue.out) (by decide)
                    ·rw [if_neg c114] at H
                     have c114b0 : (t465.toList == ((⟨#[120]⟩ : ByteArray) ++ a0).toList) = false := beq_eq_false_iff_ne.mpr c114
                     have c114b1 : (t465.toList != ((⟨#[120]⟩ : ByteArray) ++ a0).toList) = true := bne_iff_ne.mpr c114
                     exact absurd ((Option.some.inj H).trans hTrue.out) (by decide)
                   ·rw [if_neg c113] at H
                    exact absurd H (by simp)
                  ·rw [if_neg c112] at H
                   have c112b0 : (t471 == 0) = false := beq_eq_false_iff_ne.mpr c112
                   have c112b1 : (t471 != 0) = true := bne_iff_ne.mpr c112
                   exact absurd ((Option.some.inj H).trans hTrue.out) (by decide)
                 ·rw [if_neg c111] at H
                  have c111b0 : ((a0.size : Int) == 0) = false := beq_eq_false_iff_ne.mpr c111
                  have c111b1 : ((a0.size : Int) != 0) = true := bne_iff_ne.mpr c111
                  obtain ⟨ji149, hji149⟩ : ∃ j_ : Int, (wrap64 ((a0.size : Int) - 1)) = j_ := ⟨_, rfl⟩
                  replace H : (if 0 ≤ (ji149) then (if (ji149) < (a0.size : Int) then (if (bt a0 (ji149)) = 63 then ((brackenlaw10_told.f kj52).bind fun t485 => (if t485 = true then (if x5_2 = true then (some true) else (if (a0.size : Int) > 0 then (if (bt a0 (ji149)) = 93 then (some true) else (if t481 = 0 then (if t475.toList = a0.toList then (some (t480 == (wrap64 ((a0.size : Int) + 12)))) else (some false)) else (some false))) else (if t481 = 0 then (if t475.toList = a0.toList then (some (t480 == (wrap64 ((a0.size : Int) + 12)))) else (some false)) else (some false)))) else (some false))) else (if t471 = 0 then (if 1 + a0.size ≤ 9223372036854775807 then (if t465.toList = ((⟨#[120]⟩ : ByteArray) ++ a0).toList then (if t470 = (wrap64 ((a0.size : Int) + 7)) then ((brackenlaw10_told.f kj52).bind fun t486 => (if t486 = true then (if x5_2 = true then (some true) else (if (a0.size : Int) > 0 then (if (bt a0 (ji149)) = 93 then (some true) else (if t481 = 0 then (if t475.toList = a0.toList then (some (t480 == (wrap64 ((a0.size : Int) + 12)))) else (some false)) else (some false))) else (if t481 = 0 then (if t475.toList = a0.toList then (some (t480 == (wrap64 ((a0.size : Int) + 12)))) else (some false)) else (some false)))) else (some false))) else (some false)) else (some false)) else (none)) else (some false))) else (none)) else (none)) = some r := by first | (rw [hji149] at H; exact H) | (simp only [hji149] at H ⊢; exact H)
                  have hji149w : (IntKind.i64.wrap ((a0.size : Int) - 1)) = ji149 := (i64_w _).trans hji149
                  by_cases c150 : 0 ≤ (ji149)
                  ·as_aux_lemma =>
                   rw [if_pos c150] at H
                   have c150b0 : decide (0 ≤ (ji149)) = true := decide_eq_true c150
                   clear c150
                   by_cases c151 : (ji149) < (a0.size : Int)
                   ·rw [if_pos c151] at H
                    have c151b0 : decide ((ji149) < (a0.size : Int)) = true := decide_eq_true c151
                    clear c151
                    by_cases c153 : (bt a0 (ji149)) = 63
                    ·rw [if_pos c153] at H
                     have c153b0 : ((bt a0 (ji149)) == 63) = true := beq_iff_eq.mpr c153
                     have c153b1 : ((bt a0 (ji149)) != 63) = false := bne_eq_false_iff_eq.mpr c153
                     clear c153
                     replace H := Option.bind_eq_some_iff.mp H
                     obtain ⟨t485, A1540, H⟩ := H
                     try dsimp only at H
                     have A154 := Aside0.mk A1540
                     clear A1540
                     by_cases c155 : t485 = true
                     ·as_aux_lemma =>
                      subst c155
                      rw [if_pos rfl] at H
                      try dsimp only at H
                      by_cases c156 : x5_2 = true
                      ·as_aux_lemma =>
                       subst c156
                       rw [if_pos rfl] at H
                       try dsimp only at H
                       obtain rfl := Option.some.inj H
                       have p152 : 0 ≤ ((ji149) : Int) := of_decide_eq_true (by first | (with_reducible assumption) | assumption)
                       have q152 : (ji149) < (a0.size : Int) := of_decide_eq_true (by first | (with_reducible assumption) | assumption)
                       have hx152 := bt_at a0 (ji149)
                       replace p152 := eq_true p152
                       replace q152 := eq_true q152
                       go_wp2_with (first | (go_at_call 14; (with_reducible refine (brackenlaw10_told.calls kj52  true _ (Env.below HE.out (by repeat (first | (with_reducible first | exact HB.out | apply below_alloc | apply pw_below_drewN | apply below_drew1 | refine below_set ?_ GE462.out | refine below_set ?_ GE472.out | refine below_set ?_ GE482.out) | exact HB.out))) hidTrue A154.out).mono ?_); rintro e w157 ⟨rfl, hb⟩; have n0_ := Aside0.mk (Kd.R_below (by (with_reducible repeat (first | apply Kd.R_alloc | apply Kd.R_drewN | apply Kd.R_drew)); exact HO_463003.out) hb); have n1_ := Aside0.mk (Kd.R_below (by (with_reducible repeat (first | apply Kd.R_alloc | apply Kd.R_drewN | apply Kd.R_drew)); exact HO_473003.out) hb); have n2_ := Aside0.mk (Kd.R_below (by (with_reducible repeat (first | apply Kd.R_alloc | apply Kd.R_drewN | apply Kd.R_drew)); exact HO_483003.out) hb); have n3_ := Aside0.mk (blk_below (g := gb462) (o := .cells #[.int .i64 t453, .string t454, .string t455, .slice Ao57 t456.length co57, .bool t459] 27 (0, 0)) (by (with_reducible repeat (first | refine blk_drewN ?_ _ | refine blk_drew ?_ | refine blk_alloc ?_ _)); exact BK462.out) hb); have n4_ := Aside0.mk (blk_below (g := gb472) (o := .cells #[.int .i64 t463, .string t464, .string t465, .slice Ao62 t466.length co62, .bool t469] 27 (0, 0)) (by (with_reducible repeat (first | refine blk_drewN ?_ _ | refine blk_drew ?_ | refine blk_alloc ?_ _)); exact BK472.out) hb); have n5_ := Aside0.mk (blk_below (g := gb482) (o := .cells #[.int .i64 t473, .string t474, .string t475, .slice Ao68 t476.length co68, .bool t479] 27 (0, 0)) (by (with_reducible repeat (first | refine blk_drewN ?_ _ | refine blk_drew ?_ | refine blk_alloc ?_ _)); exact BK482.out) hb); have n6_ := Aside0.mk (below_step (by repeat (first | (with_reducible first | exact HB.out | apply below_alloc | apply pw_below_drewN | apply below_drew1 | refine below_set ?_ GE462.out | refine below_set ?_ GE472.out | refine below_set ?_ GE482.out) | exact HB.out)) hb); clear HO_463003; clear HO_473003; clear HO_483003; clear BK462; clear BK472; clear BK482; clear HB; have HO_463003 := n0_; have HO_473003 := n1_; have HO_483003 := n2_; have BK462 := n3_; have BK472 := n4_; have BK482 := n5_; have HB := n6_; clear n0_ n1_ n2_ n3_ n4_ n5_ n6_; (try clear hb); (try clear hb2); (try clear hk); (try clear hi)))
                       go_ret
                       exact ⟨by first | rfl | (simp [errW_none, errW_some] <;> rfl) | (simp only [← hji149]; first | rfl | (simp [errW_none, errW_some] <;> rfl)) | (simp [*, errW_none, errW_some] <;> rfl), by repeat (first | (with_reducible first | exact HB.out | apply below_alloc | apply pw_below_drewN | apply below_drew1 | refine below_set ?_ GE462.out | refine below_set ?_ GE472.out | refine below_set ?_ GE482.out) | exact HB.out)⟩
                      ·as_aux_lemma =>
                       replace c156 := Bool.eq_false_iff.mpr c156
                       subst c156
                       rw [if_neg (show ¬ (false = true) by decide)] at H
                       try dsimp only at H
                       by_cases c158 : (a0.size : Int) > 0
                       ·rw [if_pos c158] at H
                        have c158b0 : decide (0 < (a0.size : Int)) = true := decide_eq_true c158
                        have c158b1 : decide (0 < a0.size) = true := decide_eq_true (by omega)
                        clear c158
                        by_cases c160 : (bt a0 (ji149)) = 93
                        ·as_aux_lemma =>
                         rw [if_pos c160] at H
                         have c160b0 : ((bt a0 (ji149)) == 93) = true := beq_iff_eq.mpr c160
                         have c160b1 : ((bt a0 (ji149)) != 93) = false := bne_eq_false_iff_eq.mpr c160
                         clear c160
                         obtain rfl := Option.some.inj H
                         have p152 : 0 ≤ ((ji149) : Int) := of_decide_eq_true (by first | (with_reducible assumption) | assumption)
                         have q152 : (ji149) < (a0.size : Int) := of_decide_eq_true (by first | (with_reducible assumption) | assumption)
                         have hx152 := bt_at a0 (ji149)
                         replace p152 := eq_true p152
                         replace q152 := eq_true q152
                         go_wp2_with (first | (go_at_call 14; (with_reducible refine (brackenlaw10_told.calls kj52  true _ (Env.below HE.out (by repeat (first | (with_reducible first | exact HB.out | apply below_alloc | apply pw_below_drewN | apply below_drew1 | refine below_set ?_ GE462.out | refine below_set ?_ GE472.out | refine below_set ?_ GE482.out) | exact HB.out))) hidTrue A154.out).mono ?_); rintro e w161 ⟨rfl, hb⟩; have n0_ := Aside0.mk (Kd.R_below (by (with_reducible repeat (first | apply Kd.R_alloc | apply Kd.R_drewN | apply Kd.R_drew)); exact HO_463003.out) hb); have n1_ := Aside0.mk (Kd.R_below (by (with_reducible repeat (first | apply Kd.R_alloc | apply Kd.R_drewN | apply Kd.R_drew)); exact HO_473003.out) hb); have n2_ := Aside0.mk (Kd.R_below (by (with_reducible repeat (first | apply Kd.R_alloc | apply Kd.R_drewN | apply Kd.R_drew)); exact HO_483003.out) hb); have n3_ := Aside0.mk (blk_below (g := gb462) (o := .cells #[.int .i64 t453, .string t454, .string t455, .slice Ao57 t456.length co57, .bool t459] 27 (0, 0)) (by (with_reducible repeat (first | refine blk_drewN ?_ _ | refine blk_drew ?_ | refine blk_alloc ?_ _)); exact BK462.out) hb); have n4_ := Aside0.mk (blk_below (g := gb472) (o := .cells #[.int .i64 t463, .string t464, .string t465, .slice Ao62 t466.length co62, .bool t469] 27 (0, 0)) (by (with_reducible repeat (first | refine blk_drewN ?_ _ | refine blk_drew ?_ | refine blk_alloc ?_ _)); exact BK472.out) hb); have n5_ := Aside0.mk (blk_below (g := gb482) (o := .cells #[.int .i64 t473, .string t474, .string t475, .slice Ao68 t476.length co68, .bool t479] 27 (0, 0)) (by (with_reducible repeat (first | refine blk_drewN ?_ _ | refine blk_drew ?_ | refine blk_alloc ?_ _)); exact BK482.out) hb); have n6_ := Aside0.mk (below_step (by repeat (first | (with_reducible first | exact HB.out | apply below_alloc | apply pw_below_drewN | apply below_drew1 | refine below_set ?_ GE462.out | refine below_set ?_ GE472.out | refine below_set ?_ GE482.out) | exact HB.out)) hb); clear HO_463003; clear HO_473003; clear HO_483003; clear BK462; clear BK472; clear BK482; clear HB; have HO_463003 := n0_; have HO_473003 := n1_; have HO_483003 := n2_; have BK462 := n3_; have BK472 := n4_; have BK482 := n5_; have HB := n6_; clear n0_ n1_ n2_ n3_ n4_ n5_ n6_; (try clear hb); (try clear hb2); (try clear hk); (try clear hi); have p159 : 0 ≤ ((ji149) : Int) := of_decide_eq_true (by first | (with_reducible assumption) | assumption); have q159 : (ji149) < (a0.size : Int) := of_decide_eq_true (by first | (with_reducible assumption) | assumption); have hx159 := bt_at a0 (ji149); replace p159 := eq_true p159; replace q159 := eq_true q159))
                         go_ret
                         exact ⟨by first | rfl | (simp [errW_none, errW_some] <;> rfl) | (simp only [← hji149]; first | rfl | (simp [errW_none, errW_some] <;> rfl)) | (simp [*, errW_none, errW_some] <;> rfl), by repeat (first | (with_reducible first | exact HB.out | apply below_alloc | apply pw_below_drewN | apply below_drew1 | refine below_set ?_ GE462.out | refine below_set ?_ GE472.out | refine below_set ?_ GE482.out) | exact HB.out)⟩
                        ·rw [if_neg c160] at H
                         have c160b0 : ((bt a0 (ji149)) == 93) = false := beq_eq_false_iff_ne.mpr c160
                         have c160b1 : ((bt a0 (ji149)) != 93) = true := bne_iff_ne.mpr c160
                         by_cases c162 : t481 = 0
                         ·rw [if_pos c162] at H
                          have c162b0 : (t481 == 0) = true := beq_iff_eq.mpr c162
                          have c162b1 : (t481 != 0) = false := bne_eq_false_iff_eq.mpr c162
                          clear c162
                          by_cases c163 : t475.toList = a0.toList
                          ·rw [if_pos c163] at H
                           have c163b0 : (t475.toList == a0.toList) = true := beq_iff_eq.mpr c163
                           have c163b1 : (t475.toList != a0.toList) = false := bne_eq_false_iff_eq.mpr c163
                           clear c163
                           obtain rfl := Option.some.inj H
                           have p152 : 0 ≤ ((ji149) : Int) := of_decide_eq_true (by first | (with_reducible assumption) | assumption)
                           have q152 : (ji149) < (a0.size : Int) := of_decide_eq_true (by first | (with_reducible assumption) | assumption)
                           have hx152 := bt_at a0 (ji149)
                           replace p152 := eq_true p152
                           replace q152 := eq_true q152
                           go_wp2_with (first | (go_at_call 14; (with_reducible refine (brackenlaw10_told.calls kj52  true _ (Env.below HE.out (by repeat (first | (with_reducible first | exact HB.out | apply below_alloc | apply pw_below_drewN | apply below_drew1 | refine below_set ?_ GE462.out | refine below_set ?_ GE472.out | refine below_set ?_ GE482.out) | exact HB.out))) hidTrue A154.out).mono ?_); rintro e w164 ⟨rfl, hb⟩; have n0_ := Aside0.mk (Kd.R_below (by (with_reducible repeat (first | apply Kd.R_alloc | apply Kd.R_drewN | apply Kd.R_drew)); exact HO_463003.out) hb); have n1_ := Aside0.mk (Kd.R_below (by (with_reducible repeat (first | apply Kd.R_alloc | apply Kd.R_drewN | apply Kd.R_drew)); exact HO_473003.out) hb); have n2_ := Aside0.mk (Kd.R_below (by (with_reducible repeat (first | apply Kd.R_alloc | apply Kd.R_drewN | apply Kd.R_drew)); exact HO_483003.out) hb); have n3_ := Aside0.mk (blk_below (g := gb462) (o := .cells #[.int .i64 t453, .string t454, .string t455, .slice Ao57 t456.length co57, .bool t459] 27 (0, 0)) (by (with_reducible repeat (first | refine blk_drewN ?_ _ | refine blk_drew ?_ | refine blk_alloc ?_ _)); exact BK462.out) hb); have n4_ := Aside0.mk (blk_below (g := gb472) (o := .cells #[.int .i64 t463, .string t464, .string t465, .slice Ao62 t466.length co62, .bool t469] 27 (0, 0)) (by (with_reducible repeat (first | refine blk_drewN ?_ _ | refine blk_drew ?_ | refine blk_alloc ?_ _)); exact BK472.out) hb); have n5_ := Aside0.mk (blk_below (g := gb482) (o := .cells #[.int .i64 t473, .string t474, .string t475, .slice Ao68 t476.length co68, .bool t479] 27 (0, 0)) (by (with_reducible repeat (first | refine blk_drewN ?_ _ | refine blk_drew ?_ | refine blk_alloc ?_ _)); exact BK482.out) hb); have n6_ := Aside0.mk (below_step (by repeat (first | (with_reducible first | exact HB.out | apply below_alloc | apply pw_below_drewN | apply below_drew1 | refine below_set ?_ GE462.out | refine below_set ?_ GE472.out | refine below_set ?_ GE482.out) | exact HB.out)) hb); clear HO_463003; clear HO_473003; clear HO_483003; clear BK462; clear BK472; clear BK482; clear HB; have HO_463003 := n0_; have HO_473003 := n1_; have HO_483003 := n2_; have BK462 := n3_; have BK472 := n4_; have BK482 := n5_; have HB := n6_; clear n0_ n1_ n2_ n3_ n4_ n5_ n6_; (try clear hb); (try clear hb2); (try clear hk); (try clear hi); have p159 : 0 ≤ ((ji149) : Int) := of_decide_eq_true (by first | (with_reducible assumption) | assumption); have q159 : (ji149) < (a0.size : Int) := of_decide_eq_true (by first | (with_reducible assumption) | assumption); have hx159 := bt_at a0 (ji149); replace p159 := eq_true p159; replace q159 := eq_true q159; have hnb165 := NB482_462.out; have hnc165 := NB462_482.out; have hnb166 := NB482_472.out; have hnc166 := NB472_482.out; have hcz167_0 : w164.cell? ⟨gb482, 0, none⟩ = some (.int .i64 t473) := (blk_cell BK482.out 0).trans rfl; have hcz167_1 : w164.cell? ⟨gb482, 1, none⟩ = some (.string t474) := (blk_cell BK482.out 1).trans rfl; have hcz167_2 : w164.cell? ⟨gb482, 2, none⟩ = some (.string t475) := (blk_cell BK482.out 2).trans rfl; have hcz167_3 : w164.cell? ⟨gb482, 3, none⟩ = some (.slice Ao68 t476.length co68) := (blk_cell BK482.out 3).trans rfl; have hcz167_4 : w164.cell? ⟨gb482, 4, none⟩ = some (.bool t479) := (blk_cell BK482.out 4).trans rfl; have hfz167_0 := blk_frozen BK482.out 0; have hfz167_1 := blk_frozen BK482.out 1; have hfz167_2 := blk_frozen BK482.out 2; have hfz167_3 := blk_frozen BK482.out 3; have hfz167_4 := blk_frozen BK482.out 4))
                           go_ret
                           exact ⟨by first | rfl | (simp [errW_none, errW_some] <;> rfl) | (simp only [← hji149]; first | rfl | (simp [errW_none, errW_some] <;> rfl)) | (simp [*, errW_none, errW_some] <;> rfl), by repeat (first | (with_reducible first | exact HB.out | apply below_alloc | apply pw_below_drewN | apply below_drew1 | refine below_set ?_ GE462.out | refine below_set ?_ GE472.out | refine below_set ?_ GE482.out) | exact HB.out)⟩
                          ·rw [if_neg c163] at H
                           have c163b0 : (t475.toList == a0.toList) = false := beq_eq_false_iff_ne.mpr c163
                           have c163b1 : (t475.toList != a0.toList) = true := bne_iff_ne.mpr c163
                           exact absurd ((Option.some.inj H).trans hTrue.out) (by decide)
                         ·rw [if_neg c162] at H
                          have c162b0 : (t481 == 0) = false := beq_eq_false_iff_ne.mpr c162
                          have c162b1 : (t481 != 0) = true := bne_iff_ne.mpr c162
                          exact absurd ((Option.some.inj H).trans hTrue.out) (by decide)
                       ·rw [if_neg c158] at H
                        have c158b0 : decide (0 < (a0.size : Int)) = false := decide_eq_false c158
                        have c158b1 : decide (0 < a0.size) = false := decide_eq_false (by omega)
                        clear c158
                        by_cases c168 : t481 = 0
                        ·as_aux_lemma =>
                         rw [if_pos c168] at H
                         have c168b0 : (t481 == 0) = true := beq_iff_eq.mpr c168
                         have c168b1 : (t481 != 0) = false := bne_eq_false_iff_eq.mpr c168
                         clear c168
                         by_cases c169 : t475.toList = a0.toList
                         ·rw [if_pos c169] at H
                          have c169b0 : (t475.toList == a0.toList) = true := beq_iff_eq.mpr c169
                          have c169b1 : (t475.toList != a0.toList) = false := bne_eq_false_iff_eq.mpr c169
                          clear c169
                          obtain rfl := Option.some.inj H
                          have p152 : 0 ≤ ((ji149) : Int) := of_decide_eq_true (by first | (with_reducible assumption) | assumption)
                          have q152 : (ji149) < (a0.size : Int) := of_decide_eq_true (by first | (with_reducible assumption) | assumption)
                          have hx152 := bt_at a0 (ji149)
                          replace p152 := eq_true p152
                          replace q152 := eq_true q152
                          go_wp2_with (first | (go_at_call 14; (with_reducible refine (brackenlaw10_told.calls kj52  true _ (Env.below HE.out (by repeat (first | (with_reducible first | exact HB.out | apply below_alloc | apply pw_below_drewN | apply below_drew1 | refine below_set ?_ GE462.out | refine below_set ?_ GE472.out | refine below_set ?_ GE482.out) | exact HB.out))) hidTrue A154.out).mono ?_); rintro e w170 ⟨rfl, hb⟩; have n0_ := Aside0.mk (Kd.R_below (by (with_reducible repeat (first | apply Kd.R_alloc | apply Kd.R_drewN | apply Kd.R_drew)); exact HO_463003.out) hb); have n1_ := Aside0.mk (Kd.R_below (by (with_reducible repeat (first | apply Kd.R_alloc | apply Kd.R_drewN | apply Kd.R_drew)); exact HO_473003.out) hb); have n2_ := Aside0.mk (Kd.R_below (by (with_reducible repeat (first | apply Kd.R_alloc | apply Kd.R_drewN | apply Kd.R_drew)); exact HO_483003.out) hb); have n3_ := Aside0.mk (blk_below (g := gb462) (o := .cells #[.int .i64 t453, .string t454, .string t455, .slice Ao57 t456.length co57, .bool t459] 27 (0, 0)) (by (with_reducible repeat (first | refine blk_drewN ?_ _ | refine blk_drew ?_ | refine blk_alloc ?_ _)); exact BK462.out) hb); have n4_ := Aside0.mk (blk_below (g := gb472) (o := .cells #[.int .i64 t463, .string t464, .string t465, .slice Ao62 t466.length co62, .bool t469] 27 (0, 0)) (by (with_reducible repeat (first | refine blk_drewN ?_ _ | refine blk_drew ?_ | refine blk_alloc ?_ _)); exact BK472.out) hb); have n5_ := Aside0.mk (blk_below (g := gb482) (o := .cells #[.int .i64 t473, .string t474, .string t475, .slice Ao68 t476.length co68, .bool t479] 27 (0, 0)) (by (with_reducible repeat (first | refine blk_drewN ?_ _ | refine blk_drew ?_ | refine blk_alloc ?_ _)); exact BK482.out) hb); have n6_ := Aside0.mk (below_step (by repeat (first | (with_reducible first | exact HB.out | apply below_alloc | apply pw_below_drewN | apply below_drew1 | refine below_set ?_ GE462.out | refine below_set ?_ GE472.out | refine below_set ?_ GE482.out) | exact HB.out)) hb); clear HO_463003; clear HO_473003; clear HO_483003; clear BK462; clear BK472; clear BK482; clear HB; have HO_463003 := n0_; have HO_473003 := n1_; have HO_483003 := n2_; have BK462 := n3_; have BK472 := n4_; have BK482 := n5_; have HB := n6_; clear n0_ n1_ n2_ n3_ n4_ n5_ n6_; (try clear hb); (try clear hb2); (try clear hk); (try clear hi); have hnb171 := NB482_462.out; have hnc171 := NB462_482.out; have hnb172 := NB482_472.out; have hnc172 := NB472_482.out; have hcz173_0 : w170.cell? ⟨gb482, 0, none⟩ = some (.int .i64 t473) := (blk_cell BK482.out 0).trans rfl; have hcz173_1 : w170.cell? ⟨gb482, 1, none⟩ = some (.string t474) := (blk_cell BK482.out 1).trans rfl; have hcz173_2 : w170.cell? ⟨gb482, 2, none⟩ = some (.string t475) := (blk_cell BK482.out 2).trans rfl; have hcz173_3 : w170.cell? ⟨gb482, 3, none⟩ = some (.slice Ao68 t476.length co68) := (blk_cell BK482.out 3).trans rfl; have hcz173_4 : w170.cell? ⟨gb482, 4, none⟩ = some (.bool t479) := (blk_cell BK482.out 4).trans rfl; have hfz173_0 := blk_frozen BK482.out 0; have hfz173_1 := blk_frozen BK482.out 1; have hfz173_2 := blk_frozen BK482.out 2; have hfz173_3 := blk_frozen BK482.out 3; have hfz173_4 := blk_frozen BK482.out 4))
                          go_ret
                          exact ⟨by first | rfl | (simp [errW_none, errW_some] <;> rfl) | (simp only [← hji149]; first | rfl | (simp [errW_none, errW_some] <;> rfl)) | (simp [*, errW_none, errW_some] <;> rfl), by repeat (first | (with_reducible first | exact HB.out | apply below_alloc | apply pw_below_drewN | apply below_drew1 | refine below_set ?_ GE462.out | refine below_set ?_ GE472.out | refine below_set ?_ GE482.out) | exact HB.out)⟩
                         ·rw [if_neg c169] at H
                          have c169b0 : (t475.toList == a0.toList) = false := beq_eq_false_iff_ne.mpr c169
                          have c169b1 : (t475.toList != a0.toList) = true := bne_iff_ne.mpr c169
                          exact absurd ((Option.some.inj H).trans hTrue.out) (by decide)
                        ·rw [if_neg c168] at H
                         have c168b0 : (t481 == 0) = false := beq_eq_false_iff_ne.mpr c168
                         have c168b1 : (t481 != 0) = true := bne_iff_ne.mpr c168
                         exact absurd ((Option.some.inj H).trans hTrue.out) (by decide)
                     ·as_aux_lemma =>
                      replace c155 := Bool.eq_false_iff.mpr c155
                      subst c155
                      rw [if_neg (show ¬ (false = true) by decide)] at H
                      try dsimp only at H
                      exact absurd ((Option.some.inj H).trans hTrue.out) (by decide)
                    ·rw [if_neg c153] at H
                     have c153b0 : ((bt a0 (ji149)) == 63) = false := beq_eq_false_iff_ne.mpr c153
                     have c153b1 : ((bt a0 (ji149)) != 63) = true := bne_iff_ne.mpr c153
                     by_cases c174 : t471 = 0
                     ·as_aux_lemma =>
                      rw [if_pos c174] at H
                      have c174b0 : (t471 == 0) = true := beq_iff_eq.mpr c174
                      have c174b1 : (t471 != 0) = false := bne_eq_false_iff_eq.mpr c174
                      clear c174
                      by_cases c175 : 1 + a0.size ≤ 9223372036854775807
                      ·rw [if_pos c175] at H
                       have c175b0 := eq_true c175
                       have c175b1 : decide (1 + a0.size ≤ 9223372036854775807) = true := decide_eq_true c175
                       try have c175b2 : (9223372036854775807 < 1 + a0.size) = False := eq_false (Nat.not_lt.2 c175)
                       by_cases c176 : t465.toList = ((⟨#[120]⟩ : ByteArray) ++ a0).toList
                       ·rw [if_pos c176] at H
                        have c176b0 : (t465.toList == ((⟨#[120]⟩ : ByteArray) ++ a0).toList) = true := beq_iff_eq.mpr c176
                        have c176b1 : (t465.toList != ((⟨#[120]⟩ : ByteArray) ++ a0).toList) = false := bne_eq_false_iff_eq.mpr c176
                        clear c176
                        by_cases c177 : t470 = (wrap64 ((a0.size : Int) + 7))
                        ·as_aux_lemma =>
                         rw [if_pos c177] at H
                         have c177b0 : (t470 == (wrap64 ((a0.size : Int) + 7))) = true := beq_iff_eq.mpr c177
                         have c177b1 : (t470 != (wrap64 ((a0.size : Int) + 7))) = false := bne_eq_false_iff_eq.mpr c177
                         try (have c177b2 : (t470 == ((a0.size : Int) + 7)) = true := by rw [← c177b0]; congr 1; unfold wrap64; omega)
                         try (have c177b3 : (t470 != ((a0.size : Int) + 7)) = false := by rw [← c177b1]; congr 1; unfold wrap64; omega)
                         clear c177
                         replace H := Option.bind_eq_some_iff.mp H
                         obtain ⟨t486, A1780, H⟩ := H
                         try dsimp only at H
                         have A178 := Aside0.mk A1780
                         clear A1780
                         by_cases c179 : t486 = true
                         ·as_aux_lemma =>
                          subst c179
                          rw [if_pos rfl] at H
                          try dsimp only at H
                          by_cases c180 : x5_2 = true
                          ·as_aux_lemma =>
                           subst c180
                           rw [if_pos rfl] at H
                           try dsimp only at H
                           obtain rfl := Option.some.inj H
                           have p152 : 0 ≤ ((ji149) : Int) := of_decide_eq_true (by first | (with_reducible assumption) | assumption)
                           have q152 : (ji149) < (a0.size : Int) := of_decide_eq_true (by first | (with_reducible assumption) | assumption)
                           have hx152 := bt_at a0 (ji149)
                           replace p152 := eq_true p152
                           replace q152 := eq_true q152
                           have hnb181 := NB472_462.out
                           have hnc181 := NB462_472.out
                           have hnb182 := NB472_482.out
                           have hnc182 := NB482_472.out
                           have hcz183_0 : wc.cell? ⟨gb472, 0, none⟩ = some (.int .i64 t463) := (blk_cell BK472.out 0).trans rfl
                           have hcz183_1 : wc.cell? ⟨gb472, 1, none⟩ = some (.string t464) := (blk_cell BK472.out 1).trans rfl
                           have hcz183_2 : wc.cell? ⟨gb472, 2, none⟩ = some (.string t465) := (blk_cell BK472.out 2).trans rfl
                           have hcz183_3 : wc.cell? ⟨gb472, 3, none⟩ = some (.slice Ao62 t466.length co62) := (blk_cell BK472.out 3).trans rfl
                           have hcz183_4 : wc.cell? ⟨gb472, 4, none⟩ = some (.bool t469) := (blk_cell BK472.out 4).trans rfl
                           have hfz183_0 := blk_frozen BK472.out 0
                           have hfz183_1 := blk_frozen BK472.out 1
                           have hfz183_2 := blk_frozen BK472.out 2
                           have hfz183_3 := blk_frozen BK472.out 3
                           have hfz183_4 := blk_frozen BK472.out 4
                           go_wp2_with (first | (go_at_call 14; (with_reducible refine (brackenlaw10_told.calls kj52  true _ (Env.below HE.out (by repeat (first | (with_reducible first | exact HB.out | apply below_alloc | apply pw_below_drewN | apply below_drew1 | refine below_set ?_ GE462.out | refine below_set ?_ GE472.out | refine below_set ?_ GE482.out) | exact HB.out))) hidTrue A178.out).mono ?_); rintro e w184 ⟨rfl, hb⟩; have n0_ := Aside0.mk (Kd.R_below (by (with_reducible repeat (first | apply Kd.R_alloc | apply Kd.R_drewN | apply Kd.R_drew)); exact HO_463003.out) hb); have n1_ := Aside0.mk (Kd.R_below (by (with_reducible repeat (first | apply Kd.R_alloc | apply Kd.R_drewN | apply Kd.R_drew)); exact HO_473003.out) hb); have n2_ := Aside0.mk (Kd.R_below (by (with_reducible repeat (first | apply Kd.R_alloc | apply Kd.R_drewN | apply Kd.R_drew)); exact HO_483003.out) hb); have n3_ := Aside0.mk (blk_below (g := gb462) (o := .cells #[.int .i64 t453, .string t454, .string t455, .slice Ao57 t456.length co57, .bool t459] 27 (0, 0)) (by (with_reducible repeat (first | refine blk_drewN ?_ _ | refine blk_drew ?_ | refine blk_alloc ?_ _)); exact BK462.out) hb); have n4_ := Aside0.mk (blk_below (g := gb472) (o := .cells #[.int .i64 t463, .string t464, .string t465, .slice Ao62 t466.length co62, .bool t469] 27 (0, 0)) (by (with_reducible repeat (first | refine blk_drewN ?_ _ | refine blk_drew ?_ | refine blk_alloc ?_ _)); exact BK472.out) hb); have n5_ := Aside0.mk (blk_below (g := gb482) (o := .cells #[.int .i64 t473, .string t474, .string t475, .slice Ao68 t476.length co68, .bool t479] 27 (0, 0)) (by (with_reducible repeat (first | refine blk_drewN ?_ _ | refine blk_drew ?_ | refine blk_alloc ?_ _)); exact BK482.out) hb); have n6_ := Aside0.mk (below_step (by repeat (first | (with_reducible first | exact HB.out | apply below_alloc | apply pw_below_drewN | apply below_drew1 | refine below_set ?_ GE462.out | refine below_set ?_ GE472.out | refine below_set ?_ GE482.out) | exact HB.out)) hb); clear HO_463003; clear HO_473003; clear HO_483003; clear BK462; clear BK472; clear BK482; clear HB; have HO_463003 := n0_; have HO_473003 := n1_; have HO_483003 := n2_; have BK462 := n3_; have BK472 := n4_; have BK482 := n5_; have HB := n6_; clear n0_ n1_ n2_ n3_ n4_ n5_ n6_; (try clear hb); (try clear hb2); (try clear hk); (try clear hi)))
                           go_ret
                           exact ⟨by first | rfl | (simp [errW_none, errW_some] <;> rfl) | (simp only [← hji149]; first | rfl | (simp [errW_none, errW_some] <;> rfl)) | (simp [*, errW_none, errW_some] <;> rfl), by repeat (first | (with_reducible first | exact HB.out | apply below_alloc | apply pw_below_drewN | apply below_drew1 | refine below_set ?_ GE462.out | refine below_set ?_ GE472.out | refine below_set ?_ GE482.out) | exact HB.out)⟩
                          ·as_aux_lemma =>
                           replace c180 := Bool.eq_false_iff.mpr c180
                           subst c180
                           rw [if_neg (show ¬ (false = true) by decide)] at H
                           try dsimp only at H
                           by_cases c185 : (a0.size : Int) > 0
                           ·as_aux_lemma =>
                            rw [if_pos c185] at H
                            have c185b0 : decide (0 < (a0.size : Int)) = true := decide_eq_true c185
                            have c185b1 : decide (0 < a0.size) = true := decide_eq_true (by omega)
                            clear c185
                            by_cases c187 : (bt a0 (ji149)) = 93
                            ·rw [if_pos c187] at H
                             have c187b0 : ((bt a0 (ji149)) == 93) = true := beq_iff_eq.mpr c187
                             have c187b1 : ((bt a0 (ji149)) != 93) = false := bne_eq_false_iff_eq.mpr c187
                             clear c187
                             obtain rfl := Option.some.inj H
                             have p152 : 0 ≤ ((ji149) : Int) := of_decide_eq_true (by first | (with_reducible assumption) | assumption)
                             have q152 : (ji149) < (a0.size : Int) := of_decide_eq_true (by first | (with_reducible assumption) | assumption)
                             have hx152 := bt_at a0 (ji149)
                             replace p152 := eq_true p152
                             replace q152 := eq_true q152
                             have hnb188 := NB472_462.out
                             have hnc188 := NB462_472.out
                             have hnb189 := NB472_482.out
                             have hnc189 := NB482_472.out
                             have hcz190_0 : wc.cell? ⟨gb472, 0, none⟩ = some (.int .i64 t463) := (blk_cell BK472.out 0).trans rfl
                             have hcz190_1 : wc.cell? ⟨gb472, 1, none⟩ = some (.string t464) := (blk_cell BK472.out 1).trans rfl
                             have hcz190_2 : wc.cell? ⟨gb472, 2, none⟩ = some (.string t465) := (blk_cell BK472.out 2).trans rfl
                             have hcz190_3 : wc.cell? ⟨gb472, 3, none⟩ = some (.slice Ao62 t466.length co62) := (blk_cell BK472.out 3).trans rfl
                             have hcz190_4 : wc.cell? ⟨gb472, 4, none⟩ = some (.bool t469) := (blk_cell BK472.out 4).trans rfl
                             have hfz190_0 := blk_frozen BK472.out 0
                             have hfz190_1 := blk_frozen BK472.out 1
                             have hfz190_2 := blk_frozen BK472.out 2
                             have hfz190_3 := blk_frozen BK472.out 3
                             have hfz190_4 := blk_frozen BK472.out 4
                             go_wp2_with (first | (go_at_call 14; (with_reducible refine (brackenlaw10_told.calls kj52  true _ (Env.below HE.out (by repeat (first | (with_reducible first | exact HB.out | apply below_alloc | apply pw_below_drewN | apply below_drew1 | refine below_set ?_ GE462.out | refine below_set ?_ GE472.out | refine below_set ?_ GE482.out) | exact HB.out))) hidTrue A178.out).mono ?_); rintro e w191 ⟨rfl, hb⟩; have n0_ := Aside0.mk (Kd.R_below (by (with_reducible repeat (first | apply Kd.R_alloc | apply Kd.R_drewN | apply Kd.R_drew)); exact HO_463003.out) hb); have n1_ := Aside0.mk (Kd.R_below (by (with_reducible repeat (first | apply Kd.R_alloc | apply Kd.R_drewN | apply Kd.R_drew)); exact HO_473003.out) hb); have n2_ := Aside0.mk (Kd.R_below (by (with_reducible repeat (first | apply Kd.R_alloc | apply Kd.R_drewN | apply Kd.R_drew)); exact HO_483003.out) hb); have n3_ := Aside0.mk (blk_below (g := gb462) (o := .cells #[.int .i64 t453, .string t454, .string t455, .slice Ao57 t456.length co57, .bool t459] 27 (0, 0)) (by (with_reducible repeat (first | refine blk_drewN ?_ _ | refine blk_drew ?_ | refine blk_alloc ?_ _)); exact BK462.out) hb); have n4_ := Aside0.mk (blk_below (g := gb472) (o := .cells #[.int .i64 t463, .string t464, .string t465, .slice Ao62 t466.length co62, .bool t469] 27 (0, 0)) (by (with_reducible repeat (first | refine blk_drewN ?_ _ | refine blk_drew ?_ | refine blk_alloc ?_ _)); exact BK472.out) hb); have n5_ := Aside0.mk (blk_below (g := gb482) (o := .cells #[.int .i64 t473, .string t474, .string t475, .slice Ao68 t476.length co68, .bool t479] 27 (0, 0)) (by (with_reducible repeat (first | refine blk_drewN ?_ _ | refine blk_drew ?_ | refine blk_alloc ?_ _)); exact BK482.out) hb); have n6_ := Aside0.mk (below_step (by repeat (first | (with_reducible first | exact HB.out | apply below_alloc | apply pw_below_drewN | apply below_drew1 | refine below_set ?_ GE462.out | refine below_set ?_ GE472.out | refine below_set ?_ GE482.out) | exact HB.out)) hb); clear HO_463003; clear HO_473003; clear HO_483003; clear BK462; clear BK472; clear BK482; clear HB; have HO_463003 := n0_; have HO_473003 := n1_; have HO_483003 := n2_; have BK462 := n3_; have BK472 := n4_; have BK482 := n5_; have HB := n6_; clear n0_ n1_ n2_ n3_ n4_ n5_ n6_; (try clear hb); (try clear hb2); (try clear hk); (try clear hi); have p186 : 0 ≤ ((ji149) : Int) := of_decide_eq_true (by first | (with_reducible assumption) | assumption); have q186 : (ji149) < (a0.size : Int) := of_decide_eq_true (by first | (with_reducible assumption) | assumption); have hx186 := bt_at a0 (ji149); replace p186 := eq_true p186; replace q186 := eq_true q186))
                             go_ret
                             exact ⟨by first | rfl | (simp [errW_none, errW_some] <;> rfl) | (simp only [← hji149]; first | rfl | (simp [errW_none, errW_some] <;> rfl)) | (simp [*, errW_none, errW_some] <;> rfl), by repeat (first | (with_reducible first | exact HB.out | apply below_alloc | apply pw_below_drewN | apply below_drew1 | refine below_set ?_ GE462.out | refine below_set ?_ GE472.out | refine below_set ?_ GE482.out) | exact HB.out)⟩
                            ·rw [if_neg c187] at H
                             have c187b0 : ((bt a0 (ji149)) == 93) = false := beq_eq_false_iff_ne.mpr c187
                             have c187b1 : ((bt a0 (ji149)) != 93) = true := bne_iff_ne.mpr c187
                             by_cases c192 : t481 = 0
                             ·rw [if_pos c192] at H
                              have c192b0 : (t481 == 0) = true := beq_iff_eq.mpr c192
                              have c192b1 : (t481 != 0) = false := bne_eq_false_iff_eq.mpr c192
                              clear c192
                              by_cases c193 : t475.toList = a0.toList
                              ·as_aux_lemma =>
                               rw [if_pos c193] at H
                               have c193b0 : (t475.toList == a0.toList) = true := beq_iff_eq.mpr c193
                               have c193b1 : (t475.toList != a0.toList) = false := bne_eq_false_iff_eq.mpr c193
                               clear c193
                               obtain rfl := Option.some.inj H
                               have p152 : 0 ≤ ((ji149) : Int) := of_decide_eq_true (by first | (with_reducible assumption) | assumption)
                               have q152 : (ji149) < (a0.size : Int) := of_decide_eq_true (by first | (with_reducible assumption) | assumption)
                               have hx152 := bt_at a0 (ji149)
                               replace p152 := eq_true p152
                               replace q152 := eq_true q152
                               have hnb194 := NB472_462.out
                               have hnc194 := NB462_472.out
                               have hnb195 := NB472_482.out
                               have hnc195 := NB482_472.out
                               have hcz196_0 : wc.cell? ⟨gb472, 0, none⟩ = some (.int .i64 t463) := (blk_cell BK472.out 0).trans rfl
                               have hcz196_1 : wc.cell? ⟨gb472, 1, none⟩ = some (.string t464) := (blk_cell BK472.out 1).trans rfl
                               have hcz196_2 : wc.cell? ⟨gb472, 2, none⟩ = some (.string t465) := (blk_cell BK472.out 2).trans rfl
                               have hcz196_3 : wc.cell? ⟨gb472, 3, none⟩ = some (.slice Ao62 t466.length co62) := (blk_cell BK472.out 3).trans rfl
                               have hcz196_4 : wc.cell? ⟨gb472, 4, none⟩ = some (.bool t469) := (blk_cell BK472.out 4).trans rfl
                               have hfz196_0 := blk_frozen BK472.out 0
                               have hfz196_1 := blk_frozen BK472.out 1
                               have hfz196_2 := blk_frozen BK472.out 2
                               have hfz196_3 := blk_frozen BK472.out 3
                               have hfz196_4 := blk_frozen BK472.out 4
                               go_wp2_with (first | (go_at_call 14; (with_reducible refine (brackenlaw10_told.calls kj52  true _ (Env.below HE.out (by repeat (first | (with_reducible first | exact HB.out | apply below_alloc | apply pw_below_drewN | apply below_drew1 | refine below_set ?_ GE462.out | refine below_set ?_ GE472.out | refine below_set ?_ GE482.out) | exact HB.out))) hidTrue A178.out).mono ?_); rintro e w197 ⟨rfl, hb⟩; have n0_ := Aside0.mk (Kd.R_below (by (with_reducible repeat (first | apply Kd.R_alloc | apply Kd.R_drewN | apply Kd.R_drew)); exact HO_463003.out) hb); have n1_ := Aside0.mk (Kd.R_below (by (with_reducible repeat (first | apply Kd.R_alloc | apply Kd.R_drewN | apply Kd.R_drew)); exact HO_473003.out) hb); have n2_ := Aside0.mk (Kd.R_below (by (with_reducible repeat (first | apply Kd.R_alloc | apply Kd.R_drewN | apply Kd.R_drew)); exact HO_483003.out) hb); have n3_ := Aside0.mk (blk_below (g := gb462) (o := .cells #[.int .i64 t453, .string t454, .string t455, .slice Ao57 t456.length co57, .bool t459] 27 (0, 0)) (by (with_reducible repeat (first | refine blk_drewN ?_ _ | refine blk_drew ?_ | refine blk_alloc ?_ _)); exact BK462.out) hb); have n4_ := Aside0.mk (blk_below (g := gb472) (o := .cells #[.int .i64 t463, .string t464, .string t465, .slice Ao62 t466.length co62, .bool t469] 27 (0, 0)) (by (with_reducible repeat (first | refine blk_drewN ?_ _ | refine blk_drew ?_ | refine blk_alloc ?_ _)); exact BK472.out) hb); have n5_ := Aside0.mk (blk_below (g := gb482) (o := .cells #[.int .i64 t473, .string t474, .string t475, .slice Ao68 t476.length co68, .bool t479] 27 (0, 0)) (by (with_reducible repeat (first | refine blk_drewN ?_ _ | refine blk_drew ?_ | refine blk_alloc ?_ _)); exact BK482.out) hb); have n6_ := Aside0.mk (below_step (by repeat (first | (with_reducible first | exact HB.out | apply below_alloc | apply pw_below_drewN | apply below_drew1 | refine below_set ?_ GE462.out | refine below_set ?_ GE472.out | refine below_set ?_ GE482.out) | exact HB.out)) hb); clear HO_463003; clear HO_473003; clear HO_483003; clear BK462; clear BK472; clear BK482; clear HB; have HO_463003 := n0_; have HO_473003 := n1_; have HO_483003 := n2_; have BK462 := n3_; have BK472 := n4_; have BK482 := n5_; have HB := n6_; clear n0_ n1_ n2_ n3_ n4_ n5_ n6_; (try clear hb); (try clear hb2); (try clear hk); (try clear hi); have p186 : 0 ≤ ((ji149) : Int) := of_decide_eq_true (by first | (with_reducible assumption) | assumption); have q186 : (ji149) < (a0.size : Int) := of_decide_eq_true (by first | (with_reducible assumption) | assumption); have hx186 := bt_at a0 (ji149); replace p186 := eq_true p186; replace q186 := eq_true q186; have hnb198 := NB482_462.out; have hnc198 := NB462_482.out; have hcz199_0 : w197.cell? ⟨gb482, 0, none⟩ = some (.int .i64 t473) := (blk_cell BK482.out 0).trans rfl; have hcz199_1 : w197.cell? ⟨gb482, 1, none⟩ = some (.string t474) := (blk_cell BK482.out 1).trans rfl; have hcz199_2 : w197.cell? ⟨gb482, 2, none⟩ = some (.string t475) := (blk_cell BK482.out 2).trans rfl; have hcz199_3 : w197.cell? ⟨gb482, 3, none⟩ = some (.slice Ao68 t476.length co68) := (blk_cell BK482.out 3).trans rfl; have hcz199_4 : w197.cell? ⟨gb482, 4, none⟩ = some (.bool t479) := (blk_cell BK482.out 4).trans rfl; have hfz199_0 := blk_frozen BK482.out 0; have hfz199_1 := blk_frozen BK482.out 1; have hfz199_2 := blk_frozen BK482.out 2; have hfz199_3 := blk_frozen BK482.out 3; have hfz199_4 := blk_frozen BK482.out 4))
                               go_ret
                               exact ⟨by first | rfl | (simp [errW_none, errW_some] <;> rfl) | (simp only [← hji149]; first | rfl | (simp [errW_none, errW_some] <;> rfl)) | (simp [*, errW_none, errW_some] <;> rfl), by repeat (first | (with_reducible first | exact HB.out | apply below_alloc | apply pw_below_drewN | apply below_drew1 | refine below_set ?_ GE462.out | refine below_set ?_ GE472.out | refine below_set ?_ GE482.out) | exact HB.out)⟩
                              ·rw [if_neg c193] at H
                               have c193b0 : (t475.toList == a0.toList) = false := beq_eq_false_iff_ne.mpr c193
                               have c193b1 : (t475.toList != a0.toList) = true := bne_iff_ne.mpr c193
                               exact absurd ((Option.some.inj H).trans hTrue.out) (by decide)
                             ·rw [if_neg c192] at H
                              have c192b0 : (t481 == 0) = false := beq_eq_false_iff_ne.mpr c192
                              have c192b1 : (t481 != 0) = true := bne_iff_ne.mpr c192
                              exact absurd ((Option.some.inj H).trans hTrue.out) (by decide)
                           ·rw [if_neg c185] at H
                            have c185b0 : decide (0 < (a0.size : Int)) = false := decide_eq_false c185
                            have c185b1 : decide (0 < a0.size) = false := decide_eq_false (by omega)
                            clear c185
                            by_cases c200 : t481 = 0
                            ·rw [if_pos c200] at H
                             have c200b0 : (t481 == 0) = true := beq_iff_eq.mpr c200
                             have c200b1 : (t481 != 0) = false := bne_eq_false_iff_eq.mpr c200
                             clear c200
                             by_cases c201 : t475.toList = a0.toList
                             ·rw [if_pos c201] at H
                              have c201b0 : (t475.toList == a0.toList) = true := beq_iff_eq.mpr c201
                              have c201b1 : (t475.toList != a0.toList) = false := bne_eq_false_iff_eq.mpr c201
                              clear c201
                              obtain rfl := Option.some.inj H
                              have p152 : 0 ≤ ((ji149) : Int) := of_decide_eq_true (by first | (with_reducible assumption) | assumption)
                              have q152 : (ji149) < (a0.size : Int) := of_decide_eq_true (by first | (with_reducible assumption) | assumption)
                              have hx152 := bt_at a0 (ji149)
                              replace p152 := eq_true p152
                              replace q152 := eq_true q152
                              have hnb202 := NB472_462.out
                              have hnc202 := NB462_472.out
                              have hnb203 := NB472_482.out
                              have hnc203 := NB482_472.out
                              have hcz204_0 : wc.cell? ⟨gb472, 0, none⟩ = some (.int .i64 t463) := (blk_cell BK472.out 0).trans rfl
                              have hcz204_1 : wc.cell? ⟨gb472, 1, none⟩ = some (.string t464) := (blk_cell BK472.out 1).trans rfl
                              have hcz204_2 : wc.cell? ⟨gb472, 2, none⟩ = some (.string t465) := (blk_cell BK472.out 2).trans rfl
                              have hcz204_3 : wc.cell? ⟨gb472, 3, none⟩ = some (.slice Ao62 t466.length co62) := (blk_cell BK472.out 3).trans rfl
                              have hcz204_4 : wc.cell? ⟨gb472, 4, none⟩ = some (.bool t469) := (blk_cell BK472.out 4).trans rfl
                              have hfz204_0 := blk_frozen BK472.out 0
                              have hfz204_1 := blk_frozen BK472.out 1
                              have hfz204_2 := blk_frozen BK472.out 2
                              have hfz204_3 := blk_frozen BK472.out 3
                              have hfz204_4 := blk_frozen BK472.out 4
                              go_wp2_with (first | (go_at_call 14; (with_reducible refine (brackenlaw10_told.calls kj52  true _ (Env.below HE.out (by repeat (first | (with_reducible first | exact HB.out | apply below_alloc | apply pw_below_drewN | apply below_drew1 | refine below_set ?_ GE462.out | refine below_set ?_ GE472.out | refine below_set ?_ GE482.out) | exact HB.out))) hidTrue A178.out).mono ?_); rintro e w205 ⟨rfl, hb⟩; have n0_ := Aside0.mk (Kd.R_below (by (with_reducible repeat (first | apply Kd.R_alloc | apply Kd.R_drewN | apply Kd.R_drew)); exact HO_463003.out) hb); have n1_ := Aside0.mk (Kd.R_below (by (with_reducible repeat (first | apply Kd.R_alloc | apply Kd.R_drewN | apply Kd.R_drew)); exact HO_473003.out) hb); have n2_ := Aside0.mk (Kd.R_below (by (with_reducible repeat (first | apply Kd.R_alloc | apply Kd.R_drewN | apply Kd.R_drew)); exact HO_483003.out) hb); have n3_ := Aside0.mk (blk_below (g := gb462) (o := .cells #[.int .i64 t453, .string t454, .string t455, .slice Ao57 t456.length co57, .bool t459] 27 (0, 0)) (by (with_reducible repeat (first | refine blk_drewN ?_ _ | refine blk_drew ?_ | refine blk_alloc ?_ _)); exact BK462.out) hb); have n4_ := Aside0.mk (blk_below (g := gb472) (o := .cells #[.int .i64 t463, .string t464, .string t465, .slice Ao62 t466.length co62, .bool t469] 27 (0, 0)) (by (with_reducible repeat (first | refine blk_drewN ?_ _ | refine blk_drew ?_ | refine blk_alloc ?_ _)); exact BK472.out) hb); have n5_ := Aside0.mk (blk_below (g := gb482) (o := .cells #[.int .i64 t473, .string t474, .string t475, .slice Ao68 t476.length co68, .bool t479] 27 (0, 0)) (by (with_reducible repeat (first | refine blk_drewN ?_ _ | refine blk_drew ?_ | refine blk_alloc ?_ _)); exact BK482.out) hb); have n6_ := Aside0.mk (below_step (by repeat (first | (with_reducible first | exact HB.out | apply below_alloc | apply pw_below_drewN | apply below_drew1 | refine below_set ?_ GE462.out | refine below_set ?_ GE472.out | refine below_set ?_ GE482.out) | exact HB.out)) hb); clear HO_463003; clear HO_473003; clear HO_483003; clear BK462; clear BK472; clear BK482; clear HB; have HO_463003 := n0_; have HO_473003 := n1_; have HO_483003 := n2_; have BK462 := n3_; have BK472 := n4_; have BK482 := n5_; have HB := n6_; clear n0_ n1_ n2_ n3_ n4_ n5_ n6_; (try clear hb); (try clear hb2); (try clear hk); (try clear hi); have hnb206 := NB482_462.out; have hnc206 := NB462_482.out; have hcz207_0 : w205.cell? ⟨gb482, 0, none⟩ = some (.int .i64 t473) := (blk_cell BK482.out 0).trans rfl; have hcz207_1 : w205.cell? ⟨gb482, 1, none⟩ = some (.string t474) := (blk_cell BK482.out 1).trans rfl; have hcz207_2 : w205.cell? ⟨gb482, 2, none⟩ = some (.string t475) := (blk_cell BK482.out 2).trans rfl; have hcz207_3 : w205.cell? ⟨gb482, 3, none⟩ = some (.slice Ao68 t476.length co68) := (blk_cell BK482.out 3).trans rfl; have hcz207_4 : w205.cell? ⟨gb482, 4, none⟩ = some (.bool t479) := (blk_cell BK482.out 4).trans rfl; have hfz207_0 := blk_frozen BK482.out 0; have hfz207_1 := blk_frozen BK482.out 1; have hfz207_2 := blk_frozen BK482.out 2; have hfz207_3 := blk_frozen BK482.out 3; have hfz207_4 := blk_frozen BK482.out 4))
                              go_ret
                              exact ⟨by first | rfl | (simp [errW_none, errW_some] <;> rfl) | (simp only [← hji149]; first | rfl | (simp [errW_none, errW_some] <;> rfl)) | (simp [*, errW_none, errW_some] <;> rfl), by repeat (first | (with_reducible first | exact HB.out | apply below_alloc | apply pw_below_drewN | apply below_drew1 | refine below_set ?_ GE462.out | refine below_set ?_ GE472.out | refine below_set ?_ GE482.out) | exact HB.out)⟩
                             ·rw [if_neg c201] at H
                              have c201b0 : (t475.toList == a0.toList) = false := beq_eq_false_iff_ne.mpr c201
                              have c201b1 : (t475.toList != a0.toList) = true := bne_iff_ne.mpr c201
                              exact absurd ((Option.some.inj H).trans hTrue.out) (by decide)
                            ·rw [if_neg c200] at H
                             have c200b0 : (t481 == 0) = false := beq_eq_false_iff_ne.mpr c200
                             have c200b1 : (t481 != 0) = true := bne_iff_ne.mpr c200
                             exact absurd ((Option.some.inj H).trans hTrue.out) (by decide)
                         ·as_aux_lemma =>
                          replace c179 := Bool.eq_false_iff.mpr c179
                          subst c179
                          rw [if_neg (show ¬ (false = true) by decide)] at H
                          try dsimp only at H
                          exact absurd ((Option.some.inj H).trans hTrue.out) (by decide)
                        ·rw [if_neg c177] at H
                         have c177b0 : (t470 == (wrap64 ((a0.size : Int) + 7))) = false := beq_eq_false_iff_ne.mpr c177
                         have c177b1 : (t470 != (wrap64 ((a0.size : Int) + 7))) = true := bne_iff_ne.mpr c177
                         try (have c177b2 : (t470 == ((a0.size : Int) + 7)) = false := by rw [← c177b0]; congr 1; unfold wrap64; omega)
                         try (have c177b3 : (t470 != ((a0.size : Int) + 7)) = true := by rw [← c177b1]; congr 1; unfold wrap64; omega)
                         exact absurd ((Option.some.inj H).trans hTrue.out) (by decide)
                       ·rw [if_neg c176] at H
                        have c176b0 : (t465.toList == ((⟨#[120]⟩ : ByteArray) ++ a0).toList) = false := beq_eq_false_iff_ne.mpr c176
                        have c176b1 : (t465.toList != ((⟨#[120]⟩ : ByteArray) ++ a0).toList) = true := bne_iff_ne.mpr c176
                        exact absurd ((Option.some.inj H).trans hTrue.out) (by decide)
                      ·rw [if_neg c175] at H
                       exact absurd H (by simp)
                     ·rw [if_neg c174] at H
                      have c174b0 : (t471 == 0) = false := beq_eq_false_iff_ne.mpr c174
                      have c174b1 : (t471 != 0) = true := bne_iff_ne.mpr c174
                      exact absurd ((Option.some.inj H).trans hTrue.out) (by decide)
                   ·rw [if_neg c151] at H
                    exact absurd H (by simp)
                  ·rw [if_neg c150] at H
                   exact absurd H (by simp)
            ·rw [if_neg c51] at H
             exact absurd H (by simp)
           ·rw [if_neg c50] at H
            exact absurd H (by simp)
          ·rw [if_neg c48] at H
           exact absurd H (by simp)
         ·rw [if_neg c47] at H
          exact absurd H (by simp)
        ·rw [if_neg c45] at H
         exact absurd H (by simp)
       ·rw [if_neg c44] at H
        exact absurd H (by simp)

/-- THE ONE PURE STATEMENT of brackenlaw10_TokenAside: yours. -/
def brackenlaw10_TokenAside.Pure : Prop := ∀ (a0 : ByteArray), a0.size ≤ 140737488351232 → ∃ k, brackenlaw10_TokenAside.f k a0 = some true
theorem brackenlaw10_TokenAside.walk (P : brackenlaw10_TokenAside.Pure) (a0 : ByteArray) (w : World) (hE : Env w) (w0 : a0.size ≤ 140737488351232) :
  Calls Tryd.prog 7 #[.string a0] w fun e w' => e = .returned (.bool true) ∧ Below w.heap.size w w' := by
 obtain ⟨k, h⟩ := P a0 w0
 refine (brackenlaw10_TokenAside.calls k a0 true w hE hidTrue h).mono ?_
 rintro e w' ⟨rfl, hd⟩
 exact ⟨rfl, hd⟩

end Go.Proofs.YtmjdjpelhhibgaaDoor.R1
