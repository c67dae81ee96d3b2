-- written by wip/gen.py (this session's own driver of the kit's printer); Lean checks it
import Derived.Test.YtmjdjpelhhibgaaDoorR3x0
import Derived.Test.YtmjdjpelhhibgaaDoorKDecl
import Derived.Test.YtmjdjpelhhibgaaDoorR3x3
namespace Go.Proofs.YtmjdjpelhhibgaaDoor.R3
open Go.Proofs.YtmjdjpelhhibgaaDoor.Giv
open Go.RowKit Go.Proofs.YtmjdjpelhhibgaaDoorW.PrintWords Go.Proofs.YtmjdjpelhhibgaaDoorW.PrintLast Go.Proofs.YtmjdjpelhhibgaaDoorW.PrintMore
attribute [local go_sem] max2_int min2_int max_two min_two max_three min_three max_four min_four   -- for this text's walks alone
set_option linter.unusedVariables false
set_option linter.unusedSimpArgs false

/-! ### brackenlaw11_DeclXML: function 9 -/
mutual
def brackenlaw11_DeclXML.j0 : Nat → Int → Int → Int → ByteArray → ByteArray → ByteArray → Option (Bool)
 | 0, _, _, _, _, _, _ => none
 | k + 1, x0, x1, x2, x9, x12, x13 => if x12.toList = ([] : List UInt8) then (brackenlaw11_DeclXML.j1 k x0 x1 x2 x9 x13) else (if x13.size + x9.size ≤ 9223372036854775807 then (if x13.size + x9.size + 11 ≤ 9223372036854775807 then (if x13.size + x9.size + 11 + x12.size ≤ 9223372036854775807 then (brackenlaw11_DeclXML.j1 k x0 x1 x2 x9 (((x13 ++ x9) ++ (⟨#[115, 116, 97, 110, 100, 97, 108, 111, 110, 101, 61]⟩ : ByteArray)) ++ x12)) else (none)) else (none)) else (none))
def brackenlaw11_DeclXML.j1 : Nat → Int → Int → Int → ByteArray → ByteArray → Option (Bool)
 | 0, _, _, _, _, _ => none
 | k + 1, x0, x1, x2, x9, x13 => if x13.size + 2 ≤ 9223372036854775807 then (if x13.size + 2 + 4 ≤ 9223372036854775807 then ((decl_XML.f ((x13 ++ (⟨#[63, 62]⟩ : ByteArray)) ++ (⟨#[60, 97, 47, 62]⟩ : ByteArray))).bind fun bt193 => (if x9.toList = ([] : List UInt8) then ((brackenlaw11_told.f).bind fun t195 => (if t195 = true then (if bt193.1 = 0 then (some (bt193.2 == 0)) else (some false)) else (some false))) else (if (Int.tmod (IntKind.u64.wrap (x0)) 5) < 2 then (if (Int.tmod (IntKind.u64.wrap (x1)) 4) < 3 then ((brackenlaw11_told.f).bind fun t196 => (if t196 = true then (if ((bt193.2 == 0) == (decide ((Int.tmod (IntKind.u64.wrap (x2)) 4) < 3))) = true then (if bt193.2 = 0 then (if bt193.1 = ((x13 ++ (⟨#[63, 62]⟩ : ByteArray)).size : Int) then (some true) else (if bt193.2 = 2 then (some (bt193.1 == 0)) else (some false))) else (if bt193.2 = 2 then (some (bt193.1 == 0)) else (some false))) else (some false)) else (some false))) else ((brackenlaw11_told.f).bind fun t197 => (if t197 = true then (if ((bt193.2 == 0) == false) = true then (if bt193.2 = 0 then (if bt193.1 = ((x13 ++ (⟨#[63, 62]⟩ : ByteArray)).size : Int) then (some true) else (if bt193.2 = 2 then (some (bt193.1 == 0)) else (some false))) else (if bt193.2 = 2 then (some (bt193.1 == 0)) else (some false))) else (some false)) else (some false)))) else ((brackenlaw11_told.f).bind fun t198 => (if t198 = true then (if ((bt193.2 == 0) == false) = true then (if bt193.2 = 0 then (if bt193.1 = ((x13 ++ (⟨#[63, 62]⟩ : ByteArray)).size : Int) then (some true) else (if bt193.2 = 2 then (some (bt193.1 == 0)) else (some false))) else (if bt193.2 = 2 then (some (bt193.1 == 0)) else (some false))) else (some false)) else (some false)))))) else (none)) else (none)
end
def brackenlaw11_DeclXML.f (k : Nat) (a0 : Int) (a1 : Int) (a2 : Int) (a3 : Int) : Option (Bool) := (some (([(⟨#[32]⟩ : ByteArray), (⟨#[32, 32]⟩ : ByteArray), (⟨#[10]⟩ : ByteArray), (⟨#[]⟩ : ByteArray)] : List ByteArray) : List ByteArray)).bind fun y177 => (if 0 ≤ (Int.tmod (IntKind.u64.wrap (a3)) 4) then (if (Int.tmod (IntKind.u64.wrap (a3)) 4) < (y177.length : Int) then ((some (([(⟨#[39, 49, 46, 48, 39]⟩ : ByteArray), (⟨#[34, 49, 46, 49, 34]⟩ : ByteArray), (⟨#[39, 49, 46, 39]⟩ : ByteArray), (⟨#[39, 50, 46, 48, 39]⟩ : ByteArray), (⟨#[49, 46, 48]⟩ : ByteArray)] : List ByteArray) : List ByteArray)).bind fun y181 => (if 0 ≤ (Int.tmod (IntKind.u64.wrap (a0)) 5) then (if (Int.tmod (IntKind.u64.wrap (a0)) 5) < (y181.length : Int) then ((some (([(⟨#[]⟩ : ByteArray), (⟨#[39, 85, 84, 70, 45, 56, 39]⟩ : ByteArray), (⟨#[34, 117, 116, 102, 45, 56, 34]⟩ : ByteArray), (⟨#[39, 108, 97, 116, 105, 110, 49, 39]⟩ : ByteArray)] : List ByteArray) : List ByteArray)).bind fun y185 => (if 0 ≤ (Int.tmod (IntKind.u64.wrap (a1)) 4) then (if (Int.tmod (IntKind.u64.wrap (a1)) 4) < (y185.length : Int) then ((some (([(⟨#[]⟩ : ByteArray), (⟨#[39, 121, 101, 115, 39]⟩ : ByteArray), (⟨#[34, 110, 111, 34]⟩ : ByteArray), (⟨#[39, 89, 101, 115, 39]⟩ : ByteArray)] : List ByteArray) : List ByteArray)).bind fun y189 => (if 0 ≤ (Int.tmod (IntKind.u64.wrap (a2)) 4) then (if (Int.tmod (IntKind.u64.wrap (a2)) 4) < (y189.length : Int) then (if 5 + (rdOf ByteArray.empty y177 (Int.tmod (IntKind.u64.wrap (a3)) 4)).size ≤ 9223372036854775807 then (if 5 + (rdOf ByteArray.empty y177 (Int.tmod (IntKind.u64.wrap (a3)) 4)).size + 7 ≤ 9223372036854775807 then (if 5 + (rdOf ByteArray.empty y177 (Int.tmod (IntKind.u64.wrap (a3)) 4)).size + 7 + (rdOf ByteArray.empty y177 (Int.tmod (IntKind.u64.wrap (a3)) 4)).size ≤ 9223372036854775807 then (if 5 + (rdOf ByteArray.empty y177 (Int.tmod (IntKind.u64.wrap (a3)) 4)).size + 7 + (rdOf ByteArray.empty y177 (Int.tmod (IntKind.u64.wrap (a3)) 4)).size + 1 ≤ 9223372036854775807 then (if 5 + (rdOf ByteArray.empty y177 (Int.tmod (IntKind.u64.wrap (a3)) 4)).size + 7 + (rdOf ByteArray.empty y177 (Int.tmod (IntKind.u64.wrap (a3)) 4)).size + 1 + (rdOf ByteArray.empty y177 (Int.tmod (IntKind.u64.wrap (a3)) 4)).size ≤ 9223372036854775807 then (if 5 + (rdOf ByteArray.empty y177 (Int.tmod (IntKind.u64.wrap (a3)) 4)).size + 7 + (rdOf ByteArray.empty y177 (Int.tmod (IntKind.u64.wrap (a3)) 4)).size + 1 + (rdOf ByteArray.empty y177 (Int.tmod (IntKind.u64.wrap (a3)) 4)).size + (rdOf ByteArray.empty y181 (Int.tmod (IntKind.u64.wrap (a0)) 5)).size ≤ 9223372036854775807 then (if (rdOf ByteArray.empty y185 (Int.tmod (IntKind.u64.wrap (a1)) 4)).toList = ([] : List UInt8) then (brackenlaw11_DeclXML.j0 k a0 a1 a2 (rdOf ByteArray.empty y177 (Int.tmod (IntKind.u64.wrap (a3)) 4)) (rdOf ByteArray.empty y189 (Int.tmod (IntKind.u64.wrap (a2)) 4)) (((((((⟨#[60, 63, 120, 109, 108]⟩ : ByteArray) ++ (rdOf ByteArray.empty y177 (Int.tmod (IntKind.u64.wrap (a3)) 4))) ++ (⟨#[118, 101, 114, 115, 105, 111, 110]⟩ : ByteArray)) ++ (rdOf ByteArray.empty y177 (Int.tmod (IntKind.u64.wrap (a3)) 4))) ++ (⟨#[61]⟩ : ByteArray)) ++ (rdOf ByteArray.empty y177 (Int.tmod (IntKind.u64.wrap (a3)) 4))) ++ (rdOf ByteArray.empty y181 (Int.tmod (IntKind.u64.wrap (a0)) 5)))) else (if 5 + (rdOf ByteArray.empty y177 (Int.tmod (IntKind.u64.wrap (a3)) 4)).size + 7 + (rdOf ByteArray.empty y177 (Int.tmod (IntKind.u64.wrap (a3)) 4)).size + 1 + (rdOf ByteArray.empty y177 (Int.tmod (IntKind.u64.wrap (a3)) 4)).size + (rdOf ByteArray.empty y181 (Int.tmod (IntKind.u64.wrap (a0)) 5)).size + (rdOf ByteArray.empty y177 (Int.tmod (IntKind.u64.wrap (a3)) 4)).size ≤ 9223372036854775807 then (if 5 + (rdOf ByteArray.empty y177 (Int.tmod (IntKind.u64.wrap (a3)) 4)).size + 7 + (rdOf ByteArray.empty y177 (Int.tmod (IntKind.u64.wrap (a3)) 4)).size + 1 + (rdOf ByteArray.empty y177 (Int.tmod (IntKind.u64.wrap (a3)) 4)).size + (rdOf ByteArray.empty y181 (Int.tmod (IntKind.u64.wrap (a0)) 5)).size + (rdOf ByteArray.empty y177 (Int.tmod (IntKind.u64.wrap (a3)) 4)).size + 9 ≤ 9223372036854775807 then (if 5 + (rdOf ByteArray.empty y177 (Int.tmod (IntKind.u64.wrap (a3)) 4)).size + 7 + (rdOf ByteArray.empty y177 (Int.tmod (IntKind.u64.wrap (a3)) 4)).size + 1 + (rdOf ByteArray.empty y177 (Int.tmod (IntKind.u64.wrap (a3)) 4)).size + (rdOf ByteArray.empty y181 (Int.tmod (IntKind.u64.wrap (a0)) 5)).size + (rdOf ByteArray.empty y177 (Int.tmod (IntKind.u64.wrap (a3)) 4)).size + 9 + (rdOf ByteArray.empty y185 (Int.tmod (IntKind.u64.wrap (a1)) 4)).size ≤ 9223372036854775807 then (brackenlaw11_DeclXML.j0 k a0 a1 a2 (rdOf ByteArray.empty y177 (Int.tmod (IntKind.u64.wrap (a3)) 4)) (rdOf ByteArray.empty y189 (Int.tmod (IntKind.u64.wrap (a2)) 4)) ((((((((((⟨#[60, 63, 120, 109, 108]⟩ : ByteArray) ++ (rdOf ByteArray.empty y177 (Int.tmod (IntKind.u64.wrap (a3)) 4))) ++ (⟨#[118, 101, 114, 115, 105, 111, 110]⟩ : ByteArray)) ++ (rdOf ByteArray.empty y177 (Int.tmod (IntKind.u64.wrap (a3)) 4))) ++ (⟨#[61]⟩ : ByteArray)) ++ (rdOf ByteArray.empty y177 (Int.tmod (IntKind.u64.wrap (a3)) 4))) ++ (rdOf ByteArray.empty y181 (Int.tmod (IntKind.u64.wrap (a0)) 5))) ++ (rdOf ByteArray.empty y177 (Int.tmod (IntKind.u64.wrap (a3)) 4))) ++ (⟨#[101, 110, 99, 111, 100, 105, 110, 103, 61]⟩ : ByteArray)) ++ (rdOf ByteArray.empty y185 (Int.tmod (IntKind.u64.wrap (a1)) 4)))) else (none)) else (none)) else (none))) else (none)) else (none)) else (none)) else (none)) else (none)) else (none)) else (none)) else (none))) else (none)) else (none))) else (none)) else (none))) else (none)) else (none))
theorem brackenlaw11_DeclXML.mono_l : ∀ k, (∀ y0 y1 y2 y3 y4 y5, LeO (brackenlaw11_DeclXML.j0 k y0 y1 y2 y3 y4 y5) (brackenlaw11_DeclXML.j0 (k + 1) y0 y1 y2 y3 y4 y5)) ∧ (∀ y0 y1 y2 y3 y4, LeO (brackenlaw11_DeclXML.j1 k y0 y1 y2 y3 y4) (brackenlaw11_DeclXML.j1 (k + 1) y0 y1 y2 y3 y4))
 | 0 => ⟨fun _ _ _ _ _ _ r h => by simp [brackenlaw11_DeclXML.j0] at h, fun _ _ _ _ _ r h => by simp [brackenlaw11_DeclXML.j1] at h⟩
 | k + 1 => by
  obtain ⟨ih0, ih1⟩ := brackenlaw11_DeclXML.mono_l k
  refine ⟨?_, ?_⟩
  ·intro y0 y1 y2 y3 y4 y5
   unfold brackenlaw11_DeclXML.j0
   repeat' first
   | (with_reducible exact ih0 _ _ _ _ _ _)
   | (with_reducible exact ih1 _ _ _ _ _)
   | (with_reducible exact LeO.refl _)
   | (with_reducible exact LeO.none _)
   | (with_reducible refine LeO.ite ?_ ?_)
   | (with_reducible refine LeO.bind ?_ (fun _ => ?_))
   | exact ih0 _ _ _ _ _ _
   | exact ih1 _ _ _ _ _
   | exact LeO.none _
   | refine LeO.ite ?_ ?_
   | refine LeO.bind ?_ (fun _ => ?_)
  ·intro y0 y1 y2 y3 y4
   unfold brackenlaw11_DeclXML.j1
   repeat' first
   | (with_reducible exact ih0 _ _ _ _ _ _)
   | (with_reducible exact ih1 _ _ _ _ _)
   | (with_reducible exact LeO.refl _)
   | (with_reducible exact LeO.none _)
   | (with_reducible refine LeO.ite ?_ ?_)
   | (with_reducible refine LeO.bind ?_ (fun _ => ?_))
   | exact ih0 _ _ _ _ _ _
   | exact ih1 _ _ _ _ _
   | exact LeO.none _
   | refine LeO.ite ?_ ?_
   | refine LeO.bind ?_ (fun _ => ?_)
theorem brackenlaw11_DeclXML.mono : ∀ a0 a1 a2 a3 k, LeO (brackenlaw11_DeclXML.f k a0 a1 a2 a3) (brackenlaw11_DeclXML.f (k + 1) a0 a1 a2 a3) := by
 intro a0 a1 a2 a3 k
 obtain ⟨ih0, ih1⟩ := brackenlaw11_DeclXML.mono_l k
 unfold brackenlaw11_DeclXML.f
 repeat' first
   | (with_reducible exact ih0 _ _ _ _ _ _)
   | (with_reducible exact ih1 _ _ _ _ _)
   | (with_reducible exact LeO.refl _)
   | (with_reducible exact LeO.none _)
   | (with_reducible refine LeO.ite ?_ ?_)
   | (with_reducible refine LeO.bind ?_ (fun _ => ?_))
   | exact ih0 _ _ _ _ _ _
   | exact ih1 _ _ _ _ _
   | exact LeO.none _
   | refine LeO.ite ?_ ?_
   | refine LeO.bind ?_ (fun _ => ?_)
theorem isEmpty_beq4 (l : List UInt8) : l.isEmpty = (l == ([] : List UInt8)) := by cases l <;> rfl
set_option maxHeartbeats 8000000 in
set_option maxRecDepth 100000 in
theorem brackenlaw11_DeclXML.calls (k : Nat) (a0 : Int) (a1 : Int) (a2 : Int) (a3 : Int) (r : Bool) (w : World) (hE : Env w) (hTrue : Hid (r = true)) (h : brackenlaw11_DeclXML.f k a0 a1 a2 a3 = some r) :
  Calls Tryd.prog 9 #[.int .i64 a0, .int .i64 a1, .int .i64 a2, .int .i64 a3] w fun e w' => e = .returned (.bool r) ∧ Below w.heap.size w w' := by
 have HE := Aside0.mk hE
 clear hE
 have HB := Aside0.mk (Below.refl w.heap.size w)
 have H : ((some (([(⟨#[32]⟩ : ByteArray), (⟨#[32, 32]⟩ : ByteArray), (⟨#[10]⟩ : ByteArray), (⟨#[]⟩ : ByteArray)] : List ByteArray) : List ByteArray)).bind fun y177 => (if 0 ≤ (Int.tmod (IntKind.u64.wrap (a3)) 4) then (if (Int.tmod (IntKind.u64.wrap (a3)) 4) < (y177.length : Int) then ((some (([(⟨#[39, 49, 46, 48, 39]⟩ : ByteArray), (⟨#[34, 49, 46, 49, 34]⟩ : ByteArray), (⟨#[39, 49, 46, 39]⟩ : ByteArray), (⟨#[39, 50, 46, 48, 39]⟩ : ByteArray), (⟨#[49, 46, 48]⟩ : ByteArray)] : List ByteArray) : List ByteArray)).bind fun y181 => (if 0 ≤ (Int.tmod (IntKind.u64.wrap (a0)) 5) then (if (Int.tmod (IntKind.u64.wrap (a0)) 5) < (y181.length : Int) then ((some (([(⟨#[]⟩ : ByteArray), (⟨#[39, 85, 84, 70, 45, 56, 39]⟩ : ByteArray), (⟨#[34, 117, 116, 102, 45, 56, 34]⟩ : ByteArray), (⟨#[39, 108, 97, 116, 105, 110, 49, 39]⟩ : ByteArray)] : List ByteArray) : List ByteArray)).bind fun y185 => (if 0 ≤ (Int.tmod (IntKind.u64.wrap (a1)) 4) then (if (Int.tmod (IntKind.u64.wrap (a1)) 4) < (y185.length : Int) then ((some (([(⟨#[]⟩ : ByteArray), (⟨#[39, 121, 101, 115, 39]⟩ : ByteArray), (⟨#[34, 110, 111, 34]⟩ : ByteArray), (⟨#[39, 89, 101, 115, 39]⟩ : ByteArray)] : List ByteArray) : List ByteArray)).bind fun y189 => (if 0 ≤ (Int.tmod (IntKind.u64.wrap (a2)) 4) then (if (Int.tmod (IntKind.u64.wrap (a2)) 4) < (y189.length : Int) then (if 5 + (rdOf ByteArray.empty y177 (Int.tmod (IntKind.u64.wrap (a3)) 4)).size ≤ 9223372036854775807 then (if 5 + (rdOf ByteArray.empty y177 (Int.tmod (IntKind.u64.wrap (a3)) 4)).size + 7 ≤ 9223372036854775807 then (if 5 + (rdOf ByteArray.empty y177 (Int.tmod (IntKind.u64.wrap (a3)) 4)).size + 7 + (rdOf ByteArray.empty y177 (Int.tmod (IntKind.u64.wrap (a3)) 4)).size ≤ 9223372036854775807 then (if 5 + (rdOf ByteArray.empty y177 (Int.tmod (IntKind.u64.wrap (a3)) 4)).size + 7 + (rdOf ByteArray.empty y177 (Int.tmod (IntKind.u64.wrap (a3)) 4)).size + 1 ≤ 9223372036854775807 then (if 5 + (rdOf ByteArray.empty y177 (Int.tmod (IntKind.u64.wrap (a3)) 4)).size + 7 + (rdOf ByteArray.empty y177 (Int.tmod (IntKind.u64.wrap (a3)) 4)).size + 1 + (rdOf ByteArray.empty y177 (Int.tmod (IntKind.u64.wrap (a3)) 4)).size ≤ 9223372036854775807 then (if 5 + (rdOf ByteArray.empty y177 (Int.tmod (IntKind.u64.wrap (a3)) 4)).size + 7 + (rdOf ByteArray.empty y177 (Int.tmod (IntKind.u64.wrap (a3)) 4)).size + 1 + (rdOf ByteArray.empty y177 (Int.tmod (IntKind.u64.wrap (a3)) 4)).size + (rdOf ByteArray.empty y181 (Int.tmod (IntKind.u64.wrap (a0)) 5)).size ≤ 9223372036854775807 then (if (rdOf ByteArray.empty y185 (Int.tmod (IntKind.u64.wrap (a1)) 4)).toList = ([] : List UInt8) then (brackenlaw11_DeclXML.j0 k a0 a1 a2 (rdOf ByteArray.empty y177 (Int.tmod (IntKind.u64.wrap (a3)) 4)) (rdOf ByteArray.empty y189 (Int.tmod (IntKind.u64.wrap (a2)) 4)) (((((((⟨#[60, 63, 120, 109, 108]⟩ : ByteArray) ++ (rdOf ByteArray.empty y177 (Int.tmod (IntKind.u64.wrap (a3)) 4))) ++ (⟨#[118, 101, 114, 115, 105, 111, 110]⟩ : ByteArray)) ++ (rdOf ByteArray.empty y177 (Int.tmod (IntKind.u64.wrap (a3)) 4))) ++ (⟨#[61]⟩ : ByteArray)) ++ (rdOf ByteArray.empty y177 (Int.tmod (IntKind.u64.wrap (a3)) 4))) ++ (rdOf ByteArray.empty y181 (Int.tmod (IntKind.u64.wrap (a0)) 5)))) else (if 5 + (rdOf ByteArray.empty y177 (Int.tmod (IntKind.u64.wrap (a3)) 4)).size + 7 + (rdOf ByteArray.empty y177 (Int.tmod (IntKind.u64.wrap (a3)) 4)).size + 1 + (rdOf ByteArray.empty y177 (Int.tmod (IntKind.u64.wrap (a3)) 4)).size + (rdOf ByteArray.empty y181 (Int.tmod (IntKind.u64.wrap (a0)) 5)).size + (rdOf ByteArray.empty y177 (Int.tmod (IntKind.u64.wrap (a3)) 4)).size ≤ 9223372036854775807 then (if 5 + (rdOf ByteArray.empty y177 (Int.tmod (IntKind.u64.wrap (a3)) 4)).size + 7 + (rdOf ByteArray.empty y177 (Int.tmod (IntKind.u64.wrap (a3)) 4)).size + 1 + (rdOf ByteArray.empty y177 (Int.tmod (IntKind.u64.wrap (a3)) 4)).size + (rdOf ByteArray.empty y181 (Int.tmod (IntKind.u64.wrap (a0)) 5)).size + (rdOf ByteArray.empty y177 (Int.tmod (IntKind.u64.wrap (a3)) 4)).size + 9 ≤ 9223372036854775807 then (if 5 + (rdOf ByteArray.empty y177 (Int.tmod (IntKind.u64.wrap (a3)) 4)).size + 7 + (rdOf ByteArray.empty y177 (Int.tmod (IntKind.u64.wrap (a3)) 4)).size + 1 + (rdOf ByteArray.empty y177 (Int.tmod (IntKind.u64.wrap (a3)) 4)).size + (rdOf ByteArray.empty y181 (Int.tmod (IntKind.u64.wrap (a0)) 5)).size + (rdOf ByteArray.empty y177 (Int.tmod (IntKind.u64.wrap (a3)) 4)).size + 9 + (rdOf ByteArray.empty y185 (Int.tmod (IntKind.u64.wrap (a1)) 4)).size ≤ 9223372036854775807 then (brackenlaw11_DeclXML.j0 k a0 a1 a2 (rdOf ByteArray.empty y177 (Int.tmod (IntKind.u64.wrap (a3)) 4)) (rdOf ByteArray.empty y189 (Int.tmod (IntKind.u64.wrap (a2)) 4)) ((((((((((⟨#[60, 63, 120, 109, 108]⟩ : ByteArray) ++ (rdOf ByteArray.empty y177 (Int.tmod (IntKind.u64.wrap (a3)) 4))) ++ (⟨#[118, 101, 114, 115, 105, 111, 110]⟩ : ByteArray)) ++ (rdOf ByteArray.empty y177 (Int.tmod (IntKind.u64.wrap (a3)) 4))) ++ (⟨#[61]⟩ : ByteArray)) ++ (rdOf ByteArray.empty y177 (Int.tmod (IntKind.u64.wrap (a3)) 4))) ++ (rdOf ByteArray.empty y181 (Int.tmod (IntKind.u64.wrap (a0)) 5))) ++ (rdOf ByteArray.empty y177 (Int.tmod (IntKind.u64.wrap (a3)) 4))) ++ (⟨#[101, 110, 99, 111, 100, 105, 110, 103, 61]⟩ : ByteArray)) ++ (rdOf ByteArray.empty y185 (Int.tmod (IntKind.u64.wrap (a1)) 4)))) else (none)) else (none)) else (none))) else (none)) else (none)) else (none)) else (none)) else (none)) else (none)) else (none)) else (none))) else (none)) else (none))) else (none)) else (none))) else (none)) else (none))) = some r := h
 clear h
 obtain ⟨y177, hy177⟩ : ∃ y_ : List ByteArray, y_ = (([(⟨#[32]⟩ : ByteArray), (⟨#[32, 32]⟩ : ByteArray), (⟨#[10]⟩ : ByteArray), (⟨#[]⟩ : ByteArray)] : List ByteArray)) := ⟨_, rfl⟩
 replace H : (if 0 ≤ (Int.tmod (IntKind.u64.wrap (a3)) 4) then (if (Int.tmod (IntKind.u64.wrap (a3)) 4) < (y177.length : Int) then ((some (([(⟨#[39, 49, 46, 48, 39]⟩ : ByteArray), (⟨#[34, 49, 46, 49, 34]⟩ : ByteArray), (⟨#[39, 49, 46, 39]⟩ : ByteArray), (⟨#[39, 50, 46, 48, 39]⟩ : ByteArray), (⟨#[49, 46, 48]⟩ : ByteArray)] : List ByteArray) : List ByteArray)).bind fun y181 => (if 0 ≤ (Int.tmod (IntKind.u64.wrap (a0)) 5) then (if (Int.tmod (IntKind.u64.wrap (a0)) 5) < (y181.length : Int) then ((some (([(⟨#[]⟩ : ByteArray), (⟨#[39, 85, 84, 70, 45, 56, 39]⟩ : ByteArray), (⟨#[34, 117, 116, 102, 45, 56, 34]⟩ : ByteArray), (⟨#[39, 108, 97, 116, 105, 110, 49, 39]⟩ : ByteArray)] : List ByteArray) : List ByteArray)).bind fun y185 => (if 0 ≤ (Int.tmod (IntKind.u64.wrap (a1)) 4) then (if (Int.tmod (IntKind.u64.wrap (a1)) 4) < (y185.length : Int) then ((some (([(⟨#[]⟩ : ByteArray), (⟨#[39, 121, 101, 115, 39]⟩ : ByteArray), (⟨#[34, 110, 111, 34]⟩ : ByteArray), (⟨#[39, 89, 101, 115, 39]⟩ : ByteArray)] : List ByteArray) : List ByteArray)).bind fun y189 => (if 0 ≤ (Int.tmod (IntKind.u64.wrap (a2)) 4) then (if (Int.tmod (IntKind.u64.wrap (a2)) 4) < (y189.length : Int) then (if 5 + (rdOf ByteArray.empty y177 (Int.tmod (IntKind.u64.wrap (a3)) 4)).size ≤ 9223372036854775807 then (if 5 + (rdOf ByteArray.empty y177 (Int.tmod (IntKind.u64.wrap (a3)) 4)).size + 7 ≤ 9223372036854775807 then (if 5 + (rdOf ByteArray.empty y177 (Int.tmod (IntKind.u64.wrap (a3)) 4)).size + 7 + (rdOf ByteArray.empty y177 (Int.tmod (IntKind.u64.wrap (a3)) 4)).size ≤ 9223372036854775807 then (if 5 + (rdOf ByteArray.empty y177 (Int.tmod (IntKind.u64.wrap (a3)) 4)).size + 7 + (rdOf ByteArray.empty y177 (Int.tmod (IntKind.u64.wrap (a3)) 4)).size + 1 ≤ 9223372036854775807 then (if 5 + (rdOf ByteArray.empty y177 (Int.tmod (IntKind.u64.wrap (a3)) 4)).size + 7 + (rdOf ByteArray.empty y177 (Int.tmod (IntKind.u64.wrap (a3)) 4)).size + 1 + (rdOf ByteArray.empty y177 (Int.tmod (IntKind.u64.wrap (a3)) 4)).size ≤ 9223372036854775807 then (if 5 + (rdOf ByteArray.empty y177 (Int.tmod (IntKind.u64.wrap (a3)) 4)).size + 7 + (rdOf ByteArray.empty y177 (Int.tmod (IntKind.u64.wrap (a3)) 4)).size + 1 + (rdOf ByteArray.empty y177 (Int.tmod (IntKind.u64.wrap (a3)) 4)).size + (rdOf ByteArray.empty y181 (Int.tmod (IntKind.u64.wrap (a0)) 5)).size ≤ 9223372036854775807 then (if (rdOf ByteArray.empty y185 (Int.tmod (IntKind.u64.wrap (a1)) 4)).toList = ([] : List UInt8) then (brackenlaw11_DeclXML.j0 k a0 a1 a2 (rdOf ByteArray.empty y177 (Int.tmod (IntKind.u64.wrap (a3)) 4)) (rdOf ByteArray.empty y189 (Int.tmod (IntKind.u64.wrap (a2)) 4)) (((((((⟨#[60, 63, 120, 109, 108]⟩ : ByteArray) ++ (rdOf ByteArray.empty y177 (Int.tmod (IntKind.u64.wrap (a3)) 4))) ++ (⟨#[118, 101, 114, 115, 105, 111, 110]⟩ : ByteArray)) ++ (rdOf ByteArray.empty y177 (Int.tmod (IntKind.u64.wrap (a3)) 4))) ++ (⟨#[61]⟩ : ByteArray)) ++ (rdOf ByteArray.empty y177 (Int.tmod (IntKind.u64.wrap (a3)) 4))) ++ (rdOf ByteArray.empty y181 (Int.tmod (IntKind.u64.wrap (a0)) 5)))) else (if 5 + (rdOf ByteArray.empty y177 (Int.tmod (IntKind.u64.wrap (a3)) 4)).size + 7 + (rdOf ByteArray.empty y177 (Int.tmod (IntKind.u64.wrap (a3)) 4)).size + 1 + (rdOf ByteArray.empty y177 (Int.tmod (IntKind.u64.wrap (a3)) 4)).size + (rdOf ByteArray.empty y181 (Int.tmod (IntKind.u64.wrap (a0)) 5)).size + (rdOf ByteArray.empty y177 (Int.tmod (IntKind.u64.wrap (a3)) 4)).size ≤ 9223372036854775807 then (if 5 + (rdOf ByteArray.empty y177 (Int.tmod (IntKind.u64.wrap (a3)) 4)).size + 7 + (rdOf ByteArray.empty y177 (Int.tmod (IntKind.u64.wrap (a3)) 4)).size + 1 + (rdOf ByteArray.empty y177 (Int.tmod (IntKind.u64.wrap (a3)) 4)).size + (rdOf ByteArray.empty y181 (Int.tmod (IntKind.u64.wrap (a0)) 5)).size + (rdOf ByteArray.empty y177 (Int.tmod (IntKind.u64.wrap (a3)) 4)).size + 9 ≤ 9223372036854775807 then (if 5 + (rdOf ByteArray.empty y177 (Int.tmod (IntKind.u64.wrap (a3)) 4)).size + 7 + (rdOf ByteArray.empty y177 (Int.tmod (IntKind.u64.wrap (a3)) 4)).size + 1 + (rdOf ByteArray.empty y177 (Int.tmod (IntKind.u64.wrap (a3)) 4)).size + (rdOf ByteArray.empty y181 (Int.tmod (IntKind.u64.wrap (a0)) 5)).size + (rdOf ByteArray.empty y177 (Int.tmod (IntKind.u64.wrap (a3)) 4)).size + 9 + (rdOf ByteArray.empty y185 (Int.tmod (IntKind.u64.wrap (a1)) 4)).size ≤ 9223372036854775807 then (brackenlaw11_DeclXML.j0 k a0 a1 a2 (rdOf ByteArray.empty y177 (Int.tmod (IntKind.u64.wrap (a3)) 4)) (rdOf ByteArray.empty y189 (Int.tmod (IntKind.u64.wrap (a2)) 4)) ((((((((((⟨#[60, 63, 120, 109, 108]⟩ : ByteArray) ++ (rdOf ByteArray.empty y177 (Int.tmod (IntKind.u64.wrap (a3)) 4))) ++ (⟨#[118, 101, 114, 115, 105, 111, 110]⟩ : ByteArray)) ++ (rdOf ByteArray.empty y177 (Int.tmod (IntKind.u64.wrap (a3)) 4))) ++ (⟨#[61]⟩ : ByteArray)) ++ (rdOf ByteArray.empty y177 (Int.tmod (IntKind.u64.wrap (a3)) 4))) ++ (rdOf ByteArray.empty y181 (Int.tmod (IntKind.u64.wrap (a0)) 5))) ++ (rdOf ByteArray.empty y177 (Int.tmod (IntKind.u64.wrap (a3)) 4))) ++ (⟨#[101, 110, 99, 111, 100, 105, 110, 103, 61]⟩ : ByteArray)) ++ (rdOf ByteArray.empty y185 (Int.tmod (IntKind.u64.wrap (a1)) 4)))) else (none)) else (none)) else (none))) else (none)) else (none)) else (none)) else (none)) else (none)) else (none)) else (none)) else (none))) else (none)) else (none))) else (none)) else (none))) else (none)) else (none)) = some r := by first | (rw [hy177]; with_reducible exact H) | (have H2_ := (Option.bind_some _ _).symm.trans H; rw [hy177]; with_reducible exact H2_) | (have H2_ := (Option.bind_some _ _).symm.trans H; with_reducible exact H2_) | with_reducible exact H | (rw [hy177]; exact H) | exact H
 have Ny177 := Aside0.mk hy177
 clear hy177
 obtain ⟨ji5, hji5⟩ : ∃ j_ : Int, (Int.tmod (IntKind.u64.wrap (a3)) 4) = j_ := ⟨_, rfl⟩
 replace H : (if 0 ≤ (ji5) then (if (ji5) < (y177.length : Int) then ((some (([(⟨#[39, 49, 46, 48, 39]⟩ : ByteArray), (⟨#[34, 49, 46, 49, 34]⟩ : ByteArray), (⟨#[39, 49, 46, 39]⟩ : ByteArray), (⟨#[39, 50, 46, 48, 39]⟩ : ByteArray), (⟨#[49, 46, 48]⟩ : ByteArray)] : List ByteArray) : List ByteArray)).bind fun y181 => (if 0 ≤ (Int.tmod (IntKind.u64.wrap (a0)) 5) then (if (Int.tmod (IntKind.u64.wrap (a0)) 5) < (y181.length : Int) then ((some (([(⟨#[]⟩ : ByteArray), (⟨#[39, 85, 84, 70, 45, 56, 39]⟩ : ByteArray), (⟨#[34, 117, 116, 102, 45, 56, 34]⟩ : ByteArray), (⟨#[39, 108, 97, 116, 105, 110, 49, 39]⟩ : ByteArray)] : List ByteArray) : List ByteArray)).bind fun y185 => (if 0 ≤ (Int.tmod (IntKind.u64.wrap (a1)) 4) then (if (Int.tmod (IntKind.u64.wrap (a1)) 4) < (y185.length : Int) then ((some (([(⟨#[]⟩ : ByteArray), (⟨#[39, 121, 101, 115, 39]⟩ : ByteArray), (⟨#[34, 110, 111, 34]⟩ : ByteArray), (⟨#[39, 89, 101, 115, 39]⟩ : ByteArray)] : List ByteArray) : List ByteArray)).bind fun y189 => (if 0 ≤ (Int.tmod (IntKind.u64.wrap (a2)) 4) then (if (Int.tmod (IntKind.u64.wrap (a2)) 4) < (y189.length : Int) then (if 5 + (rdOf ByteArray.empty y177 (ji5)).size ≤ 9223372036854775807 then (if 5 + (rdOf ByteArray.empty y177 (ji5)).size + 7 ≤ 9223372036854775807 then (if 5 + (rdOf ByteArray.empty y177 (ji5)).size + 7 + (rdOf ByteArray.empty y177 (ji5)).size ≤ 9223372036854775807 then (if 5 + (rdOf ByteArray.empty y177 (ji5)).size + 7 + (rdOf ByteArray.empty y177 (ji5)).size + 1 ≤ 9223372036854775807 then (if 5 + (rdOf ByteArray.empty y177 (ji5)).size + 7 + (rdOf ByteArray.empty y177 (ji5)).size + 1 + (rdOf ByteArray.empty y177 (ji5)).size ≤ 9223372036854775807 then (if 5 + (rdOf ByteArray.empty y177 (ji5)).size + 7 + (rdOf ByteArray.empty y177 (ji5)).size + 1 + (rdOf ByteArray.empty y177 (ji5)).size + (rdOf ByteArray.empty y181 (Int.tmod (IntKind.u64.wrap (a0)) 5)).size ≤ 9223372036854775807 then (if (rdOf ByteArray.empty y185 (Int.tmod (IntKind.u64.wrap (a1)) 4)).toList = ([] : List UInt8) then (brackenlaw11_DeclXML.j0 k a0 a1 a2 (rdOf ByteArray.empty y177 (ji5)) (rdOf ByteArray.empty y189 (Int.tmod (IntKind.u64.wrap (a2)) 4)) (((((((⟨#[60, 63, 120, 109, 108]⟩ : ByteArray) ++ (rdOf ByteArray.empty y177 (ji5))) ++ (⟨#[118, 101, 114, 115, 105, 111, 110]⟩ : ByteArray)) ++ (rdOf ByteArray.empty y177 (ji5))) ++ (⟨#[61]⟩ : ByteArray)) ++ (rdOf ByteArray.empty y177 (ji5))) ++ (rdOf ByteArray.empty y181 (Int.tmod (IntKind.u64.wrap (a0)) 5)))) else (if 5 + (rdOf ByteArray.empty y177 (ji5)).size + 7 + (rdOf ByteArray.empty y177 (ji5)).size + 1 + (rdOf ByteArray.empty y177 (ji5)).size + (rdOf ByteArray.empty y181 (Int.tmod (IntKind.u64.wrap (a0)) 5)).size + (rdOf ByteArray.empty y177 (ji5)).size ≤ 9223372036854775807 then (if 5 + (rdOf ByteArray.empty y177 (ji5)).size + 7 + (rdOf ByteArray.empty y177 (ji5)).size + 1 + (rdOf ByteArray.empty y177 (ji5)).size + (rdOf ByteArray.empty y181 (Int.tmod (IntKind.u64.wrap (a0)) 5)).size + (rdOf ByteArray.empty y177 (ji5)).size + 9 ≤ 9223372036854775807 then (if 5 + (rdOf ByteArray.empty y177 (ji5)).size + 7 + (rdOf ByteArray.empty y177 (ji5)).size + 1 + (rdOf ByteArray.empty y177 (ji5)).size + (rdOf ByteArray.empty y181 (Int.tmod (IntKind.u64.wrap (a0)) 5)).size + (rdOf ByteArray.empty y177 (ji5)).size + 9 + (rdOf ByteArray.empty y185 (Int.tmod (IntKind.u64.wrap (a1)) 4)).size ≤ 9223372036854775807 then (brackenlaw11_DeclXML.j0 k a0 a1 a2 (rdOf ByteArray.empty y177 (ji5)) (rdOf ByteArray.empty y189 (Int.tmod (IntKind.u64.wrap (a2)) 4)) ((((((((((⟨#[60, 63, 120, 109, 108]⟩ : ByteArray) ++ (rdOf ByteArray.empty y177 (ji5))) ++ (⟨#[118, 101, 114, 115, 105, 111, 110]⟩ : ByteArray)) ++ (rdOf ByteArray.empty y177 (ji5))) ++ (⟨#[61]⟩ : ByteArray)) ++ (rdOf ByteArray.empty y177 (ji5))) ++ (rdOf ByteArray.empty y181 (Int.tmod (IntKind.u64.wrap (a0)) 5))) ++ (rdOf ByteArray.empty y177 (ji5))) ++ (⟨#[101, 110, 99, 111, 100, 105, 110, 103, 61]⟩ : ByteArray)) ++ (rdOf ByteArray.empty y185 (Int.tmod (IntKind.u64.wrap (a1)) 4)))) else (none)) else (none)) else (none))) else (none)) else (none)) else (none)) else (none)) else (none)) else (none)) else (none)) else (none))) else (none)) else (none))) else (none)) else (none))) else (none)) else (none)) = some r := by first | (rw [hji5] at H; exact H) | (simp only [hji5] at H ⊢; exact H)
 by_cases c6 : 0 ≤ (ji5)
 ·rw [if_pos c6] at H
  have c6b0 := decide_eq_true c6
  clear c6
  by_cases c7 : (ji5) < (y177.length : Int)
  ·rw [if_pos c7] at H
   have c7b0 := decide_eq_true c7
   clear c7
   obtain ⟨y181, hy181⟩ : ∃ y_ : List ByteArray, y_ = (([(⟨#[39, 49, 46, 48, 39]⟩ : ByteArray), (⟨#[34, 49, 46, 49, 34]⟩ : ByteArray), (⟨#[39, 49, 46, 39]⟩ : ByteArray), (⟨#[39, 50, 46, 48, 39]⟩ : ByteArray), (⟨#[49, 46, 48]⟩ : ByteArray)] : List ByteArray)) := ⟨_, rfl⟩
   replace H : (if 0 ≤ (Int.tmod (IntKind.u64.wrap (a0)) 5) then (if (Int.tmod (IntKind.u64.wrap (a0)) 5) < (y181.length : Int) then ((some (([(⟨#[]⟩ : ByteArray), (⟨#[39, 85, 84, 70, 45, 56, 39]⟩ : ByteArray), (⟨#[34, 117, 116, 102, 45, 56, 34]⟩ : ByteArray), (⟨#[39, 108, 97, 116, 105, 110, 49, 39]⟩ : ByteArray)] : List ByteArray) : List ByteArray)).bind fun y185 => (if 0 ≤ (Int.tmod (IntKind.u64.wrap (a1)) 4) then (if (Int.tmod (IntKind.u64.wrap (a1)) 4) < (y185.length : Int) then ((some (([(⟨#[]⟩ : ByteArray), (⟨#[39, 121, 101, 115, 39]⟩ : ByteArray), (⟨#[34, 110, 111, 34]⟩ : ByteArray), (⟨#[39, 89, 101, 115, 39]⟩ : ByteArray)] : List ByteArray) : List ByteArray)).bind fun y189 => (if 0 ≤ (Int.tmod (IntKind.u64.wrap (a2)) 4) then (if (Int.tmod (IntKind.u64.wrap (a2)) 4) < (y189.length : Int) then (if 5 + (rdOf ByteArray.empty y177 (ji5)).size ≤ 9223372036854775807 then (if 5 + (rdOf ByteArray.empty y177 (ji5)).size + 7 ≤ 9223372036854775807 then (if 5 + (rdOf ByteArray.empty y177 (ji5)).size + 7 + (rdOf ByteArray.empty y177 (ji5)).size ≤ 9223372036854775807 then (if 5 + (rdOf ByteArray.empty y177 (ji5)).size + 7 + (rdOf ByteArray.empty y177 (ji5)).size + 1 ≤ 9223372036854775807 then (if 5 + (rdOf ByteArray.empty y177 (ji5)).size + 7 + (rdOf ByteArray.empty y177 (ji5)).size + 1 + (rdOf ByteArray.empty y177 (ji5)).size ≤ 9223372036854775807 then (if 5 + (rdOf ByteArray.empty y177 (ji5)).size + 7 + (rdOf ByteArray.empty y177 (ji5)).size + 1 + (rdOf ByteArray.empty y177 (ji5)).size + (rdOf ByteArray.empty y181 (Int.tmod (IntKind.u64.wrap (a0)) 5)).size ≤ 9223372036854775807 then (if (rdOf ByteArray.empty y185 (Int.tmod (IntKind.u64.wrap (a1)) 4)).toList = ([] : List UInt8) then (brackenlaw11_DeclXML.j0 k a0 a1 a2 (rdOf ByteArray.empty y177 (ji5)) (rdOf ByteArray.empty y189 (Int.tmod (IntKind.u64.wrap (a2)) 4)) (((((((⟨#[60, 63, 120, 109, 108]⟩ : ByteArray) ++ (rdOf ByteArray.empty y177 (ji5))) ++ (⟨#[118, 101, 114, 115, 105, 111, 110]⟩ : ByteArray)) ++ (rdOf ByteArray.empty y177 (ji5))) ++ (⟨#[61]⟩ : ByteArray)) ++ (rdOf ByteArray.empty y177 (ji5))) ++ (rdOf ByteArray.empty y181 (Int.tmod (IntKind.u64.wrap (a0)) 5)))) else (if 5 + (rdOf ByteArray.empty y177 (ji5)).size + 7 + (rdOf ByteArray.empty y177 (ji5)).size + 1 + (rdOf ByteArray.empty y177 (ji5)).size + (rdOf ByteArray.empty y181 (Int.tmod (IntKind.u64.wrap (a0)) 5)).size + (rdOf ByteArray.empty y177 (ji5)).size ≤ 9223372036854775807 then (if 5 + (rdOf ByteArray.empty y177 (ji5)).size + 7 + (rdOf ByteArray.empty y177 (ji5)).size + 1 + (rdOf ByteArray.empty y177 (ji5)).size + (rdOf ByteArray.empty y181 (Int.tmod (IntKind.u64.wrap (a0)) 5)).size + (rdOf ByteArray.empty y177 (ji5)).size + 9 ≤ 9223372036854775807 then (if 5 + (rdOf ByteArray.empty y177 (ji5)).size + 7 + (rdOf ByteArray.empty y177 (ji5)).size + 1 + (rdOf ByteArray.empty y177 (ji5)).size + (rdOf ByteArray.empty y181 (Int.tmod (IntKind.u64.wrap (a0)) 5)).size + (rdOf ByteArray.empty y177 (ji5)).size + 9 + (rdOf ByteArray.empty y185 (Int.tmod (IntKind.u64.wrap (a1)) 4)).size ≤ 9223372036854775807 then (brackenlaw11_DeclXML.j0 k a0 a1 a2 (rdOf ByteArray.empty y177 (ji5)) (rdOf ByteArray.empty y189 (Int.tmod (IntKind.u64.wrap (a2)) 4)) ((((((((((⟨#[60, 63, 120, 109, 108]⟩ : ByteArray) ++ (rdOf ByteArray.empty y177 (ji5))) ++ (⟨#[118, 101, 114, 115, 105, 111, 110]⟩ : ByteArray)) ++ (rdOf ByteArray.empty y177 (ji5))) ++ (⟨#[61]⟩ : ByteArray)) ++ (rdOf ByteArray.empty y177 (ji5))) ++ (rdOf ByteArray.empty y181 (Int.tmod (IntKind.u64.wrap (a0)) 5))) ++ (rdOf ByteArray.empty y177 (ji5))) ++ (⟨#[101, 110, 99, 111, 100, 105, 110, 103, 61]⟩ : ByteArray)) ++ (rdOf ByteArray.empty y185 (Int.tmod (IntKind.u64.wrap (a1)) 4)))) else (none)) else (none)) else (none))) else (none)) else (none)) else (none)) else (none)) else (none)) else (none)) else (none)) else (none))) else (none)) else (none))) else (none)) else (none)) = some r := by first | (rw [hy181]; with_reducible exact H) | (have H2_ := (Option.bind_some _ _).symm.trans H; rw [hy181]; with_reducible exact H2_) | (have H2_ := (Option.bind_some _ _).symm.trans H; with_reducible exact H2_) | with_reducible exact H | (rw [hy181]; exact H) | exact H
   have Ny181 := Aside0.mk hy181
   clear hy181
   obtain ⟨ji8, hji8⟩ : ∃ j_ : Int, (Int.tmod (IntKind.u64.wrap (a0)) 5) = j_ := ⟨_, rfl⟩
   replace H : (if 0 ≤ (ji8) then (if (ji8) < (y181.length : Int) then ((some (([(⟨#[]⟩ : ByteArray), (⟨#[39, 85, 84, 70, 45, 56, 39]⟩ : ByteArray), (⟨#[34, 117, 116, 102, 45, 56, 34]⟩ : ByteArray), (⟨#[39, 108, 97, 116, 105, 110, 49, 39]⟩ : ByteArray)] : List ByteArray) : List ByteArray)).bind fun y185 => (if 0 ≤ (Int.tmod (IntKind.u64.wrap (a1)) 4) then (if (Int.tmod (IntKind.u64.wrap (a1)) 4) < (y185.length : Int) then ((some (([(⟨#[]⟩ : ByteArray), (⟨#[39, 121, 101, 115, 39]⟩ : ByteArray), (⟨#[34, 110, 111, 34]⟩ : ByteArray), (⟨#[39, 89, 101, 115, 39]⟩ : ByteArray)] : List ByteArray) : List ByteArray)).bind fun y189 => (if 0 ≤ (Int.tmod (IntKind.u64.wrap (a2)) 4) then (if (Int.tmod (IntKind.u64.wrap (a2)) 4) < (y189.length : Int) then (if 5 + (rdOf ByteArray.empty y177 (ji5)).size ≤ 9223372036854775807 then (if 5 + (rdOf ByteArray.empty y177 (ji5)).size + 7 ≤ 9223372036854775807 then (if 5 + (rdOf ByteArray.empty y177 (ji5)).size + 7 + (rdOf ByteArray.empty y177 (ji5)).size ≤ 9223372036854775807 then (if 5 + (rdOf ByteArray.empty y177 (ji5)).size + 7 + (rdOf ByteArray.empty y177 (ji5)).size + 1 ≤ 9223372036854775807 then (if 5 + (rdOf ByteArray.empty y177 (ji5)).size + 7 + (rdOf ByteArray.empty y177 (ji5)).size + 1 + (rdOf ByteArray.empty y177 (ji5)).size ≤ 9223372036854775807 then (if 5 + (rdOf ByteArray.empty y177 (ji5)).size + 7 + (rdOf ByteArray.empty y177 (ji5)).size + 1 + (rdOf ByteArray.empty y177 (ji5)).size + (rdOf ByteArray.empty y181 (ji8)).size ≤ 9223372036854775807 then (if (rdOf ByteArray.empty y185 (Int.tmod (IntKind.u64.wrap (a1)) 4)).toList = ([] : List UInt8) then (brackenlaw11_DeclXML.j0 k a0 a1 a2 (rdOf ByteArray.empty y177 (ji5)) (rdOf ByteArray.empty y189 (Int.tmod (IntKind.u64.wrap (a2)) 4)) (((((((⟨#[60, 63, 120, 109, 108]⟩ : ByteArray) ++ (rdOf ByteArray.empty y177 (ji5))) ++ (⟨#[118, 101, 114, 115, 105, 111, 110]⟩ : ByteArray)) ++ (rdOf ByteArray.empty y177 (ji5))) ++ (⟨#[61]⟩ : ByteArray)) ++ (rdOf ByteArray.empty y177 (ji5))) ++ (rdOf ByteArray.empty y181 (ji8)))) else (if 5 + (rdOf ByteArray.empty y177 (ji5)).size + 7 + (rdOf ByteArray.empty y177 (ji5)).size + 1 + (rdOf ByteArray.empty y177 (ji5)).size + (rdOf ByteArray.empty y181 (ji8)).size + (rdOf ByteArray.empty y177 (ji5)).size ≤ 9223372036854775807 then (if 5 + (rdOf ByteArray.empty y177 (ji5)).size + 7 + (rdOf ByteArray.empty y177 (ji5)).size + 1 + (rdOf ByteArray.empty y177 (ji5)).size + (rdOf ByteArray.empty y181 (ji8)).size + (rdOf ByteArray.empty y177 (ji5)).size + 9 ≤ 9223372036854775807 then (if 5 + (rdOf ByteArray.empty y177 (ji5)).size + 7 + (rdOf ByteArray.empty y177 (ji5)).size + 1 + (rdOf ByteArray.empty y177 (ji5)).size + (rdOf ByteArray.empty y181 (ji8)).size + (rdOf ByteArray.empty y177 (ji5)).size + 9 + (rdOf ByteArray.empty y185 (Int.tmod (IntKind.u64.wrap (a1)) 4)).size ≤ 9223372036854775807 then (brackenlaw11_DeclXML.j0 k a0 a1 a2 (rdOf ByteArray.empty y177 (ji5)) (rdOf ByteArray.empty y189 (Int.tmod (IntKind.u64.wrap (a2)) 4)) ((((((((((⟨#[60, 63, 120, 109, 108]⟩ : ByteArray) ++ (rdOf ByteArray.empty y177 (ji5))) ++ (⟨#[118, 101, 114, 115, 105, 111, 110]⟩ : ByteArray)) ++ (rdOf ByteArray.empty y177 (ji5))) ++ (⟨#[61]⟩ : ByteArray)) ++ (rdOf ByteArray.empty y177 (ji5))) ++ (rdOf ByteArray.empty y181 (ji8))) ++ (rdOf ByteArray.empty y177 (ji5))) ++ (⟨#[101, 110, 99, 111, 100, 105, 110, 103, 61]⟩ : ByteArray)) ++ (rdOf ByteArray.empty y185 (Int.tmod (IntKind.u64.wrap (a1)) 4)))) else (none)) else (none)) else (none))) else (none)) else (none)) else (none)) else (none)) else (none)) else (none)) else (none)) else (none))) else (none)) else (none))) else (none)) else (none)) = some r := by first | (rw [hji8] at H; exact H) | (simp only [hji8] at H ⊢; exact H)
   by_cases c9 : 0 ≤ (ji8)
   ·rw [if_pos c9] at H
    have c9b0 := decide_eq_true c9
    clear c9
    by_cases c10 : (ji8) < (y181.length : Int)
    ·rw [if_pos c10] at H
     have c10b0 := decide_eq_true c10
     clear c10
     obtain ⟨y185, hy185⟩ : ∃ y_ : List ByteArray, y_ = (([(⟨#[]⟩ : ByteArray), (⟨#[39, 85, 84, 70, 45, 56, 39]⟩ : ByteArray), (⟨#[34, 117, 116, 102, 45, 56, 34]⟩ : ByteArray), (⟨#[39, 108, 97, 116, 105, 110, 49, 39]⟩ : ByteArray)] : List ByteArray)) := ⟨_, rfl⟩
     replace H : (if 0 ≤ (Int.tmod (IntKind.u64.wrap (a1)) 4) then (if (Int.tmod (IntKind.u64.wrap (a1)) 4) < (y185.length : Int) then ((some (([(⟨#[]⟩ : ByteArray), (⟨#[39, 121, 101, 115, 39]⟩ : ByteArray), (⟨#[34, 110, 111, 34]⟩ : ByteArray), (⟨#[39, 89, 101, 115, 39]⟩ : ByteArray)] : List ByteArray) : List ByteArray)).bind fun y189 => (if 0 ≤ (Int.tmod (IntKind.u64.wrap (a2)) 4) then (if (Int.tmod (IntKind.u64.wrap (a2)) 4) < (y189.length : Int) then (if 5 + (rdOf ByteArray.empty y177 (ji5)).size ≤ 9223372036854775807 then (if 5 + (rdOf ByteArray.empty y177 (ji5)).size + 7 ≤ 9223372036854775807 then (if 5 + (rdOf ByteArray.empty y177 (ji5)).size + 7 + (rdOf ByteArray.empty y177 (ji5)).size ≤ 9223372036854775807 then (if 5 + (rdOf ByteArray.empty y177 (ji5)).size + 7 + (rdOf ByteArray.empty y177 (ji5)).size + 1 ≤ 9223372036854775807 then (if 5 + (rdOf ByteArray.empty y177 (ji5)).size + 7 + (rdOf ByteArray.empty y177 (ji5)).size + 1 + (rdOf ByteArray.empty y177 (ji5)).size ≤ 9223372036854775807 then (if 5 + (rdOf ByteArray.empty y177 (ji5)).size + 7 + (rdOf ByteArray.empty y177 (ji5)).size + 1 + (rdOf ByteArray.empty y177 (ji5)).size + (rdOf ByteArray.empty y181 (ji8)).size ≤ 9223372036854775807 then (if (rdOf ByteArray.empty y185 (Int.tmod (IntKind.u64.wrap (a1)) 4)).toList = ([] : List UInt8) then (brackenlaw11_DeclXML.j0 k a0 a1 a2 (rdOf ByteArray.empty y177 (ji5)) (rdOf ByteArray.empty y189 (Int.tmod (IntKind.u64.wrap (a2)) 4)) (((((((⟨#[60, 63, 120, 109, 108]⟩ : ByteArray) ++ (rdOf ByteArray.empty y177 (ji5))) ++ (⟨#[118, 101, 114, 115, 105, 111, 110]⟩ : ByteArray)) ++ (rdOf ByteArray.empty y177 (ji5))) ++ (⟨#[61]⟩ : ByteArray)) ++ (rdOf ByteArray.empty y177 (ji5))) ++ (rdOf ByteArray.empty y181 (ji8)))) else (if 5 + (rdOf ByteArray.empty y177 (ji5)).size + 7 + (rdOf ByteArray.empty y177 (ji5)).size + 1 + (rdOf ByteArray.empty y177 (ji5)).size + (rdOf ByteArray.empty y181 (ji8)).size + (rdOf ByteArray.empty y177 (ji5)).size ≤ 9223372036854775807 then (if 5 + (rdOf ByteArray.empty y177 (ji5)).size + 7 + (rdOf ByteArray.empty y177 (ji5)).size + 1 + (rdOf ByteArray.empty y177 (ji5)).size + (rdOf ByteArray.empty y181 (ji8)).size + (rdOf ByteArray.empty y177 (ji5)).size + 9 ≤ 9223372036854775807 then (if 5 + (rdOf ByteArray.empty y177 (ji5)).size + 7 + (rdOf ByteArray.empty y177 (ji5)).size + 1 + (rdOf ByteArray.empty y177 (ji5)).size + (rdOf ByteArray.empty y181 (ji8)).size + (rdOf ByteArray.empty y177 (ji5)).size + 9 + (rdOf ByteArray.empty y185 (Int.tmod (IntKind.u64.wrap (a1)) 4)).size ≤ 9223372036854775807 then (brackenlaw11_DeclXML.j0 k a0 a1 a2 (rdOf ByteArray.empty y177 (ji5)) (rdOf ByteArray.empty y189 (Int.tmod (IntKind.u64.wrap (a2)) 4)) ((((((((((⟨#[60, 63, 120, 109, 108]⟩ : ByteArray) ++ (rdOf ByteArray.empty y177 (ji5))) ++ (⟨#[118, 101, 114, 115, 105, 111, 110]⟩ : ByteArray)) ++ (rdOf ByteArray.empty y177 (ji5))) ++ (⟨#[61]⟩ : ByteArray)) ++ (rdOf ByteArray.empty y177 (ji5))) ++ (rdOf ByteArray.empty y181 (ji8))) ++ (rdOf ByteArray.empty y177 (ji5))) ++ (⟨#[101, 110, 99, 111, 100, 105, 110, 103, 61]⟩ : ByteArray)) ++ (rdOf ByteArray.empty y185 (Int.tmod (IntKind.u64.wrap (a1)) 4)))) else (none)) else (none)) else (none))) else (none)) else (none)) else (none)) else (none)) else (none)) else (none)) else (none)) else (none))) else (none)) else (none)) = some r := by first | (rw [hy185]; with_reducible exact H) | (have H2_ := (Option.bind_some _ _).symm.trans H; rw [hy185]; with_reducible exact H2_) | (have H2_ := (Option.bind_some _ _).symm.trans H; with_reducible exact H2_) | with_reducible exact H | (rw [hy185]; exact H) | exact H
     have Ny185 := Aside0.mk hy185
     clear hy185
     obtain ⟨ji11, hji11⟩ : ∃ j_ : Int, (Int.tmod (IntKind.u64.wrap (a1)) 4) = j_ := ⟨_, rfl⟩
     replace H : (if 0 ≤ (ji11) then (if (ji11) < (y185.length : Int) then ((some (([(⟨#[]⟩ : ByteArray), (⟨#[39, 121, 101, 115, 39]⟩ : ByteArray), (⟨#[34, 110, 111, 34]⟩ : ByteArray), (⟨#[39, 89, 101, 115, 39]⟩ : ByteArray)] : List ByteArray) : List ByteArray)).bind fun y189 => (if 0 ≤ (Int.tmod (IntKind.u64.wrap (a2)) 4) then (if (Int.tmod (IntKind.u64.wrap (a2)) 4) < (y189.length : Int) then (if 5 + (rdOf ByteArray.empty y177 (ji5)).size ≤ 9223372036854775807 then (if 5 + (rdOf ByteArray.empty y177 (ji5)).size + 7 ≤ 9223372036854775807 then (if 5 + (rdOf ByteArray.empty y177 (ji5)).size + 7 + (rdOf ByteArray.empty y177 (ji5)).size ≤ 9223372036854775807 then (if 5 + (rdOf ByteArray.empty y177 (ji5)).size + 7 + (rdOf ByteArray.empty y177 (ji5)).size + 1 ≤ 9223372036854775807 then (if 5 + (rdOf ByteArray.empty y177 (ji5)).size + 7 + (rdOf ByteArray.empty y177 (ji5)).size + 1 + (rdOf ByteArray.empty y177 (ji5)).size ≤ 9223372036854775807 then (if 5 + (rdOf ByteArray.empty y177 (ji5)).size + 7 + (rdOf ByteArray.empty y177 (ji5)).size + 1 + (rdOf ByteArray.empty y177 (ji5)).size + (rdOf ByteArray.empty y181 (ji8)).size ≤ 9223372036854775807 then (if (rdOf ByteArray.empty y185 (ji11)).toList = ([] : List UInt8) then (brackenlaw11_DeclXML.j0 k a0 a1 a2 (rdOf ByteArray.empty y177 (ji5)) (rdOf ByteArray.empty y189 (Int.tmod (IntKind.u64.wrap (a2)) 4)) (((((((⟨#[60, 63, 120, 109, 108]⟩ : ByteArray) ++ (rdOf ByteArray.empty y177 (ji5))) ++ (⟨#[118, 101, 114, 115, 105, 111, 110]⟩ : ByteArray)) ++ (rdOf ByteArray.empty y177 (ji5))) ++ (⟨#[61]⟩ : ByteArray)) ++ (rdOf ByteArray.empty y177 (ji5))) ++ (rdOf ByteArray.empty y181 (ji8)))) else (if 5 + (rdOf ByteArray.empty y177 (ji5)).size + 7 + (rdOf ByteArray.empty y177 (ji5)).size + 1 + (rdOf ByteArray.empty y177 (ji5)).size + (rdOf ByteArray.empty y181 (ji8)).size + (rdOf ByteArray.empty y177 (ji5)).size ≤ 9223372036854775807 then (if 5 + (rdOf ByteArray.empty y177 (ji5)).size + 7 + (rdOf ByteArray.empty y177 (ji5)).size + 1 + (rdOf ByteArray.empty y177 (ji5)).size + (rdOf ByteArray.empty y181 (ji8)).size + (rdOf ByteArray.empty y177 (ji5)).size + 9 ≤ 9223372036854775807 then (if 5 + (rdOf ByteArray.empty y177 (ji5)).size + 7 + (rdOf ByteArray.empty y177 (ji5)).size + 1 + (rdOf ByteArray.empty y177 (ji5)).size + (rdOf ByteArray.empty y181 (ji8)).size + (rdOf ByteArray.empty y177 (ji5)).size + 9 + (rdOf ByteArray.empty y185 (ji11)).size ≤ 9223372036854775807 then (brackenlaw11_DeclXML.j0 k a0 a1 a2 (rdOf ByteArray.empty y177 (ji5)) (rdOf ByteArray.empty y189 (Int.tmod (IntKind.u64.wrap (a2)) 4)) ((((((((((⟨#[60, 63, 120, 109, 108]⟩ : ByteArray) ++ (rdOf ByteArray.empty y177 (ji5))) ++ (⟨#[118, 101, 114, 115, 105, 111, 110]⟩ : ByteArray)) ++ (rdOf ByteArray.empty y177 (ji5))) ++ (⟨#[61]⟩ : ByteArray)) ++ (rdOf ByteArray.empty y177 (ji5))) ++ (rdOf ByteArray.empty y181 (ji8))) ++ (rdOf ByteArray.empty y177 (ji5))) ++ (⟨#[101, 110, 99, 111, 100, 105, 110, 103, 61]⟩ : ByteArray)) ++ (rdOf ByteArray.empty y185 (ji11)))) else (none)) else (none)) else (none))) else (none)) else (none)) else (none)) else (none)) else (none)) else (none)) else (none)) else (none))) else (none)) else (none)) = some r := by first | (rw [hji11] at H; exact H) | (simp only [hji11] at H ⊢; exact H)
     by_cases c12 : 0 ≤ (ji11)
     ·rw [if_pos c12] at H
      have c12b0 := decide_eq_true c12
      clear c12
      by_cases c13 : (ji11) < (y185.length : Int)
      ·rw [if_pos c13] at H
       have c13b0 := decide_eq_true c13
       clear c13
       obtain ⟨y189, hy189⟩ : ∃ y_ : List ByteArray, y_ = (([(⟨#[]⟩ : ByteArray), (⟨#[39, 121, 101, 115, 39]⟩ : ByteArray), (⟨#[34, 110, 111, 34]⟩ : ByteArray), (⟨#[39, 89, 101, 115, 39]⟩ : ByteArray)] : List ByteArray)) := ⟨_, rfl⟩
       replace H : (if 0 ≤ (Int.tmod (IntKind.u64.wrap (a2)) 4) then (if (Int.tmod (IntKind.u64.wrap (a2)) 4) < (y189.length : Int) then (if 5 + (rdOf ByteArray.empty y177 (ji5)).size ≤ 9223372036854775807 then (if 5 + (rdOf ByteArray.empty y177 (ji5)).size + 7 ≤ 9223372036854775807 then (if 5 + (rdOf ByteArray.empty y177 (ji5)).size + 7 + (rdOf ByteArray.empty y177 (ji5)).size ≤ 9223372036854775807 then (if 5 + (rdOf ByteArray.empty y177 (ji5)).size + 7 + (rdOf ByteArray.empty y177 (ji5)).size + 1 ≤ 9223372036854775807 then (if 5 + (rdOf ByteArray.empty y177 (ji5)).size + 7 + (rdOf ByteArray.empty y177 (ji5)).size + 1 + (rdOf ByteArray.empty y177 (ji5)).size ≤ 9223372036854775807 then (if 5 + (rdOf ByteArray.empty y177 (ji5)).size + 7 + (rdOf ByteArray.empty y177 (ji5)).size + 1 + (rdOf ByteArray.empty y177 (ji5)).size + (rdOf ByteArray.empty y181 (ji8)).size ≤ 9223372036854775807 then (if (rdOf ByteArray.empty y185 (ji11)).toList = ([] : List UInt8) then (brackenlaw11_DeclXML.j0 k a0 a1 a2 (rdOf ByteArray.empty y177 (ji5)) (rdOf ByteArray.empty y189 (Int.tmod (IntKind.u64.wrap (a2)) 4)) (((((((⟨#[60, 63, 120, 109, 108]⟩ : ByteArray) ++ (rdOf ByteArray.empty y177 (ji5))) ++ (⟨#[118, 101, 114, 115, 105, 111, 110]⟩ : ByteArray)) ++ (rdOf ByteArray.empty y177 (ji5))) ++ (⟨#[61]⟩ : ByteArray)) ++ (rdOf ByteArray.empty y177 (ji5))) ++ (rdOf ByteArray.empty y181 (ji8)))) else (if 5 + (rdOf ByteArray.empty y177 (ji5)).size + 7 + (rdOf ByteArray.empty y177 (ji5)).size + 1 + (rdOf ByteArray.empty y177 (ji5)).size + (rdOf ByteArray.empty y181 (ji8)).size + (rdOf ByteArray.empty y177 (ji5)).size ≤ 9223372036854775807 then (if 5 + (rdOf ByteArray.empty y177 (ji5)).size + 7 + (rdOf ByteArray.empty y177 (ji5)).size + 1 + (rdOf ByteArray.empty y177 (ji5)).size + (rdOf ByteArray.empty y181 (ji8)).size + (rdOf ByteArray.empty y177 (ji5)).size + 9 ≤ 9223372036854775807 then (if 5 + (rdOf ByteArray.empty y177 (ji5)).size + 7 + (rdOf ByteArray.empty y177 (ji5)).size + 1 + (rdOf ByteArray.empty y177 (ji5)).size + (rdOf ByteArray.empty y181 (ji8)).size + (rdOf ByteArray.empty y177 (ji5)).size + 9 + (rdOf ByteArray.empty y185 (ji11)).size ≤ 9223372036854775807 then (brackenlaw11_DeclXML.j0 k a0 a1 a2 (rdOf ByteArray.empty y177 (ji5)) (rdOf ByteArray.empty y189 (Int.tmod (IntKind.u64.wrap (a2)) 4)) ((((((((((⟨#[60, 63, 120, 109, 108]⟩ : ByteArray) ++ (rdOf ByteArray.empty y177 (ji5))) ++ (⟨#[118, 101, 114, 115, 105, 111, 110]⟩ : ByteArray)) ++ (rdOf ByteArray.empty y177 (ji5))) ++ (⟨#[61]⟩ : ByteArray)) ++ (rdOf ByteArray.empty y177 (ji5))) ++ (rdOf ByteArray.empty y181 (ji8))) ++ (rdOf ByteArray.empty y177 (ji5))) ++ (⟨#[101, 110, 99, 111, 100, 105, 110, 103, 61]⟩ : ByteArray)) ++ (rdOf ByteArray.empty y185 (ji11)))) else (none)) else (none)) else (none))) else (none)) else (none)) else (none)) else (none)) else (none)) else (none)) else (none)) else (none)) = some r := by first | (rw [hy189]; with_reducible exact H) | (have H2_ := (Option.bind_some _ _).symm.trans H; rw [hy189]; with_reducible exact H2_) | (have H2_ := (Option.bind_some _ _).symm.trans H; with_reducible exact H2_) | with_reducible exact H | (rw [hy189]; exact H) | exact H
       have Ny189 := Aside0.mk hy189
       clear hy189
       obtain ⟨ji14, hji14⟩ : ∃ j_ : Int, (Int.tmod (IntKind.u64.wrap (a2)) 4) = j_ := ⟨_, rfl⟩
       replace H : (if 0 ≤ (ji14) then (if (ji14) < (y189.length : Int) then (if 5 + (rdOf ByteArray.empty y177 (ji5)).size ≤ 9223372036854775807 then (if 5 + (rdOf ByteArray.empty y177 (ji5)).size + 7 ≤ 9223372036854775807 then (if 5 + (rdOf ByteArray.empty y177 (ji5)).size + 7 + (rdOf ByteArray.empty y177 (ji5)).size ≤ 9223372036854775807 then (if 5 + (rdOf ByteArray.empty y177 (ji5)).size + 7 + (rdOf ByteArray.empty y177 (ji5)).size + 1 ≤ 9223372036854775807 then (if 5 + (rdOf ByteArray.empty y177 (ji5)).size + 7 + (rdOf ByteArray.empty y177 (ji5)).size + 1 + (rdOf ByteArray.empty y177 (ji5)).size ≤ 9223372036854775807 then (if 5 + (rdOf ByteArray.empty y177 (ji5)).size + 7 + (rdOf ByteArray.empty y177 (ji5)).size + 1 + (rdOf ByteArray.empty y177 (ji5)).size + (rdOf ByteArray.empty y181 (ji8)).size ≤ 9223372036854775807 then (if (rdOf ByteArray.empty y185 (ji11)).toList = ([] : List UInt8) then (brackenlaw11_DeclXML.j0 k a0 a1 a2 (rdOf ByteArray.empty y177 (ji5)) (rdOf ByteArray.empty y189 (ji14)) (((((((⟨#[60, 63, 120, 109, 108]⟩ : ByteArray) ++ (rdOf ByteArray.empty y177 (ji5))) ++ (⟨#[118, 101, 114, 115, 105, 111, 110]⟩ : ByteArray)) ++ (rdOf ByteArray.empty y177 (ji5))) ++ (⟨#[61]⟩ : ByteArray)) ++ (rdOf ByteArray.empty y177 (ji5))) ++ (rdOf ByteArray.empty y181 (ji8)))) else (if 5 + (rdOf ByteArray.empty y177 (ji5)).size + 7 + (rdOf ByteArray.empty y177 (ji5)).size + 1 + (rdOf ByteArray.empty y177 (ji5)).size + (rdOf ByteArray.empty y181 (ji8)).size + (rdOf ByteArray.empty y177 (ji5)).size ≤ 9223372036854775807 then (if 5 + (rdOf ByteArray.empty y177 (ji5)).size + 7 + (rdOf ByteArray.empty y177 (ji5)).size + 1 + (rdOf ByteArray.empty y177 (ji5)).size + (rdOf ByteArray.empty y181 (ji8)).size + (rdOf ByteArray.empty y177 (ji5)).size + 9 ≤ 9223372036854775807 then (if 5 + (rdOf ByteArray.empty y177 (ji5)).size + 7 + (rdOf ByteArray.empty y177 (ji5)).size + 1 + (rdOf ByteArray.empty y177 (ji5)).size + (rdOf ByteArray.empty y181 (ji8)).size + (rdOf ByteArray.empty y177 (ji5)).size + 9 + (rdOf ByteArray.empty y185 (ji11)).size ≤ 9223372036854775807 then (brackenlaw11_DeclXML.j0 k a0 a1 a2 (rdOf ByteArray.empty y177 (ji5)) (rdOf ByteArray.empty y189 (ji14)) ((((((((((⟨#[60, 63, 120, 109, 108]⟩ : ByteArray) ++ (rdOf ByteArray.empty y177 (ji5))) ++ (⟨#[118, 101, 114, 115, 105, 111, 110]⟩ : ByteArray)) ++ (rdOf ByteArray.empty y177 (ji5))) ++ (⟨#[61]⟩ : ByteArray)) ++ (rdOf ByteArray.empty y177 (ji5))) ++ (rdOf ByteArray.empty y181 (ji8))) ++ (rdOf ByteArray.empty y177 (ji5))) ++ (⟨#[101, 110, 99, 111, 100, 105, 110, 103, 61]⟩ : ByteArray)) ++ (rdOf ByteArray.empty y185 (ji11)))) else (none)) else (none)) else (none))) else (none)) else (none)) else (none)) else (none)) else (none)) else (none)) else (none)) else (none)) = some r := by first | (rw [hji14] at H; exact H) | (simp only [hji14] at H ⊢; exact H)
       by_cases c15 : 0 ≤ (ji14)
       ·rw [if_pos c15] at H
        have c15b0 := decide_eq_true c15
        clear c15
        by_cases c16 : (ji14) < (y189.length : Int)
        ·rw [if_pos c16] at H
         have c16b0 := decide_eq_true c16
         clear c16
         by_cases c17 : 5 + (rdOf ByteArray.empty y177 (ji5)).size ≤ 9223372036854775807
         ·rw [if_pos c17] at H
          have c17b0 := eq_true c17
          have c17b1 := decide_eq_true c17
          try have c17b2 := eq_false (Nat.not_lt.2 c17)
          by_cases c18 : 5 + (rdOf ByteArray.empty y177 (ji5)).size + 7 ≤ 9223372036854775807
          ·rw [if_pos c18] at H
           have c18b0 := eq_true c18
           have c18b1 := decide_eq_true c18
           try have c18b2 := eq_false (Nat.not_lt.2 c18)
           by_cases c19 : 5 + (rdOf ByteArray.empty y177 (ji5)).size + 7 + (rdOf ByteArray.empty y177 (ji5)).size ≤ 9223372036854775807
           ·rw [if_pos c19] at H
            have c19b0 := eq_true c19
            have c19b1 := decide_eq_true c19
            try have c19b2 := eq_false (Nat.not_lt.2 c19)
            by_cases c20 : 5 + (rdOf ByteArray.empty y177 (ji5)).size + 7 + (rdOf ByteArray.empty y177 (ji5)).size + 1 ≤ 9223372036854775807
            ·rw [if_pos c20] at H
             have c20b0 := eq_true c20
             have c20b1 := decide_eq_true c20
             try have c20b2 := eq_false (Nat.not_lt.2 c20)
             by_cases c21 : 5 + (rdOf ByteArray.empty y177 (ji5)).size + 7 + (rdOf ByteArray.empty y177 (ji5)).size + 1 + (rdOf ByteArray.empty y177 (ji5)).size ≤ 9223372036854775807
             ·rw [if_pos c21] at H
              have c21b0 := eq_true c21
              have c21b1 := decide_eq_true c21
              try have c21b2 := eq_false (Nat.not_lt.2 c21)
              by_cases c22 : 5 + (rdOf ByteArray.empty y177 (ji5)).size + 7 + (rdOf ByteArray.empty y177 (ji5)).size + 1 + (rdOf ByteArray.empty y177 (ji5)).size + (rdOf ByteArray.empty y181 (ji8)).size ≤ 9223372036854775807
              ·rw [if_pos c22] at H
               have c22b0 := eq_true c22
               have c22b1 := decide_eq_true c22
               try have c22b2 := eq_false (Nat.not_lt.2 c22)
               have HC23 := Aside0.mk H
               clear H
               go_enter Tryd.func9, Tryd.ntmps9
               go_upto_if 52 with (first | ((with_reducible refine gate_dst (N := 17) rfl ?_); (try (refine gate_guard (by rfl) ?_; dsimp only)); refine Kd.R_lit Kd.string _ 9 ?hg (N := 17) ?hd (xs := ([(⟨#[32]⟩ : ByteArray), (⟨#[32, 32]⟩ : ByteArray), (⟨#[10]⟩ : ByteArray), (⟨#[]⟩ : ByteArray)] : List ByteArray)) (inner := [.string ⟨#[32]⟩, .string ⟨#[32, 32]⟩, .string ⟨#[10]⟩, .string ⟨#[]⟩]) (ok := fun _ => True) (okp := fun _ => True) ?hr ?hp (fun _ hk => hk) trivial (Below.refl _ _) (Nat.le_refl _) (by simp) ?_; (case hd => rfl); (case hg => rfl); (case hr => first | (go_simp; done) | (go_simp; rfl)); (case hp => exact (Reps.one (show Kd.M Kd.string _ _ _ (⟨#[32]⟩ : ByteArray) [.string ⟨#[32]⟩] from rfl) (Reps.one (show Kd.M Kd.string _ _ _ (⟨#[32, 32]⟩ : ByteArray) [.string ⟨#[32, 32]⟩] from rfl) (Reps.one (show Kd.M Kd.string _ _ _ (⟨#[10]⟩ : ByteArray) [.string ⟨#[10]⟩] from rfl) (Reps.one (show Kd.M Kd.string _ _ _ (⟨#[]⟩ : ByteArray) [.string ⟨#[]⟩] from rfl) (Reps.none _ _)))))); intro v178 w24 ho25 hb hg_ hnew_; clear hg_ hnew_; (first | rw [← Ny177.out] at ho25 | (simp only [Int.reduceToNat] at ho25; rw [← Ny177.out] at ho25)); have n0_ := Aside0.mk (Kd.R_lower ho25 (below_size (by repeat (first | (with_reducible first | exact HB.out | apply below_alloc | apply pw_below_drewN | apply below_drew1) | exact HB.out)))); have n1_ := Aside0.mk (below_step (by repeat (first | (with_reducible first | exact HB.out | apply below_alloc | apply pw_below_drewN | apply below_drew1) | exact HB.out)) hb); clear HB; have HO179 := n0_; have HB := n1_; clear n0_ n1_; clear hb ho25; obtain ⟨Ao26, co26, eo26⟩ := Kd.R_slice HO179.out; subst eo26; have p180 : 0 ≤ ((ji5) : Int) := of_decide_eq_true (by first | (with_reducible assumption) | assumption); have q180 : (ji5) < (y177.length : Int) := of_decide_eq_true (by first | (with_reducible assumption) | assumption); obtain ⟨ad180, e180, hx180_0⟩ := Kd.at_string (Kd.R_reads' HO179.out).2.2 (ji5) p180 q180; cases e180; replace p180 := eq_true p180; replace q180 := eq_true q180) | ((with_reducible refine gate_dst (N := 23) rfl ?_); (try (refine gate_guard (by rfl) ?_; dsimp only)); refine Kd.R_lit Kd.string _ 9 ?hg (N := 23) ?hd (xs := ([(⟨#[39, 49, 46, 48, 39]⟩ : ByteArray), (⟨#[34, 49, 46, 49, 34]⟩ : ByteArray), (⟨#[39, 49, 46, 39]⟩ : ByteArray), (⟨#[39, 50, 46, 48, 39]⟩ : ByteArray), (⟨#[49, 46, 48]⟩ : ByteArray)] : List ByteArray)) (inner := [.string ⟨#[39, 49, 46, 48, 39]⟩, .string ⟨#[34, 49, 46, 49, 34]⟩, .string ⟨#[39, 49, 46, 39]⟩, .string ⟨#[39, 50, 46, 48, 39]⟩, .string ⟨#[49, 46, 48]⟩]) (ok := fun _ => True) (okp := fun _ => True) ?hr ?hp (fun _ hk => hk) trivial (Below.refl _ _) (Nat.le_refl _) (by simp) ?_; (case hd => rfl); (case hg => rfl); (case hr => first | (go_simp; done) | (go_simp; rfl)); (case hp => exact (Reps.one (show Kd.M Kd.string _ _ _ (⟨#[39, 49, 46, 48, 39]⟩ : ByteArray) [.string ⟨#[39, 49, 46, 48, 39]⟩] from rfl) (Reps.one (show Kd.M Kd.string _ _ _ (⟨#[34, 49, 46, 49, 34]⟩ : ByteArray) [.string ⟨#[34, 49, 46, 49, 34]⟩] from rfl) (Reps.one (show Kd.M Kd.string _ _ _ (⟨#[39, 49, 46, 39]⟩ : ByteArray) [.string ⟨#[39, 49, 46, 39]⟩] from rfl) (Reps.one (show Kd.M Kd.string _ _ _ (⟨#[39, 50, 46, 48, 39]⟩ : ByteArray) [.string ⟨#[39, 50, 46, 48, 39]⟩] from rfl) (Reps.one (show Kd.M Kd.string _ _ _ (⟨#[49, 46, 48]⟩ : ByteArray) [.string ⟨#[49, 46, 48]⟩] from rfl) (Reps.none _ _))))))); intro v182 w27 ho28 hb hg_ hnew_; clear hg_ hnew_; (first | rw [← Ny181.out] at ho28 | (simp only [Int.reduceToNat] at ho28; rw [← Ny181.out] at ho28)); have n0_ := Aside0.mk (Kd.R_elder' (by (with_reducible repeat (first | apply Kd.R_alloc | apply Kd.R_drewN | apply Kd.R_drew)); exact HO179.out) (Kd.R_base ho28) hb); have n1_ := Aside0.mk (Kd.R_lower (Kd.R_new' ho28 (Kd.R_lt (by (with_reducible repeat (first | apply Kd.R_alloc | apply Kd.R_drewN | apply Kd.R_drew)); exact HO179.out))) (below_size (by repeat (first | (with_reducible first | exact HB.out | apply below_alloc | apply pw_below_drewN | apply below_drew1) | exact HB.out)))); have n2_ := Aside0.mk (below_step (by repeat (first | (with_reducible first | exact HB.out | apply below_alloc | apply pw_below_drewN | apply below_drew1) | exact HB.out)) hb); clear HO179; clear HB; have HO179 := n0_; have HO183 := n1_; have HB := n2_; clear n0_ n1_ n2_; clear hb ho28; obtain ⟨Ao29, co29, eo29⟩ := Kd.R_slice HO183.out; subst eo29; have p184 : 0 ≤ ((ji8) : Int) := of_decide_eq_true (by first | (with_reducible assumption) | assumption); have q184 : (ji8) < (y181.length : Int) := of_decide_eq_true (by first | (with_reducible assumption) | assumption); obtain ⟨ad184, e184, hx184_0⟩ := Kd.at_string (Kd.R_reads' HO183.out).2.2 (ji8) p184 q184; cases e184; replace p184 := eq_true p184; replace q184 := eq_true q184) | ((with_reducible refine gate_dst (N := 29) rfl ?_); (try (refine gate_guard (by rfl) ?_; dsimp only)); refine Kd.R_lit Kd.string _ 9 ?hg (N := 29) ?hd (xs := ([(⟨#[]⟩ : ByteArray), (⟨#[39, 85, 84, 70, 45, 56, 39]⟩ : ByteArray), (⟨#[34, 117, 116, 102, 45, 56, 34]⟩ : ByteArray), (⟨#[39, 108, 97, 116, 105, 110, 49, 39]⟩ : ByteArray)] : List ByteArray)) (inner := [.string ⟨#[]⟩, .string ⟨#[39, 85, 84, 70, 45, 56, 39]⟩, .string ⟨#[34, 117, 116, 102, 45, 56, 34]⟩, .string ⟨#[39, 108, 97, 116, 105, 110, 49, 39]⟩]) (ok := fun _ => True) (okp := fun _ => True) ?hr ?hp (fun _ hk => hk) trivial (Below.refl _ _) (Nat.le_refl _) (by simp) ?_; (case hd => rfl); (case hg => rfl); (case hr => first | (go_simp; done) | (go_simp; rfl)); (case hp => exact (Reps.one (show Kd.M Kd.string _ _ _ (⟨#[]⟩ : ByteArray) [.string ⟨#[]⟩] from rfl) (Reps.one (show Kd.M Kd.string _ _ _ (⟨#[39, 85, 84, 70, 45, 56, 39]⟩ : ByteArray) [.string ⟨#[39, 85, 84, 70, 45, 56, 39]⟩] from rfl) (Reps.one (show Kd.M Kd.string _ _ _ (⟨#[34, 117, 116, 102, 45, 56, 34]⟩ : ByteArray) [.string ⟨#[34, 117, 116, 102, 45, 56, 34]⟩] from rfl) (Reps.one (show Kd.M Kd.string _ _ _ (⟨#[39, 108, 97, 116, 105, 110, 49, 39]⟩ : ByteArray) [.string ⟨#[39, 108, 97, 116, 105, 110, 49, 39]⟩] from rfl) (Reps.none _ _)))))); intro v186 w30 ho31 hb hg_ hnew_; clear hg_ hnew_; (first | rw [← Ny185.out] at ho31 | (simp only [Int.reduceToNat] at ho31; rw [← Ny185.out] at ho31)); have n0_ := Aside0.mk (Kd.R_elder' (by (with_reducible repeat (first | apply Kd.R_alloc | apply Kd.R_drewN | apply Kd.R_drew)); exact HO179.out) (Kd.R_base ho31) hb); have n1_ := Aside0.mk (Kd.R_elder' (by (with_reducible repeat (first | apply Kd.R_alloc | apply Kd.R_drewN | apply Kd.R_drew)); exact HO183.out) (Kd.R_base ho31) hb); have n2_ := Aside0.mk (Kd.R_lower (Kd.R_new' (Kd.R_new' ho31 (Kd.R_lt (by (with_reducible repeat (first | apply Kd.R_alloc | apply Kd.R_drewN | apply Kd.R_drew)); exact HO179.out))) (Kd.R_lt (by (with_reducible repeat (first | apply Kd.R_alloc | apply Kd.R_drewN | apply Kd.R_drew)); exact HO183.out))) (below_size (by repeat (first | (with_reducible first | exact HB.out | apply below_alloc | apply pw_below_drewN | apply below_drew1) | exact HB.out)))); have n3_ := Aside0.mk (below_step (by repeat (first | (with_reducible first | exact HB.out | apply below_alloc | apply pw_below_drewN | apply below_drew1) | exact HB.out)) hb); clear HO179; clear HO183; clear HB; have HO179 := n0_; have HO183 := n1_; have HO187 := n2_; have HB := n3_; clear n0_ n1_ n2_ n3_; clear hb ho31; obtain ⟨Ao32, co32, eo32⟩ := Kd.R_slice HO187.out; subst eo32; have p188 : 0 ≤ ((ji11) : Int) := of_decide_eq_true (by first | (with_reducible assumption) | assumption); have q188 : (ji11) < (y185.length : Int) := of_decide_eq_true (by first | (with_reducible assumption) | assumption); obtain ⟨ad188, e188, hx188_0⟩ := Kd.at_string (Kd.R_reads' HO187.out).2.2 (ji11) p188 q188; cases e188; replace p188 := eq_true p188; replace q188 := eq_true q188) | ((with_reducible refine gate_dst (N := 35) rfl ?_); (try (refine gate_guard (by rfl) ?_; dsimp only)); refine Kd.R_lit Kd.string _ 9 ?hg (N := 35) ?hd (xs := ([(⟨#[]⟩ : ByteArray), (⟨#[39, 121, 101, 115, 39]⟩ : ByteArray), (⟨#[34, 110, 111, 34]⟩ : ByteArray), (⟨#[39, 89, 101, 115, 39]⟩ : ByteArray)] : List ByteArray)) (inner := [.string ⟨#[]⟩, .string ⟨#[39, 121, 101, 115, 39]⟩, .string ⟨#[34, 110, 111, 34]⟩, .string ⟨#[39, 89, 101, 115, 39]⟩]) (ok := fun _ => True) (okp := fun _ => True) ?hr ?hp (fun _ hk => hk) trivial (Below.refl _ _) (Nat.le_refl _) (by simp) ?_; (case hd => rfl); (case hg => rfl); (case hr => first | (go_simp; done) | (go_simp; rfl)); (case hp => exact (Reps.one (show Kd.M Kd.string _ _ _ (⟨#[]⟩ : ByteArray) [.string ⟨#[]⟩] from rfl) (Reps.one (show Kd.M Kd.string _ _ _ (⟨#[39, 121, 101, 115, 39]⟩ : ByteArray) [.string ⟨#[39, 121, 101, 115, 39]⟩] from rfl) (Reps.one (show Kd.M Kd.string _ _ _ (⟨#[34, 110, 111, 34]⟩ : ByteArray) [.string ⟨#[34, 110, 111, 34]⟩] from rfl) (Reps.one (show Kd.M Kd.string _ _ _ (⟨#[39, 89, 101, 115, 39]⟩ : ByteArray) [.string ⟨#[39, 89, 101, 115, 39]⟩] from rfl) (Reps.none _ _)))))); intro v190 w33 ho34 hb hg_ hnew_; clear hg_ hnew_; (first | rw [← Ny189.out] at ho34 | (simp only [Int.reduceToNat] at ho34; rw [← Ny189.out] at ho34)); have n0_ := Aside0.mk (Kd.R_elder' (by (with_reducible repeat (first | apply Kd.R_alloc | apply Kd.R_drewN | apply Kd.R_drew)); exact HO179.out) (Kd.R_base ho34) hb); have n1_ := Aside0.mk (Kd.R_elder' (by (with_reducible repeat (first | apply Kd.R_alloc | apply Kd.R_drewN | apply Kd.R_drew)); exact HO183.out) (Kd.R_base ho34) hb); have n2_ := Aside0.mk (Kd.R_elder' (by (with_reducible repeat (first | apply Kd.R_alloc | apply Kd.R_drewN | apply Kd.R_drew)); exact HO187.out) (Kd.R_base ho34) hb); have n3_ := Aside0.mk (Kd.R_lower (Kd.R_new' (Kd.R_new' (Kd.R_new' ho34 (Kd.R_lt (by (with_reducible repeat (first | apply Kd.R_alloc | apply Kd.R_drewN | apply Kd.R_drew)); exact HO179.out))) (Kd.R_lt (by (with_reducible repeat (first | apply Kd.R_alloc | apply Kd.R_drewN | apply Kd.R_drew)); exact HO183.out))) (Kd.R_lt (by (with_reducible repeat (first | apply Kd.R_alloc | apply Kd.R_drewN | apply Kd.R_drew)); exact HO187.out))) (below_size (by repeat (first | (with_reducible first | exact HB.out | apply below_alloc | apply pw_below_drewN | apply below_drew1) | exact HB.out)))); have n4_ := Aside0.mk (below_step (by repeat (first | (with_reducible first | exact HB.out | apply below_alloc | apply pw_below_drewN | apply below_drew1) | exact HB.out)) hb); clear HO179; clear HO183; clear HO187; clear HB; have HO179 := n0_; have HO183 := n1_; have HO187 := n2_; have HO191 := n3_; have HB := n4_; clear n0_ n1_ n2_ n3_ n4_; clear hb ho34; obtain ⟨Ao35, co35, eo35⟩ := Kd.R_slice HO191.out; subst eo35; have p192 : 0 ≤ ((ji14) : Int) := of_decide_eq_true (by first | (with_reducible assumption) | assumption); have q192 : (ji14) < (y189.length : Int) := of_decide_eq_true (by first | (with_reducible assumption) | assumption); obtain ⟨ad192, e192, hx192_0⟩ := Kd.at_string (Kd.R_reads' HO191.out).2.2 (ji14) p192 q192; cases e192; replace p192 := eq_true p192; replace q192 := eq_true q192))
               (try simp only [Act.put, List.setIfInBounds_toArray, List.set_cons_zero, List.set_cons_succ])
               go_cut [13] (fun v13 wc => ∃ (kq : Nat) (x13_22 : ByteArray), v13 = .string x13_22 ∧ Aside0 (brackenlaw11_DeclXML.j0 kq a0 a1 a2 (rdOf ByteArray.empty y177 (ji5)) (rdOf ByteArray.empty y189 (ji14)) x13_22 = some r) ∧ Aside0 (kq ≤ k) ∧ Aside0 (Below w.heap.size w wc))
               case first =>
                have H := HC23.out
                clear HC23
                by_cases c36 : (rdOf ByteArray.empty y185 (ji11)).toList = ([] : List UInt8)
                ·rw [if_pos c36] at H
                 have c36b0 := beq_iff_eq.mpr c36
                 have c36b1 := bne_eq_false_iff_eq.mpr c36
                 have c36b5 : (rdOf ByteArray.empty y185 (ji11)).toList.isEmpty = true := by rw [← c36b0]; exact (isEmpty_beq4 _)
                 clear c36
                 (first | rw [c36b0] | (simp only [i64_w, i32_w]; rw [c36b0]) | rw [c36b5] | skip)
                 have H' := Aside0.mk H
                 clear H
                 go_wp2
                 go_meet
                 case rel => exact ⟨_, (((((((⟨#[60, 63, 120, 109, 108]⟩ : ByteArray) ++ (rdOf ByteArray.empty y177 (ji5))) ++ (⟨#[118, 101, 114, 115, 105, 111, 110]⟩ : ByteArray)) ++ (rdOf ByteArray.empty y177 (ji5))) ++ (⟨#[61]⟩ : ByteArray)) ++ (rdOf ByteArray.empty y177 (ji5))) ++ (rdOf ByteArray.empty y181 (ji8))), (by first | rfl | (simp; done) | (simp only [← hji5, ← hji8] <;> (first | rfl | simp)) | (simp [*]; done)), H', ⟨by first | omega | exact Nat.le_refl _⟩, ⟨by repeat (first | (with_reducible first | exact HB.out | apply below_alloc | apply pw_below_drewN | apply below_drew1) | exact HB.out)⟩⟩
                ·rw [if_neg c36] at H
                 have c36b0 := beq_eq_false_iff_ne.mpr c36
                 have c36b1 := bne_iff_ne.mpr c36
                 have c36b5 : (rdOf ByteArray.empty y185 (ji11)).toList.isEmpty = false := by rw [← c36b0]; exact (isEmpty_beq4 _)
                 (first | rw [c36b0] | (simp only [i64_w, i32_w]; rw [c36b0]) | rw [c36b5] | skip)
                 by_cases c37 : 5 + (rdOf ByteArray.empty y177 (ji5)).size + 7 + (rdOf ByteArray.empty y177 (ji5)).size + 1 + (rdOf ByteArray.empty y177 (ji5)).size + (rdOf ByteArray.empty y181 (ji8)).size + (rdOf ByteArray.empty y177 (ji5)).size ≤ 9223372036854775807
                 ·rw [if_pos c37] at H
                  have c37b0 := eq_true c37
                  have c37b1 := decide_eq_true c37
                  try have c37b2 := eq_false (Nat.not_lt.2 c37)
                  by_cases c38 : 5 + (rdOf ByteArray.empty y177 (ji5)).size + 7 + (rdOf ByteArray.empty y177 (ji5)).size + 1 + (rdOf ByteArray.empty y177 (ji5)).size + (rdOf ByteArray.empty y181 (ji8)).size + (rdOf ByteArray.empty y177 (ji5)).size + 9 ≤ 9223372036854775807
                  ·rw [if_pos c38] at H
                   have c38b0 := eq_true c38
                   have c38b1 := decide_eq_true c38
                   try have c38b2 := eq_false (Nat.not_lt.2 c38)
                   by_cases c39 : 5 + (rdOf ByteArray.empty y177 (ji5)).size + 7 + (rdOf ByteArray.empty y177 (ji5)).size + 1 + (rdOf ByteArray.empty y177 (ji5)).size + (rdOf ByteArray.empty y181 (ji8)).size + (rdOf ByteArray.empty y177 (ji5)).size + 9 + (rdOf ByteArray.empty y185 (ji11)).size ≤ 9223372036854775807
                   ·rw [if_pos c39] at H
                    have c39b0 := eq_true c39
                    have c39b1 := decide_eq_true c39
                    try have c39b2 := eq_false (Nat.not_lt.2 c39)
                    have H' := Aside0.mk H
                    clear H
                    go_wp2
                    go_meet
                    case rel => exact ⟨_, ((((((((((⟨#[60, 63, 120, 109, 108]⟩ : ByteArray) ++ (rdOf ByteArray.empty y177 (ji5))) ++ (⟨#[118, 101, 114, 115, 105, 111, 110]⟩ : ByteArray)) ++ (rdOf ByteArray.empty y177 (ji5))) ++ (⟨#[61]⟩ : ByteArray)) ++ (rdOf ByteArray.empty y177 (ji5))) ++ (rdOf ByteArray.empty y181 (ji8))) ++ (rdOf ByteArray.empty y177 (ji5))) ++ (⟨#[101, 110, 99, 111, 100, 105, 110, 103, 61]⟩ : ByteArray)) ++ (rdOf ByteArray.empty y185 (ji11))), (by first | rfl | (simp; done) | (simp only [← hji5, ← hji8, ← hji11] <;> (first | rfl | simp)) | (simp [*]; done)), H', ⟨by first | omega | exact Nat.le_refl _⟩, ⟨by repeat (first | (with_reducible first | exact HB.out | apply below_alloc | apply pw_below_drewN | apply below_drew1) | exact HB.out)⟩⟩
                   ·rw [if_neg c39] at H
                    exact absurd H (by simp)
                  ·rw [if_neg c38] at H
                   exact absurd H (by simp)
                 ·rw [if_neg c37] at H
                  exact absurd H (by simp)
               case rest =>
                clear HC23
                try clear c1
                try clear p1
                try clear q1
                try clear hx1
                try clear c2
                try clear p2
                try clear c3
                try clear c6
                try clear c6b0
                try clear c7
                try clear c7b0
                try clear c9
                try clear c9b0
                try clear c10
                try clear c10b0
                try clear c12
                try clear c12b0
                try clear c13
                try clear c13b0
                try clear c15
                try clear c15b0
                try clear c16
                try clear c16b0
                try clear c17
                try clear c17b0
                try clear c17b1
                try clear c17b2
                try clear c18
                try clear c18b0
                try clear c18b1
                try clear c18b2
                try clear p18
                try clear q18
                try clear hx18
                try clear c19
                try clear c19b0
                try clear c19b1
                try clear c19b2
                try clear p19
                try clear q19
                try clear hx19
                try clear c20
                try clear c20b0
                try clear c20b1
                try clear c20b2
                try clear c21
                try clear c21b0
                try clear c21b1
                try clear c21b2
                try clear c22
                try clear c22b0
                try clear c22b1
                try clear c22b2
                try clear c36
                try clear c36b0
                try clear c36b1
                try clear c37
                try clear c37b0
                try clear c37b1
                try clear c37b2
                try clear c38
                try clear c38b0
                try clear c38b1
                try clear c38b2
                try clear c39
                try clear c39b0
                try clear c39b1
                try clear c39b2
                try clear hx180_0
                try clear hx184_0
                try clear hx188_0
                try clear hx192_0
                try clear p180
                try clear p184
                try clear p188
                try clear p192
                try clear q180
                try clear q184
                try clear q188
                try clear q192
                obtain ⟨kq, x13_22, rfl, HA, HJ22, HB⟩ := hcut
                cases kq with
                | zero => exact absurd HA.out (by simp [brackenlaw11_DeclXML.j0])
                | succ kj22 =>
                 have H := HA.out
                 clear HA
                 simp only [brackenlaw11_DeclXML.j0] at H
                 (try simp only [hji5, hji8, hji11, hji14] at H)
                 have HC40 := Aside0.mk H
                 clear H
                 go_upto_if 60 with (fail)
                 go_cut [13] (fun v13 wc => ∃ (kq : Nat) (x13_39 : ByteArray), v13 = .string x13_39 ∧ Aside0 (brackenlaw11_DeclXML.j1 kq a0 a1 a2 (rdOf ByteArray.empty y177 (ji5)) x13_39 = some r) ∧ Aside0 (kq ≤ kj22) ∧ Aside0 (Below w.heap.size w wc))
                 case first =>
                  have H := HC40.out
                  clear HC40
                  by_cases c41 : (rdOf ByteArray.empty y189 (ji14)).toList = ([] : List UInt8)
                  ·rw [if_pos c41] at H
                   have c41b0 := beq_iff_eq.mpr c41
                   have c41b1 := bne_eq_false_iff_eq.mpr c41
                   have c41b5 : (rdOf ByteArray.empty y189 (ji14)).toList.isEmpty = true := by rw [← c41b0]; exact (isEmpty_beq4 _)
                   clear c41
                   (first | rw [c41b0] | (simp only [i64_w, i32_w]; rw [c41b0]) | rw [c41b5] | skip)
                   have H' := Aside0.mk H
                   clear H
                   go_wp2
                   go_meet
                   case rel => exact ⟨_, (x13_22), (by first | rfl | (simp; done) | (simp [*]; done)), H', ⟨by have := HJ22.out; first | omega | exact Nat.le_refl _⟩, ⟨by repeat (first | (with_reducible first | exact HB.out | apply below_alloc | apply pw_below_drewN | apply below_drew1) | exact HB.out)⟩⟩
                  ·rw [if_neg c41] at H
                   have c41b0 := beq_eq_false_iff_ne.mpr c41
                   have c41b1 := bne_iff_ne.mpr c41
                   have c41b5 : (rdOf ByteArray.empty y189 (ji14)).toList.isEmpty = false := by rw [← c41b0]; exact (isEmpty_beq4 _)
                   (first | rw [c41b0] | (simp only [i64_w, i32_w]; rw [c41b0]) | rw [c41b5] | skip)
                   by_cases c42 : x13_22.size + (rdOf ByteArray.empty y177 (ji5)).size ≤ 9223372036854775807
                   ·rw [if_pos c42] at H
                    have c42b0 := eq_true c42
                    have c42b1 := decide_eq_true c42
                    try have c42b2 := eq_false (Nat.not_lt.2 c42)
                    by_cases c43 : x13_22.size + (rdOf ByteArray.empty y177 (ji5)).size + 11 ≤ 9223372036854775807
                    ·rw [if_pos c43] at H
                     have c43b0 := eq_true c43
                     have c43b1 := decide_eq_true c43
                     try have c43b2 := eq_false (Nat.not_lt.2 c43)
                     by_cases c44 : x13_22.size + (rdOf ByteArray.empty y177 (ji5)).size + 11 + (rdOf ByteArray.empty y189 (ji14)).size ≤ 9223372036854775807
                     ·rw [if_pos c44] at H
                      have c44b0 := eq_true c44
                      have c44b1 := decide_eq_true c44
                      try have c44b2 := eq_false (Nat.not_lt.2 c44)
                      have H' := Aside0.mk H
                      clear H
                      go_wp2
                      go_meet
                      case rel => exact ⟨_, (((x13_22 ++ (rdOf ByteArray.empty y177 (ji5))) ++ (⟨#[115, 116, 97, 110, 100, 97, 108, 111, 110, 101, 61]⟩ : ByteArray)) ++ (rdOf ByteArray.empty y189 (ji14))), (by first | rfl | (simp; done) | (simp only [← hji5, ← hji14] <;> (first | rfl | simp)) | (simp [*]; done)), H', ⟨by have := HJ22.out; first | omega | exact Nat.le_refl _⟩, ⟨by repeat (first | (with_reducible first | exact HB.out | apply below_alloc | apply pw_below_drewN | apply below_drew1) | exact HB.out)⟩⟩
                     ·rw [if_neg c44] at H
                      exact absurd H (by simp)
                    ·rw [if_neg c43] at H
                     exact absurd H (by simp)
                   ·rw [if_neg c42] at H
                    exact absurd H (by simp)
                 case rest =>
                  clear HC40
                  try clear c1
                  try clear p1
                  try clear q1
                  try clear hx1
                  try clear c2
                  try clear p2
                  try clear c3
                  try clear c4
                  try clear c6
                  try clear c6b0
                  try clear c7
                  try clear c7b0
                  try clear c9
                  try clear c9b0
                  try clear c10
                  try clear c10b0
                  try clear c12
                  try clear c12b0
                  try clear c13
                  try clear c13b0
                  try clear c15
                  try clear c15b0
                  try clear c16
                  try clear c16b0
                  try clear c17
                  try clear c17b0
                  try clear c17b1
                  try clear c17b2
                  try clear c18
                  try clear c18b0
                  try clear c18b1
                  try clear c18b2
                  try clear p18
                  try clear q18
                  try clear hx18
                  try clear c19
                  try clear c19b0
                  try clear c19b1
                  try clear c19b2
                  try clear p19
                  try clear q19
                  try clear hx19
                  try clear c20
                  try clear c20b0
                  try clear c20b1
                  try clear c20b2
                  try clear c21
                  try clear c21b0
                  try clear c21b1
                  try clear c21b2
                  try clear c22
                  try clear c22b0
                  try clear c22b1
                  try clear c22b2
                  try clear c36
                  try clear c36b0
                  try clear c36b1
                  try clear c37
                  try clear c37b0
                  try clear c37b1
                  try clear c37b2
                  try clear c38
                  try clear c38b0
                  try clear c38b1
                  try clear c38b2
                  try clear c39
                  try clear c39b0
                  try clear c39b1
                  try clear c39b2
                  try clear c41
                  try clear c41b0
                  try clear c41b1
                  try clear c42
                  try clear c42b0
                  try clear c42b1
                  try clear c42b2
                  try clear c43
                  try clear c43b0
                  try clear c43b1
                  try clear c43b2
                  try clear c44
                  try clear c44b0
                  try clear c44b1
                  try clear c44b2
                  try clear hx180_0
                  try clear hx184_0
                  try clear hx188_0
                  try clear hx192_0
                  try clear p1
                  try clear p18
                  try clear p180
                  try clear p184
                  try clear p188
                  try clear p19
                  try clear p192
                  try clear p2
                  try clear q1
                  try clear q18
                  try clear q180
                  try clear q184
                  try clear q188
                  try clear q19
                  try clear q192
                  obtain ⟨kq, x13_39, rfl, HA, HJ39, HB⟩ := hcut
                  cases kq with
                  | zero => exact absurd HA.out (by simp [brackenlaw11_DeclXML.j1])
                  | succ kj39 =>
                   have H := HA.out
                   clear HA
                   simp only [brackenlaw11_DeclXML.j1] at H
                   (try simp only [hji5, hji8, hji11, hji14] at H)
                   by_cases c45 : x13_39.size + 2 ≤ 9223372036854775807
                   ·rw [if_pos c45] at H
                    have c45b0 := eq_true c45
                    have c45b1 := decide_eq_true c45
                    try have c45b2 := eq_false (Nat.not_lt.2 c45)
                    by_cases c46 : x13_39.size + 2 + 4 ≤ 9223372036854775807
                    ·rw [if_pos c46] at H
                     have c46b0 := eq_true c46
                     have c46b1 := decide_eq_true c46
                     try have c46b2 := eq_false (Nat.not_lt.2 c46)
                     replace H := Option.bind_eq_some_iff.mp H
                     obtain ⟨⟨t193, t194⟩, A470, H⟩ := H
                     try dsimp only at H
                     have A47 := Aside0.mk A470
                     clear A470
                     by_cases c48 : (rdOf ByteArray.empty y177 (ji5)).toList = ([] : List UInt8)
                     ·rw [if_pos c48] at H
                      have c48b0 := beq_iff_eq.mpr c48
                      have c48b1 := bne_eq_false_iff_eq.mpr c48
                      have c48b5 : (rdOf ByteArray.empty y177 (ji5)).toList.isEmpty = true := by rw [← c48b0]; exact (isEmpty_beq4 _)
                      clear c48
                      replace H := Option.bind_eq_some_iff.mp H
                      obtain ⟨t195, A490, H⟩ := H
                      try dsimp only at H
                      have A49 := Aside0.mk A490
                      clear A490
                      by_cases c50 : t195 = true
                      ·subst c50
                       rw [if_pos rfl] at H
                       try dsimp only at H
                       by_cases c51 : t193 = 0
                       ·rw [if_pos c51] at H
                        have c51b0 := beq_iff_eq.mpr c51
                        have c51b1 := bne_eq_false_iff_eq.mpr c51
                        clear c51
                        obtain rfl := Option.some.inj H
                        go_wp2_with (first | ((with_reducible refine gate_callee (f := 23) rfl ?_); refine goesL_ (some 72) rfl rfl Tryd.func23 (by kernel_rfl) rfl #[.string ((x13_39 ++ (⟨#[63, 62]⟩ : ByteArray)) ++ (⟨#[60, 97, 47, 62]⟩ : ByteArray))] rfl (by (try simp only [List.map_toArray, List.map_cons, List.map_nil]); first | done | rfl | (simp only [List.length_drop, List.length_take]; rfl)) ?_; (with_reducible refine (decl_XML.calls ((x13_39 ++ (⟨#[63, 62]⟩ : ByteArray)) ++ (⟨#[60, 97, 47, 62]⟩ : ByteArray)) t193 t194 _ (Env.below HE.out (by repeat (first | (with_reducible first | exact HB.out | apply below_alloc | apply pw_below_drewN | apply below_drew1) | exact HB.out))) A47.out).mono ?_); rintro e w52 ⟨rfl, hb⟩; refine ⟨_, rfl, ?_⟩; have n0_ := Aside0.mk (below_step (by repeat (first | (with_reducible first | exact HB.out | apply below_alloc | apply pw_below_drewN | apply below_drew1) | exact HB.out)) hb); clear HB; have HB := n0_; clear n0_; (try clear hb); (try clear hb2); (try clear hk); (try clear hi)) | (go_at_call 22; (with_reducible refine (brackenlaw11_told.calls  true _ (Env.below HE.out (by repeat (first | (with_reducible first | exact HB.out | apply below_alloc | apply pw_below_drewN | apply below_drew1) | exact HB.out))) hidTrue A49.out).mono ?_); rintro e w53 ⟨rfl, hb⟩; have n0_ := Aside0.mk (below_step (by repeat (first | (with_reducible first | exact HB.out | apply below_alloc | apply pw_below_drewN | apply below_drew1) | exact HB.out)) hb); clear HB; have HB := n0_; clear n0_; (try clear hb); (try clear hb2); (try clear hk); (try clear hi)))
                        go_ret
                        exact ⟨by first | rfl | (simp [errW_none, errW_some] <;> rfl) | (simp only [← hji5, ← hji8, ← hji11, ← hji14]; first | rfl | (simp [errW_none, errW_some] <;> rfl)) | (simp [*, errW_none, errW_some] <;> rfl), by repeat (first | (with_reducible first | exact HB.out | apply below_alloc | apply pw_below_drewN | apply below_drew1) | exact HB.out)⟩
                       ·rw [if_neg c51] at H
                        have c51b0 := beq_eq_false_iff_ne.mpr c51
                        have c51b1 := bne_iff_ne.mpr c51
                        exact absurd ((Option.some.inj H).trans hTrue.out) (by decide)
                      ·replace c50 := Bool.eq_false_iff.mpr c50
                       subst c50
                       rw [if_neg (show ¬ (false = true) by decide)] at H
                       try dsimp only at H
                       exact absurd ((Option.some.inj H).trans hTrue.out) (by decide)
                     ·rw [if_neg c48] at H
                      have c48b0 := beq_eq_false_iff_ne.mpr c48
                      have c48b1 := bne_iff_ne.mpr c48
                      have c48b5 : (rdOf ByteArray.empty y177 (ji5)).toList.isEmpty = false := by rw [← c48b0]; exact (isEmpty_beq4 _)
                      by_cases c54 : (ji8) < 2
                      ·rw [if_pos c54] at H
                       have c54b0 := decide_eq_true c54
                       clear c54
                       by_cases c55 : (ji11) < 3
                       ·rw [if_pos c55] at H
                        have c55b0 := decide_eq_true c55
                        clear c55
                        replace H := Option.bind_eq_some_iff.mp H
                        obtain ⟨t196, A560, H⟩ := H
                        try dsimp only at H
                        have A56 := Aside0.mk A560
                        clear A560
                        by_cases c57 : t196 = true
                        ·subst c57
                         rw [if_pos rfl] at H
                         try dsimp only at H
                         by_cases c58 : ((t194 == 0) == (decide ((ji14) < 3))) = true
                         ·rw [if_pos c58] at H
                          have c58b0 : ((t194 == 0) == (decide ((ji14) < 3))) = true := c58
                          (try (have c58b1 : decide ((t194 == 0) = (decide ((ji14) < 3))) = true := by simpa using c58))
                          (try (have c58b2 : ((t194 == 0) == (decide ((ji14) < 3))) = true := by simpa using c58))
                          clear c58
                          by_cases c59 : t194 = 0
                          ·rw [if_pos c59] at H
                           have c59b0 := beq_iff_eq.mpr c59
                           have c59qc58 : decide ((ji14) < 3) = true := by have h_ := c58b2; rw [c59b0] at h_; revert h_; cases decide ((ji14) < 3) <;> decide
                           have c59rc58 := of_decide_eq_true c59qc58
                           have c59b1 := bne_eq_false_iff_eq.mpr c59
                           clear c59
                           by_cases c60 : t193 = ((x13_39 ++ (⟨#[63, 62]⟩ : ByteArray)).size : Int)
                           ·rw [if_pos c60] at H
                            have c60b0 := beq_iff_eq.mpr c60
                            have c60b1 := bne_eq_false_iff_eq.mpr c60
                            have c60e : ((x13_39 ++ (⟨#[63, 62]⟩ : ByteArray)).size : Int) = ((x13_39).size : Int) + 2 := by simp only [ByteArray.size_append, Int.natCast_add]; rfl
                            have c60b2 : (t193 == (((x13_39).size : Int) + 2)) = true := by rw [← c60e]; exact c60b0
                            have c60b3 : (t193 != (((x13_39).size : Int) + 2)) = false := by rw [← c60e]; exact c60b1
                            have c60b4 : (t193 = (((x13_39).size : Int) + 2)) = True := eq_true (beq_iff_eq.mp c60b2)
                            clear c60
                            obtain rfl := Option.some.inj H
                            go_wp2_with (first | ((with_reducible refine gate_callee (f := 23) rfl ?_); refine goesL_ (some 72) rfl rfl Tryd.func23 (by kernel_rfl) rfl #[.string ((x13_39 ++ (⟨#[63, 62]⟩ : ByteArray)) ++ (⟨#[60, 97, 47, 62]⟩ : ByteArray))] rfl (by (try simp only [List.map_toArray, List.map_cons, List.map_nil]); first | done | rfl | (simp only [List.length_drop, List.length_take]; rfl)) ?_; (with_reducible refine (decl_XML.calls ((x13_39 ++ (⟨#[63, 62]⟩ : ByteArray)) ++ (⟨#[60, 97, 47, 62]⟩ : ByteArray)) t193 t194 _ (Env.below HE.out (by repeat (first | (with_reducible first | exact HB.out | apply below_alloc | apply pw_below_drewN | apply below_drew1) | exact HB.out))) A47.out).mono ?_); rintro e w61 ⟨rfl, hb⟩; refine ⟨_, rfl, ?_⟩; have n0_ := Aside0.mk (below_step (by repeat (first | (with_reducible first | exact HB.out | apply below_alloc | apply pw_below_drewN | apply below_drew1) | exact HB.out)) hb); clear HB; have HB := n0_; clear n0_; (try clear hb); (try clear hb2); (try clear hk); (try clear hi)) | (go_at_call 22; (with_reducible refine (brackenlaw11_told.calls  true _ (Env.below HE.out (by repeat (first | (with_reducible first | exact HB.out | apply below_alloc | apply pw_below_drewN | apply below_drew1) | exact HB.out))) hidTrue A56.out).mono ?_); rintro e w62 ⟨rfl, hb⟩; have n0_ := Aside0.mk (below_step (by repeat (first | (with_reducible first | exact HB.out | apply below_alloc | apply pw_below_drewN | apply below_drew1) | exact HB.out)) hb); clear HB; have HB := n0_; clear n0_; (try clear hb); (try clear hb2); (try clear hk); (try clear hi)))
                            go_ret
                            exact ⟨by first | rfl | (simp [errW_none, errW_some] <;> rfl) | (simp only [← hji5, ← hji8, ← hji11, ← hji14]; first | rfl | (simp [errW_none, errW_some] <;> rfl)) | (simp [*, errW_none, errW_some] <;> rfl), by repeat (first | (with_reducible first | exact HB.out | apply below_alloc | apply pw_below_drewN | apply below_drew1) | exact HB.out)⟩
                           ·rw [if_neg c60] at H
                            have c60b0 := beq_eq_false_iff_ne.mpr c60
                            have c60b1 := bne_iff_ne.mpr c60
                            have c60e : ((x13_39 ++ (⟨#[63, 62]⟩ : ByteArray)).size : Int) = ((x13_39).size : Int) + 2 := by simp only [ByteArray.size_append, Int.natCast_add]; rfl
                            have c60b2 : (t193 == (((x13_39).size : Int) + 2)) = false := by rw [← c60e]; exact c60b0
                            have c60b3 : (t193 != (((x13_39).size : Int) + 2)) = true := by rw [← c60e]; exact c60b1
                            have c60b4 : (t193 = (((x13_39).size : Int) + 2)) = False := eq_false (beq_eq_false_iff_ne.mp c60b2)
                            by_cases c63 : t194 = 2
                            ·rw [if_pos c63] at H
                             have c63b0 := beq_iff_eq.mpr c63
                             have c63b1 := bne_eq_false_iff_eq.mpr c63
                             clear c63
                             obtain rfl := Option.some.inj H
                             go_wp2_with (first | ((with_reducible refine gate_callee (f := 23) rfl ?_); refine goesL_ (some 72) rfl rfl Tryd.func23 (by kernel_rfl) rfl #[.string ((x13_39 ++ (⟨#[63, 62]⟩ : ByteArray)) ++ (⟨#[60, 97, 47, 62]⟩ : ByteArray))] rfl (by (try simp only [List.map_toArray, List.map_cons, List.map_nil]); first | done | rfl | (simp only [List.length_drop, List.length_take]; rfl)) ?_; (with_reducible refine (decl_XML.calls ((x13_39 ++ (⟨#[63, 62]⟩ : ByteArray)) ++ (⟨#[60, 97, 47, 62]⟩ : ByteArray)) t193 t194 _ (Env.below HE.out (by repeat (first | (with_reducible first | exact HB.out | apply below_alloc | apply pw_below_drewN | apply below_drew1) | exact HB.out))) A47.out).mono ?_); rintro e w64 ⟨rfl, hb⟩; refine ⟨_, rfl, ?_⟩; have n0_ := Aside0.mk (below_step (by repeat (first | (with_reducible first | exact HB.out | apply below_alloc | apply pw_below_drewN | apply below_drew1) | exact HB.out)) hb); clear HB; have HB := n0_; clear n0_; (try clear hb); (try clear hb2); (try clear hk); (try clear hi)) | (go_at_call 22; (with_reducible refine (brackenlaw11_told.calls  true _ (Env.below HE.out (by repeat (first | (with_reducible first | exact HB.out | apply below_alloc | apply pw_below_drewN | apply below_drew1) | exact HB.out))) hidTrue A56.out).mono ?_); rintro e w65 ⟨rfl, hb⟩; have n0_ := Aside0.mk (below_step (by repeat (first | (with_reducible first | exact HB.out | apply below_alloc | apply pw_below_drewN | apply below_drew1) | exact HB.out)) hb); clear HB; have HB := n0_; clear n0_; (try clear hb); (try clear hb2); (try clear hk); (try clear hi)))
                             go_ret
                             exact ⟨by first | rfl | (simp [errW_none, errW_some] <;> rfl) | (simp only [← hji5, ← hji8, ← hji11, ← hji14]; first | rfl | (simp [errW_none, errW_some] <;> rfl)) | (simp [*, errW_none, errW_some] <;> rfl), by repeat (first | (with_reducible first | exact HB.out | apply below_alloc | apply pw_below_drewN | apply below_drew1) | exact HB.out)⟩
                            ·rw [if_neg c63] at H
                             have c63b0 := beq_eq_false_iff_ne.mpr c63
                             have c63b1 := bne_iff_ne.mpr c63
                             exact absurd ((Option.some.inj H).trans hTrue.out) (by decide)
                          ·rw [if_neg c59] at H
                           have c59b0 := beq_eq_false_iff_ne.mpr c59
                           have c59qc58 : decide ((ji14) < 3) = false := by have h_ := c58b2; rw [c59b0] at h_; revert h_; cases decide ((ji14) < 3) <;> decide
                           have c59rc58 := of_decide_eq_false c59qc58
                           have c59b1 := bne_iff_ne.mpr c59
                           by_cases c66 : t194 = 2
                           ·rw [if_pos c66] at H
                            have c66b0 := beq_iff_eq.mpr c66
                            have c66b1 := bne_eq_false_iff_eq.mpr c66
                            clear c66
                            obtain rfl := Option.some.inj H
                            go_wp2_with (first | ((with_reducible refine gate_callee (f := 23) rfl ?_); refine goesL_ (some 72) rfl rfl Tryd.func23 (by kernel_rfl) rfl #[.string ((x13_39 ++ (⟨#[63, 62]⟩ : ByteArray)) ++ (⟨#[60, 97, 47, 62]⟩ : ByteArray))] rfl (by (try simp only [List.map_toArray, List.map_cons, List.map_nil]); first | done | rfl | (simp only [List.length_drop, List.length_take]; rfl)) ?_; (with_reducible refine (decl_XML.calls ((x13_39 ++ (⟨#[63, 62]⟩ : ByteArray)) ++ (⟨#[60, 97, 47, 62]⟩ : ByteArray)) t193 t194 _ (Env.below HE.out (by repeat (first | (with_reducible first | exact HB.out | apply below_alloc | apply pw_below_drewN | apply below_drew1) | exact HB.out))) A47.out).mono ?_); rintro e w67 ⟨rfl, hb⟩; refine ⟨_, rfl, ?_⟩; have n0_ := Aside0.mk (below_step (by repeat (first | (with_reducible first | exact HB.out | apply below_alloc | apply pw_below_drewN | apply below_drew1) | exact HB.out)) hb); clear HB; have HB := n0_; clear n0_; (try clear hb); (try clear hb2); (try clear hk); (try clear hi)) | (go_at_call 22; (with_reducible refine (brackenlaw11_told.calls  true _ (Env.below HE.out (by repeat (first | (with_reducible first | exact HB.out | apply below_alloc | apply pw_below_drewN | apply below_drew1) | exact HB.out))) hidTrue A56.out).mono ?_); rintro e w68 ⟨rfl, hb⟩; have n0_ := Aside0.mk (below_step (by repeat (first | (with_reducible first | exact HB.out | apply below_alloc | apply pw_below_drewN | apply below_drew1) | exact HB.out)) hb); clear HB; have HB := n0_; clear n0_; (try clear hb); (try clear hb2); (try clear hk); (try clear hi)))
                            go_ret
                            exact ⟨by first | rfl | (simp [errW_none, errW_some] <;> rfl) | (simp only [← hji5, ← hji8, ← hji11, ← hji14]; first | rfl | (simp [errW_none, errW_some] <;> rfl)) | (simp [*, errW_none, errW_some] <;> rfl), by repeat (first | (with_reducible first | exact HB.out | apply below_alloc | apply pw_below_drewN | apply below_drew1) | exact HB.out)⟩
                           ·rw [if_neg c66] at H
                            have c66b0 := beq_eq_false_iff_ne.mpr c66
                            have c66b1 := bne_iff_ne.mpr c66
                            exact absurd ((Option.some.inj H).trans hTrue.out) (by decide)
                         ·rw [if_neg c58] at H
                          have c58b0 : ((t194 == 0) == (decide ((ji14) < 3))) = false := by simpa using c58
                          (try (have c58b1 : decide ((t194 == 0) = (decide ((ji14) < 3))) = false := by simpa using c58))
                          (try (have c58b2 : ((t194 == 0) == (decide ((ji14) < 3))) = false := by simpa using c58))
                          (try (have c58b3 : ¬ ((t194 == 0) = (decide ((ji14) < 3))) := by simpa using c58))
                          clear c58
                          exact absurd ((Option.some.inj H).trans hTrue.out) (by decide)
                        ·replace c57 := Bool.eq_false_iff.mpr c57
                         subst c57
                         rw [if_neg (show ¬ (false = true) by decide)] at H
                         try dsimp only at H
                         exact absurd ((Option.some.inj H).trans hTrue.out) (by decide)
                       ·rw [if_neg c55] at H
                        have c55b0 := decide_eq_false c55
                        clear c55
                        replace H := Option.bind_eq_some_iff.mp H
                        obtain ⟨t197, A690, H⟩ := H
                        try dsimp only at H
                        have A69 := Aside0.mk A690
                        clear A690
                        by_cases c70 : t197 = true
                        ·subst c70
                         rw [if_pos rfl] at H
                         try dsimp only at H
                         by_cases c71 : ((t194 == 0) == false) = true
                         ·rw [if_pos c71] at H
                          have c71b0 : ((t194 == 0) == false) = true := c71
                          (try (have c71b1 : decide ((t194 == 0) = false) = true := by simpa using c71))
                          (try (have c71b2 : ((t194 == 0) == false) = true := by simpa using c71))
                          clear c71
                          by_cases c72 : t194 = 0
                          ·rw [if_pos c72] at H
                           have c72b0 := beq_iff_eq.mpr c72
                           exact absurd c71b2 (by rw [c72b0]; decide)
                          ·rw [if_neg c72] at H
                           have c72b0 := beq_eq_false_iff_ne.mpr c72
                           have c72b1 := bne_iff_ne.mpr c72
                           by_cases c79 : t194 = 2
                           ·rw [if_pos c79] at H
                            have c79b0 := beq_iff_eq.mpr c79
                            have c79b1 := bne_eq_false_iff_eq.mpr c79
                            clear c79
                            obtain rfl := Option.some.inj H
                            go_wp2_with (first | ((with_reducible refine gate_callee (f := 23) rfl ?_); refine goesL_ (some 72) rfl rfl Tryd.func23 (by kernel_rfl) rfl #[.string ((x13_39 ++ (⟨#[63, 62]⟩ : ByteArray)) ++ (⟨#[60, 97, 47, 62]⟩ : ByteArray))] rfl (by (try simp only [List.map_toArray, List.map_cons, List.map_nil]); first | done | rfl | (simp only [List.length_drop, List.length_take]; rfl)) ?_; (with_reducible refine (decl_XML.calls ((x13_39 ++ (⟨#[63, 62]⟩ : ByteArray)) ++ (⟨#[60, 97, 47, 62]⟩ : ByteArray)) t193 t194 _ (Env.below HE.out (by repeat (first | (with_reducible first | exact HB.out | apply below_alloc | apply pw_below_drewN | apply below_drew1) | exact HB.out))) A47.out).mono ?_); rintro e w80 ⟨rfl, hb⟩; refine ⟨_, rfl, ?_⟩; have n0_ := Aside0.mk (below_step (by repeat (first | (with_reducible first | exact HB.out | apply below_alloc | apply pw_below_drewN | apply below_drew1) | exact HB.out)) hb); clear HB; have HB := n0_; clear n0_; (try clear hb); (try clear hb2); (try clear hk); (try clear hi)) | (go_at_call 22; (with_reducible refine (brackenlaw11_told.calls  true _ (Env.below HE.out (by repeat (first | (with_reducible first | exact HB.out | apply below_alloc | apply pw_below_drewN | apply below_drew1) | exact HB.out))) hidTrue A69.out).mono ?_); rintro e w81 ⟨rfl, hb⟩; have n0_ := Aside0.mk (below_step (by repeat (first | (with_reducible first | exact HB.out | apply below_alloc | apply pw_below_drewN | apply below_drew1) | exact HB.out)) hb); clear HB; have HB := n0_; clear n0_; (try clear hb); (try clear hb2); (try clear hk); (try clear hi)))
                            go_ret
                            exact ⟨by first | rfl | (simp [errW_none, errW_some] <;> rfl) | (simp only [← hji5, ← hji8, ← hji11, ← hji14]; first | rfl | (simp [errW_none, errW_some] <;> rfl)) | (simp [*, errW_none, errW_some] <;> rfl), by repeat (first | (with_reducible first | exact HB.out | apply below_alloc | apply pw_below_drewN | apply below_drew1) | exact HB.out)⟩
                           ·rw [if_neg c79] at H
                            have c79b0 := beq_eq_false_iff_ne.mpr c79
                            have c79b1 := bne_iff_ne.mpr c79
                            exact absurd ((Option.some.inj H).trans hTrue.out) (by decide)
                         ·rw [if_neg c71] at H
                          have c71b0 : ((t194 == 0) == false) = false := by simpa using c71
                          (try (have c71b1 : decide ((t194 == 0) = false) = false := by simpa using c71))
                          (try (have c71b2 : ((t194 == 0) == false) = false := by simpa using c71))
                          (try (have c71b3 : ¬ ((t194 == 0) = false) := by simpa using c71))
                          clear c71
                          exact absurd ((Option.some.inj H).trans hTrue.out) (by decide)
                        ·replace c70 := Bool.eq_false_iff.mpr c70
                         subst c70
                         rw [if_neg (show ¬ (false = true) by decide)] at H
                         try dsimp only at H
                         exact absurd ((Option.some.inj H).trans hTrue.out) (by decide)
                      ·rw [if_neg c54] at H
                       have c54b0 := decide_eq_false c54
                       clear c54
                       replace H := Option.bind_eq_some_iff.mp H
                       obtain ⟨t198, A820, H⟩ := H
                       try dsimp only at H
                       have A82 := Aside0.mk A820
                       clear A820
                       by_cases c83 : t198 = true
                       ·subst c83
                        rw [if_pos rfl] at H
                        try dsimp only at H
                        by_cases c84 : ((t194 == 0) == false) = true
                        ·rw [if_pos c84] at H
                         have c84b0 : ((t194 == 0) == false) = true := c84
                         (try (have c84b1 : decide ((t194 == 0) = false) = true := by simpa using c84))
                         (try (have c84b2 : ((t194 == 0) == false) = true := by simpa using c84))
                         clear c84
                         by_cases c85 : t194 = 0
                         ·rw [if_pos c85] at H
                          have c85b0 := beq_iff_eq.mpr c85
                          exact absurd c84b2 (by rw [c85b0]; decide)
                         ·rw [if_neg c85] at H
                          have c85b0 := beq_eq_false_iff_ne.mpr c85
                          have c85b1 := bne_iff_ne.mpr c85
                          by_cases c92 : t194 = 2
                          ·rw [if_pos c92] at H
                           have c92b0 := beq_iff_eq.mpr c92
                           have c92b1 := bne_eq_false_iff_eq.mpr c92
                           clear c92
                           obtain rfl := Option.some.inj H
                           go_wp2_with (first | ((with_reducible refine gate_callee (f := 23) rfl ?_); refine goesL_ (some 72) rfl rfl Tryd.func23 (by kernel_rfl) rfl #[.string ((x13_39 ++ (⟨#[63, 62]⟩ : ByteArray)) ++ (⟨#[60, 97, 47, 62]⟩ : ByteArray))] rfl (by (try simp only [List.map_toArray, List.map_cons, List.map_nil]); first | done | rfl | (simp only [List.length_drop, List.length_take]; rfl)) ?_; (with_reducible refine (decl_XML.calls ((x13_39 ++ (⟨#[63, 62]⟩ : ByteArray)) ++ (⟨#[60, 97, 47, 62]⟩ : ByteArray)) t193 t194 _ (Env.below HE.out (by repeat (first | (with_reducible first | exact HB.out | apply below_alloc | apply pw_below_drewN | apply below_drew1) | exact HB.out))) A47.out).mono ?_); rintro e w93 ⟨rfl, hb⟩; refine ⟨_, rfl, ?_⟩; have n0_ := Aside0.mk (below_step (by repeat (first | (with_reducible first | exact HB.out | apply below_alloc | apply pw_below_drewN | apply below_drew1) | exact HB.out)) hb); clear HB; have HB := n0_; clear n0_; (try clear hb); (try clear hb2); (try clear hk); (try clear hi)) | (go_at_call 22; (with_reducible refine (brackenlaw11_told.calls  true _ (Env.below HE.out (by repeat (first | (with_reducible first | exact HB.out | apply below_alloc | apply pw_below_drewN | apply below_drew1) | exact HB.out))) hidTrue A82.out).mono ?_); rintro e w94 ⟨rfl, hb⟩; have n0_ := Aside0.mk (below_step (by repeat (first | (with_reducible first | exact HB.out | apply below_alloc | apply pw_below_drewN | apply below_drew1) | exact HB.out)) hb); clear HB; have HB := n0_; clear n0_; (try clear hb); (try clear hb2); (try clear hk); (try clear hi)))
                           go_ret
                           exact ⟨by first | rfl | (simp [errW_none, errW_some] <;> rfl) | (simp only [← hji5, ← hji8, ← hji11, ← hji14]; first | rfl | (simp [errW_none, errW_some] <;> rfl)) | (simp [*, errW_none, errW_some] <;> rfl), by repeat (first | (with_reducible first | exact HB.out | apply below_alloc | apply pw_below_drewN | apply below_drew1) | exact HB.out)⟩
                          ·rw [if_neg c92] at H
                           have c92b0 := beq_eq_false_iff_ne.mpr c92
                           have c92b1 := bne_iff_ne.mpr c92
                           exact absurd ((Option.some.inj H).trans hTrue.out) (by decide)
                        ·rw [if_neg c84] at H
                         have c84b0 : ((t194 == 0) == false) = false := by simpa using c84
                         (try (have c84b1 : decide ((t194 == 0) = false) = false := by simpa using c84))
                         (try (have c84b2 : ((t194 == 0) == false) = false := by simpa using c84))
                         (try (have c84b3 : ¬ ((t194 == 0) = false) := by simpa using c84))
                         clear c84
                         exact absurd ((Option.some.inj H).trans hTrue.out) (by decide)
                       ·replace c83 := Bool.eq_false_iff.mpr c83
                        subst c83
                        rw [if_neg (show ¬ (false = true) by decide)] at H
                        try dsimp only at H
                        exact absurd ((Option.some.inj H).trans hTrue.out) (by decide)
                    ·rw [if_neg c46] at H
                     exact absurd H (by simp)
                   ·rw [if_neg c45] at H
                    exact absurd H (by simp)
              ·rw [if_neg c22] at H
               exact absurd H (by simp)
             ·rw [if_neg c21] at H
              exact absurd H (by simp)
            ·rw [if_neg c20] at H
             exact absurd H (by simp)
           ·rw [if_neg c19] at H
            exact absurd H (by simp)
          ·rw [if_neg c18] at H
           exact absurd H (by simp)
         ·rw [if_neg c17] at H
          exact absurd H (by simp)
        ·rw [if_neg c16] at H
         exact absurd H (by simp)
       ·rw [if_neg c15] at H
        exact absurd H (by simp)
      ·rw [if_neg c13] at H
       exact absurd H (by simp)
     ·rw [if_neg c12] at H
      exact absurd H (by simp)
    ·rw [if_neg c10] at H
     exact absurd H (by simp)
   ·rw [if_neg c9] at H
    exact absurd H (by simp)
  ·rw [if_neg c7] at H
   exact absurd H (by simp)
 ·rw [if_neg c6] at H
  exact absurd H (by simp)

/-- THE ONE PURE STATEMENT of brackenlaw11_DeclXML: yours. -/
def brackenlaw11_DeclXML.Pure : Prop := ∀ (a0 : Int) (a1 : Int) (a2 : Int) (a3 : Int), (Lit.int .i64 a0).wf = true → (Lit.int .i64 a1).wf = true → (Lit.int .i64 a2).wf = true → (Lit.int .i64 a3).wf = true → ∃ k, brackenlaw11_DeclXML.f k a0 a1 a2 a3 = some true
theorem brackenlaw11_DeclXML.walk (P : brackenlaw11_DeclXML.Pure) (a0 : Int) (a1 : Int) (a2 : Int) (a3 : Int) (w : World) (hE : Env w) (w0 : (Lit.int .i64 a0).wf = true) (w1 : (Lit.int .i64 a1).wf = true) (w2 : (Lit.int .i64 a2).wf = true) (w3 : (Lit.int .i64 a3).wf = true) :
  Calls Tryd.prog 9 #[.int .i64 a0, .int .i64 a1, .int .i64 a2, .int .i64 a3] w fun e w' => e = .returned (.bool true) ∧ Below w.heap.size w w' := by
 obtain ⟨k, h⟩ := P a0 a1 a2 a3 w0 w1 w2 w3
 refine (brackenlaw11_DeclXML.calls k a0 a1 a2 a3 true w hE hidTrue h).mono ?_
 rintro e w' ⟨rfl, hd⟩
 exact ⟨rfl, hd⟩

end Go.Proofs.YtmjdjpelhhibgaaDoor.R3
