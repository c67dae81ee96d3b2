/- The pure statements of two laws on characters: the edges of the ranges; what the document's own answer says. -/
import Derived.Test.YtiddhaakbcnbiaaDoorR2x1
namespace Go.Proofs.YtiddhaakbcnbiaaDoor.Pure
open Go.RowKit Go.Proofs.YtiddhaakbcnbiaaDoorW.PrintWords Go.Proofs.YtiddhaakbcnbiaaDoorW.PrintLast Go.Proofs.YtiddhaakbcnbiaaDoor.Spec Go.Proofs.YtiddhaakbcnbiaaDoor.Giv Go.Proofs.YtiddhaakbcnbiaaDoor.Ref Go.Proofs.YtiddhaakbcnbiaaDoor.Names Go.Proofs.YtiddhaakbcnbiaaDoor.R2
set_option linter.unusedVariables false

theorem told_true : brackenlaw1_told.f = some true := by decide +kernel

def ins : List Int := [65, 90, 97, 122, 95, 58, 192, 214, 216, 246, 248, 767, 880, 893, 895, 8191, 8204, 8205, 8304, 8591, 11264, 12271, 12289, 55295, 63744, 64975, 65008, 65533, 65536, 983039]
def nos : List Int := [64, 91, 96, 123, 47, 59, 215, 247, 768, 879, 894, 8192, 8203, 8206, 8303, 8592, 11263, 12272, 12288, 57344, 64976, 65007, 65534, 983040, 45, 46, 48, 183]
def pts : List Int := [45, 46, 48, 57, 183, 768, 879, 8255, 8256]
theorem ins_ok : ∀ i : Fin 30, startB (ins.getD i.val 0) = true ∧ partB (ins.getD i.val 0) = true := by decide
theorem nos_ok : ∀ i : Fin 28, startB (nos.getD i.val 0) = false := by decide
theorem pts_ok : ∀ i : Fin 9, startB (pts.getD i.val 0) = false ∧ partB (pts.getD i.val 0) = true := by decide
theorem rd_of (l : List Int) (x : Int) (i : Nat) (h : x = (i : Int)) : rd l x = l.getD i 0 := by subst h; rfl

theorem wrapU_nonneg (x : Int) : 0 ≤ IntKind.u64.wrap x := by rw [IntKind.wrap_u64]; omega

theorem RunesEdges : brackenlaw1_RunesEdges.Pure := by
  intro a0 w0
  unfold brackenlaw1_RunesEdges.f runes_Start.f runes_Part.f
  rw [told_true]
  obtain ⟨U, hU⟩ : ∃ U, IntKind.u64.wrap a0 = U := ⟨_, rfl⟩
  have hU0 : 0 ≤ U := by rw [← hU]; exact wrapU_nonneg a0
  rw [hU]
  clear hU
  obtain ⟨u, rfl⟩ := Int.eq_ofNat_of_zero_le hU0
  have h1 : u % 30 < 30 := Nat.mod_lt _ (by decide)
  have h2 : u % 28 < 28 := Nat.mod_lt _ (by decide)
  have h3 : u % 9 < 9 := Nat.mod_lt _ (by decide)
  obtain ⟨s1, p1⟩ := ins_ok ⟨u % 30, h1⟩
  have s2 := nos_ok ⟨u % 28, h2⟩
  obtain ⟨s3, p3⟩ := pts_ok ⟨u % 9, h3⟩
  have l1 : IntKind.u64.wrap ((ins.length : Nat) : Int) = 30 := by decide
  have l2 : IntKind.u64.wrap ((nos.length : Nat) : Int) = 28 := by decide
  have l3 : IntKind.u64.wrap ((pts.length : Nat) : Int) = 9 := by decide
  have t1 : Int.tmod (u : Int) 30 = ((u % 30 : Nat) : Int) := rfl
  have t2 : Int.tmod (u : Int) 28 = ((u % 28 : Nat) : Int) := rfl
  have t3 : Int.tmod (u : Int) 9 = ((u % 9 : Nat) : Int) := rfl
  have b1 : ((u % 30 : Nat) : Int) < ((ins.length : Nat) : Int) := by have : ins.length = 30 := rfl; omega
  have b2 : ((u % 28 : Nat) : Int) < ((nos.length : Nat) : Int) := by have : nos.length = 28 := rfl; omega
  have b3 : ((u % 9 : Nat) : Int) < ((pts.length : Nat) : Int) := by have : pts.length = 9 := rfl; omega
  have z1 : (0 : Int) ≤ ((u % 30 : Nat) : Int) := by omega
  have z2 : (0 : Int) ≤ ((u % 28 : Nat) : Int) := by omega
  have z3 : (0 : Int) ≤ ((u % 9 : Nat) : Int) := by omega
  show (some ins).bind _ = _
  rw [Option.bind_some]
  show (some nos).bind _ = _
  rw [Option.bind_some, l1, t1, if_neg (by decide), if_pos z1, if_pos b1, l2, t2, if_neg (by decide), if_pos z2, if_pos b2]
  show (some pts).bind _ = _
  rw [Option.bind_some, l3, t3, if_neg (by decide), if_pos z3, if_pos b3, Option.bind_some, if_pos rfl]
  rw [rd_of ins _ (u % 30) rfl, rd_of nos _ (u % 28) rfl, rd_of pts _ (u % 9) rfl]
  simp only [Option.bind_some, s1, p1, s2, s3, p3, if_true]
  rfl

theorem RunesAsks : brackenlaw1_RunesAsks.Pure := by
  intro a0 a1 w0 w1
  unfold brackenlaw1_RunesAsks.f
  rw [told_true]
  by_cases h : (a1.size : Int) > 100
  · rw [if_pos h]; rfl
  · rw [if_neg h]
    unfold runes_Split.f brackenref1_Split.f runes_Char.f brackenref1_Char.f runes_Space.f brackenref1_Space.f runes_Start.f brackenref1_Start.f runes_Part.f brackenref1_Part.f runes_Name.f brackenref1_Name.f runes_NCName.f brackenref1_NCName.f runes_Blank.f brackenref1_Blank.f
    rw [if_pos (show a1.size < 4294967281 by omega), if_pos w1, if_pos (show a1.size < 4294967281 by omega), if_pos w1, if_pos (show a1.size < 4294967281 by omega), if_pos w1, if_pos w1]
    simp

end Go.Proofs.YtiddhaakbcnbiaaDoor.Pure
