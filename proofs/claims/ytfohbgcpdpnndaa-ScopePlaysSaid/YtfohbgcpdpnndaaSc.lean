/- The contracts of the package of namespaces: declarations. -/
import Derived.Test.YtfohbgcpdpnndaaProg
import Derived.Test.YtfohbgcpdpnndaaOw
import Derived.Deep.QuietTactic
import Derived.BigQuiet
import Derived.BigRegion
import Derived.IntWalk
namespace Go.Proofs.Ytfohbgcpdpnndaa.Sc
open Go.RowKit Go.Proofs.Ytfohbgcpdpnndaa.Ow
set_option linter.unusedVariables false

structure At where
  pf : ByteArray
  lc : ByteArray
  ur : ByteArray
  vl : ByteArray
def atA (a : At) : Value := .agg #[.string a.pf, .string a.lc, .string a.ur, .string a.vl]
abbrev nsL : List UInt8 := [104, 116, 116, 112, 58, 47, 47, 119, 119, 119, 46, 119, 51, 46, 111, 114, 103, 47, 50, 48, 48, 48, 47, 120, 109, 108, 110, 115, 47]
abbrev xmlUL : List UInt8 := [104, 116, 116, 112, 58, 47, 47, 119, 119, 119, 46, 119, 51, 46, 111, 114, 103, 47, 88, 77, 76, 47, 49, 57, 57, 56, 47, 110, 97, 109, 101, 115, 112, 97, 99, 101]
abbrev xmlnsL : List UInt8 := [120, 109, 108, 110, 115]
abbrev xmlL : List UInt8 := [120, 109, 108]
def declR (a : At) : ByteArray × Bool := if (a.ur.toList == nsL) = true then (if (a.pf.toList == xmlnsL) = true then (a.lc, true) else (⟨#[]⟩, (a.pf.toList == []) && (a.lc.toList == xmlnsL))) else (⟨#[]⟩, false)
def wrongR (a : At) : Bool := if (a.pf.toList == []) = true then (a.vl.toList == xmlUL || a.vl.toList == nsL)
  else if (a.lc.toList == xmlnsL || a.vl.toList == nsL) = true then true
  else if (a.lc.toList == xmlL || a.vl.toList == xmlUL) = true then !(a.lc.toList == xmlL) || !(a.vl.toList == xmlUL)
  else a.vl.toList == []
theorem isE {s : ByteArray} {b : Bool} (h : (s.toList == []) = b) : s.toList.isEmpty = b := by
  rw [← h]; cases s.toList <;> rfl
set_option maxRecDepth 100000 in
theorem declares_any (a : At) (w : World) : Calls Try.prog 24 #[.agg #[.string a.pf, .string a.lc, .string a.ur, .string a.vl]] w fun e w' =>
    e = .returned (.tuple #[.string (declR a).1, .bool (declR a).2]) ∧ Below w.heap.size w w' := by
  obtain ⟨pf, lc, ur, vl⟩ := a
  simp only [declR]
  cases h1 : (ur.toList == nsL) with
  | false =>
    have h1' : (ur.toList != nsL) = true := by rw [bne, h1]; rfl
    go_enter Try.func24, Try.ntmps24
    go_wp2
    go_ret2
    exact ⟨rfl, (Below.refl _ _).alloc (Nat.le_refl _) _⟩
  | true =>
    have h1' : (ur.toList != nsL) = false := by rw [bne, h1]; rfl
    cases h2 : (pf.toList == xmlnsL) with
    | true =>
      go_enter Try.func24, Try.ntmps24
      go_wp2
      go_ret2
      exact ⟨rfl, (Below.refl _ _).alloc (Nat.le_refl _) _⟩
    | false =>
      cases h3 : (pf.toList == []) with
      | false =>
        have h3' := isE h3
        go_enter Try.func24, Try.ntmps24
        go_wp2
        go_quiet (fail)
        go_wp2
        go_ret2
        exact ⟨rfl, below_drewN ((Below.refl _ _).alloc (Nat.le_refl _) _)⟩
      | true =>
        have h3' := isE h3
        cases h4 : (lc.toList == xmlnsL)
        all_goals
          go_enter Try.func24, Try.ntmps24
          go_wp2
          go_quiet (fail)
          go_wp2
          go_ret2
          exact ⟨rfl, below_drewN ((Below.refl _ _).alloc (Nat.le_refl _) _)⟩
set_option maxRecDepth 100000 in
set_option maxHeartbeats 8000000 in
theorem wrong_any (a : At) (w : World) : Calls Try.prog 25 #[.agg #[.string a.pf, .string a.lc, .string a.ur, .string a.vl]] w fun e w' =>
    e = .returned (.bool (wrongR a)) ∧ Below w.heap.size w w' := by
  obtain ⟨pf, lc, ur, vl⟩ := a
  obtain ⟨R, hR⟩ : ∃ R, wrongR ⟨pf, lc, ur, vl⟩ = R := ⟨_, rfl⟩
  rw [hR]
  have HR := Lib.hid hR
  clear hR
  cases h1 : (pf.toList == []) <;> cases h2 : (vl.toList == xmlUL) <;> cases h3 : (vl.toList == nsL) <;> cases h4 : (lc.toList == xmlnsL) <;> cases h5 : (lc.toList == xmlL) <;> cases h6 : (vl.toList == [])
  all_goals
    have h1' := isE h1
    have h6' := isE h6
    have h2' : (vl.toList != xmlUL) = !(vl.toList == xmlUL) := rfl
    have h5' : (lc.toList != xmlL) = !(lc.toList == xmlL) := rfl
    rw [h2] at h2'
    rw [h5] at h5'
    have HX : Hid (R = wrongR ⟨pf, lc, ur, vl⟩) := HR.out.symm
    simp only [wrongR, h1, h2, h3, h4, h5, h6] at HX
    go_enter Try.func25, Try.ntmps25
    go_wp2
    go_ret
    refine ⟨?_, (Below.refl _ _).alloc (Nat.le_refl _) _⟩
    rw [HX.out]
    rfl
end Go.Proofs.Ytfohbgcpdpnndaa.Sc
