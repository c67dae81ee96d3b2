/-
  No cell of these rows narrows 'for every input' (looked for: loops, veiled, ifaces, maps, wideKeys, modest, calm, conditions, laid).
  DERIVED. THE GIVEN ROWS OF THIS SEAT. 5 by the template 'for every input the law returns true; each argument reads behind the call as it read before'; 0 by the template 'total and deterministic' (their statements: YtfohbgcpdpnndaaTotals.lean).
  GIVEN WITH THE SEED: the statements are not yours to turn. If you find one false, say at which input.
  Laid BY PROGRAM, IN A SANDBOX (cutbox-rows.mjs): the forced cells as the released guide's own fill.sh prints them over the translation 0e689e6949461820… (all of the seat's roots in one cut). By AI agents, Wed Nov 11 2026. No macro, syntax, notation, axiom, sorry.
-/
import Derived.Test.YtfohbgcpdpnndaaChecked
import GoSem.Claim
import GoSem.ClaimJoined
import GoSem.ClaimMapViews
import Derived.JoinedTies
import Derived.KernelRfl
namespace Go.Proofs.Ytfohbgcpdpnndaa
/- THE CELL 'sum', in the pinned program and in every row, IS THE sha256 OF THE DUMP (.gsa) THAT YtfohbgcpdpnndaaProg.lean LOADS. Nothing in Lean hashes anything: it is a label: what it is worth is what the hold of that sum in a sandbox is worth. -/
noncomputable def Try.pinned : Pinned := { name := "ytfohbgcpdpnndaa", sum := "0e689e69494618201d703a35427ddadf31d20ded62d1175d8ff0815fc04714e9", checked := Try.checked }
namespace Rows
def none {H : Type} : Left H := { results := [], args := [] }

/-- 'brackenlaw14.ScopeAll': WHATEVER THE INPUT: true; the input reads as it did. -/
def scopeAllSpec : ChangeSpec := { name := "scopeAll", fn := fun _ => fun
  | [d] => { results := [.lit (.bool true)], args := [d] }
  | _ => none }
def scopeAllRow : OpenClaim := { program := "ytfohbgcpdpnndaa", sum := "0e689e69494618201d703a35427ddadf31d20ded62d1175d8ff0815fc04714e9", func := "bracken/brackenlaw14.ScopeAll", spec := "scopeAll", unfollowed := true, recurses := true, apart := false }
def ScopeAllSaid : Prop := scopeAllRow.holds Try.pinned (OpenSpec.ofChange scopeAllSpec)

/-- ITS FALSE NEIGHBOUR: 'it returns false'. Refute it at one input. -/
def scopeAllWrong : ChangeSpec := { name := "scopeAll", fn := fun _ => fun
  | [d] => { results := [.lit (.bool false)], args := [d] }
  | _ => none }
def ScopeAllWrongFalsely : Prop := scopeAllRow.holds Try.pinned (OpenSpec.ofChange scopeAllWrong)

/-- 'brackenlaw14.ScopePlays': WHATEVER THE INPUT: true; the input reads as it did. -/
def scopePlaysSpec : ChangeSpec := { name := "scopePlays", fn := fun _ => fun
  | [d1, d2, d3] => { results := [.lit (.bool true)], args := [d1, d2, d3] }
  | _ => none }
def scopePlaysRow : OpenClaim := { program := "ytfohbgcpdpnndaa", sum := "0e689e69494618201d703a35427ddadf31d20ded62d1175d8ff0815fc04714e9", func := "bracken/brackenlaw14.ScopePlays", spec := "scopePlays", unfollowed := true, recurses := true, apart := false }
def ScopePlaysSaid : Prop := scopePlaysRow.holds Try.pinned (OpenSpec.ofChange scopePlaysSpec)

/-- ITS FALSE NEIGHBOUR: 'it returns false'. Refute it at one input. -/
def scopePlaysWrong : ChangeSpec := { name := "scopePlays", fn := fun _ => fun
  | [d1, d2, d3] => { results := [.lit (.bool false)], args := [d1, d2, d3] }
  | _ => none }
def ScopePlaysWrongFalsely : Prop := scopePlaysRow.holds Try.pinned (OpenSpec.ofChange scopePlaysWrong)

/-- 'brackenlaw14.ScopeLevels': WHATEVER THE INPUT: true; the input reads as it did. -/
def scopeLevelsSpec : ChangeSpec := { name := "scopeLevels", fn := fun _ => fun
  | [d1, d2] => { results := [.lit (.bool true)], args := [d1, d2] }
  | _ => none }
def scopeLevelsRow : OpenClaim := { program := "ytfohbgcpdpnndaa", sum := "0e689e69494618201d703a35427ddadf31d20ded62d1175d8ff0815fc04714e9", func := "bracken/brackenlaw14.ScopeLevels", spec := "scopeLevels", unfollowed := true, recurses := true, apart := false }
def ScopeLevelsSaid : Prop := scopeLevelsRow.holds Try.pinned (OpenSpec.ofChange scopeLevelsSpec)

/-- ITS FALSE NEIGHBOUR: 'it returns false'. Refute it at one input. -/
def scopeLevelsWrong : ChangeSpec := { name := "scopeLevels", fn := fun _ => fun
  | [d1, d2] => { results := [.lit (.bool false)], args := [d1, d2] }
  | _ => none }
def ScopeLevelsWrongFalsely : Prop := scopeLevelsRow.holds Try.pinned (OpenSpec.ofChange scopeLevelsWrong)

/-- 'brackenlaw14.ScopeRules': WHATEVER THE INPUT: true; the input reads as it did. -/
def scopeRulesSpec : ChangeSpec := { name := "scopeRules", fn := fun _ => fun
  | [d1, d2] => { results := [.lit (.bool true)], args := [d1, d2] }
  | _ => none }
def scopeRulesRow : OpenClaim := { program := "ytfohbgcpdpnndaa", sum := "0e689e69494618201d703a35427ddadf31d20ded62d1175d8ff0815fc04714e9", func := "bracken/brackenlaw14.ScopeRules", spec := "scopeRules", unfollowed := true, recurses := true, apart := false }
def ScopeRulesSaid : Prop := scopeRulesRow.holds Try.pinned (OpenSpec.ofChange scopeRulesSpec)

/-- ITS FALSE NEIGHBOUR: 'it returns false'. Refute it at one input. -/
def scopeRulesWrong : ChangeSpec := { name := "scopeRules", fn := fun _ => fun
  | [d1, d2] => { results := [.lit (.bool false)], args := [d1, d2] }
  | _ => none }
def ScopeRulesWrongFalsely : Prop := scopeRulesRow.holds Try.pinned (OpenSpec.ofChange scopeRulesWrong)

/-- 'brackenlaw14.ScopeTwice': WHATEVER THE INPUT: true; the input reads as it did. -/
def scopeTwiceSpec : ChangeSpec := { name := "scopeTwice", fn := fun _ => fun
  | [d1, d2, d3] => { results := [.lit (.bool true)], args := [d1, d2, d3] }
  | _ => none }
def scopeTwiceRow : OpenClaim := { program := "ytfohbgcpdpnndaa", sum := "0e689e69494618201d703a35427ddadf31d20ded62d1175d8ff0815fc04714e9", func := "bracken/brackenlaw14.ScopeTwice", spec := "scopeTwice", unfollowed := true, recurses := true, apart := false }
def ScopeTwiceSaid : Prop := scopeTwiceRow.holds Try.pinned (OpenSpec.ofChange scopeTwiceSpec)

/-- ITS FALSE NEIGHBOUR: 'it returns false'. Refute it at one input. -/
def scopeTwiceWrong : ChangeSpec := { name := "scopeTwice", fn := fun _ => fun
  | [d1, d2, d3] => { results := [.lit (.bool false)], args := [d1, d2, d3] }
  | _ => none }
def ScopeTwiceWrongFalsely : Prop := scopeTwiceRow.holds Try.pinned (OpenSpec.ofChange scopeTwiceWrong)

/- THE SECOND FORM. 'bulk': how many values and letters a reading holds, each counted each time it is reached (what is shared counts as often as it is met; a slice's spare places count too). A statement '..UptoSaid' is the law's where the arguments, and the package variables that the reading takes, are together of bulk at most 1048576: NARROWER than '..Said'. Prove '..Said' where nothing that the law and all that it calls make is longer than what came in: it says more and counts as full. Else prove '..UptoSaid'. A law counts once. -/
mutual
def uptoBulk {H : Type} : DataW H → Nat
  | .lit (.string bytes) => bytes.length + 1
  | .lit _ => 1
  | .nil => 1
  | .ptr d => uptoBulk d + 1
  | .slice elems spare => uptoBulkAll elems + uptoBulkAll spare + 1
  | .agg parts => uptoBulkAll parts + 1
  | .iface _ d => uptoBulk d + 1
  | .map entries => uptoBulkEntries entries + 1
  | .held _ => 1
def uptoBulkAll {H : Type} : List (DataW H) → Nat
  | [] => 0
  | d :: r => uptoBulk d + uptoBulkAll r
def uptoBulkEntries {H : Type} : List (Lit × DataW H) → Nat
  | [] => 0
  | x :: r => uptoBulkEntry x + uptoBulkEntries r
def uptoBulkEntry {H : Type} : Lit × DataW H → Nat
  | (.string bytes, d) => bytes.length + uptoBulk d + 1
  | (_, d) => uptoBulk d + 1
 end
def uptoSmall : (H : Type) → List (DataW H) → Bool := fun _ ds => decide (uptoBulkAll ds ≤ 1048576)
def OpenSpec.upto (s : _root_.Go.ChangeSpec) : _root_.Go.OpenSpec := { _root_.Go.OpenSpec.ofChange s with cond := some uptoSmall }

/-- 'brackenlaw14.ScopeAll', WHERE WHAT IT READS IS OF BULK AT MOST 1048576: true; the input reads as it did. -/
def scopeAllUptoRow : OpenClaim := { program := "ytfohbgcpdpnndaa", sum := "0e689e69494618201d703a35427ddadf31d20ded62d1175d8ff0815fc04714e9", func := "bracken/brackenlaw14.ScopeAll", spec := "scopeAll", unfollowed := true, recurses := true, apart := false, narrowed := true }
def ScopeAllUptoSaid : Prop := scopeAllUptoRow.holds Try.pinned (OpenSpec.upto scopeAllSpec)

/-- 'brackenlaw14.ScopePlays', WHERE WHAT IT READS IS OF BULK AT MOST 1048576: true; the input reads as it did. -/
def scopePlaysUptoRow : OpenClaim := { program := "ytfohbgcpdpnndaa", sum := "0e689e69494618201d703a35427ddadf31d20ded62d1175d8ff0815fc04714e9", func := "bracken/brackenlaw14.ScopePlays", spec := "scopePlays", unfollowed := true, recurses := true, apart := false, narrowed := true }
def ScopePlaysUptoSaid : Prop := scopePlaysUptoRow.holds Try.pinned (OpenSpec.upto scopePlaysSpec)

/-- 'brackenlaw14.ScopeLevels', WHERE WHAT IT READS IS OF BULK AT MOST 1048576: true; the input reads as it did. -/
def scopeLevelsUptoRow : OpenClaim := { program := "ytfohbgcpdpnndaa", sum := "0e689e69494618201d703a35427ddadf31d20ded62d1175d8ff0815fc04714e9", func := "bracken/brackenlaw14.ScopeLevels", spec := "scopeLevels", unfollowed := true, recurses := true, apart := false, narrowed := true }
def ScopeLevelsUptoSaid : Prop := scopeLevelsUptoRow.holds Try.pinned (OpenSpec.upto scopeLevelsSpec)

/-- 'brackenlaw14.ScopeRules', WHERE WHAT IT READS IS OF BULK AT MOST 1048576: true; the input reads as it did. -/
def scopeRulesUptoRow : OpenClaim := { program := "ytfohbgcpdpnndaa", sum := "0e689e69494618201d703a35427ddadf31d20ded62d1175d8ff0815fc04714e9", func := "bracken/brackenlaw14.ScopeRules", spec := "scopeRules", unfollowed := true, recurses := true, apart := false, narrowed := true }
def ScopeRulesUptoSaid : Prop := scopeRulesUptoRow.holds Try.pinned (OpenSpec.upto scopeRulesSpec)

/-- 'brackenlaw14.ScopeTwice', WHERE WHAT IT READS IS OF BULK AT MOST 1048576: true; the input reads as it did. -/
def scopeTwiceUptoRow : OpenClaim := { program := "ytfohbgcpdpnndaa", sum := "0e689e69494618201d703a35427ddadf31d20ded62d1175d8ff0815fc04714e9", func := "bracken/brackenlaw14.ScopeTwice", spec := "scopeTwice", unfollowed := true, recurses := true, apart := false, narrowed := true }
def ScopeTwiceUptoSaid : Prop := scopeTwiceUptoRow.holds Try.pinned (OpenSpec.upto scopeTwiceSpec)

end Rows
end Go.Proofs.Ytfohbgcpdpnndaa
