/- The walk of ScopePlays, of all its arguments. -/
import Derived.Test.YtfohbgcpdpnndaaScPlays
namespace Go.Proofs.Ytfohbgcpdpnndaa.Sc
open Go.RowKit Go.Proofs.Ytfohbgcpdpnndaa.Ow
theorem plays_walk (A : Option Addr) (cap : Nat) (L : List (Int × List Int)) (n : Nat) (P0 U0 : ByteArray) (w : World) (hn : L.length = n) (hA : OpsAt w A L) (hl : n ≤ maxLen) (hP : P0.size ≤ 140737488351232) (hU : U0.size ≤ 140737488351232) :
    Calls Try.prog 4 #[.slice A n cap, .string P0, .string U0] w fun e w' => e = .returned (.bool true) ∧ Below w.heap.size w w' := by
  by_cases h : 25 < n ∨ 50 < P0.size ∨ 50 < U0.size
  · exact plays_off A n cap P0 U0 w h hl hP hU
  · exact plays_on A cap L n P0 U0 w hn hA (by omega) (by omega) (by omega)
end Go.Proofs.Ytfohbgcpdpnndaa.Sc
