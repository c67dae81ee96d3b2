/- The walk of ScopeTwice. -/
import Derived.Test.YtfohbgcpdpnndaaScTw0
import Derived.Test.YtfohbgcpdpnndaaScTw1
import Derived.Test.YtfohbgcpdpnndaaScTw2
import Derived.Test.YtfohbgcpdpnndaaScTw3
import Derived.Test.YtfohbgcpdpnndaaScRules
namespace Go.Proofs.Ytfohbgcpdpnndaa.Sc
open Go.RowKit Go.Proofs.Ytfohbgcpdpnndaa.Ow
set_option linter.unusedVariables false

theorem twice_walk (p a b : Int) (w : World) (w0 : (Lit.int .i64 p).wf = true) (w1 : (Lit.int .i64 a).wf = true) (w2 : (Lit.int .i64 b).wf = true) : Calls Try.prog 7 #[.int .i64 p, .int .i64 a, .int .i64 b] w fun e w' => e = .returned (.bool true) ∧ Below w.heap.size w w' := by
  obtain ⟨i, hi, h1⟩ := rem_cases p 4 (by decide)
  obtain ⟨j, hj, h2⟩ := rem_cases a 3 (by decide)
  obtain ⟨k, hk, h3⟩ := rem_cases b 3 (by decide)
  match i, j, k, hi, hj, hk, h1, h2, h3 with
  | 0, 0, 0, _, _, _, h1, h2, h3 => exact twice_000 p a b w h1 h2 h3
  | 0, 0, 1, _, _, _, h1, h2, h3 => exact twice_001 p a b w h1 h2 h3
  | 0, 0, 2, _, _, _, h1, h2, h3 => exact twice_002 p a b w h1 h2 h3
  | 0, 1, 0, _, _, _, h1, h2, h3 => exact twice_010 p a b w h1 h2 h3
  | 0, 1, 1, _, _, _, h1, h2, h3 => exact twice_011 p a b w h1 h2 h3
  | 0, 1, 2, _, _, _, h1, h2, h3 => exact twice_012 p a b w h1 h2 h3
  | 0, 2, 0, _, _, _, h1, h2, h3 => exact twice_020 p a b w h1 h2 h3
  | 0, 2, 1, _, _, _, h1, h2, h3 => exact twice_021 p a b w h1 h2 h3
  | 0, 2, 2, _, _, _, h1, h2, h3 => exact twice_022 p a b w h1 h2 h3
  | 1, 0, 0, _, _, _, h1, h2, h3 => exact twice_100 p a b w h1 h2 h3
  | 1, 0, 1, _, _, _, h1, h2, h3 => exact twice_101 p a b w h1 h2 h3
  | 1, 0, 2, _, _, _, h1, h2, h3 => exact twice_102 p a b w h1 h2 h3
  | 1, 1, 0, _, _, _, h1, h2, h3 => exact twice_110 p a b w h1 h2 h3
  | 1, 1, 1, _, _, _, h1, h2, h3 => exact twice_111 p a b w h1 h2 h3
  | 1, 1, 2, _, _, _, h1, h2, h3 => exact twice_112 p a b w h1 h2 h3
  | 1, 2, 0, _, _, _, h1, h2, h3 => exact twice_120 p a b w h1 h2 h3
  | 1, 2, 1, _, _, _, h1, h2, h3 => exact twice_121 p a b w h1 h2 h3
  | 1, 2, 2, _, _, _, h1, h2, h3 => exact twice_122 p a b w h1 h2 h3
  | 2, 0, 0, _, _, _, h1, h2, h3 => exact twice_200 p a b w h1 h2 h3
  | 2, 0, 1, _, _, _, h1, h2, h3 => exact twice_201 p a b w h1 h2 h3
  | 2, 0, 2, _, _, _, h1, h2, h3 => exact twice_202 p a b w h1 h2 h3
  | 2, 1, 0, _, _, _, h1, h2, h3 => exact twice_210 p a b w h1 h2 h3
  | 2, 1, 1, _, _, _, h1, h2, h3 => exact twice_211 p a b w h1 h2 h3
  | 2, 1, 2, _, _, _, h1, h2, h3 => exact twice_212 p a b w h1 h2 h3
  | 2, 2, 0, _, _, _, h1, h2, h3 => exact twice_220 p a b w h1 h2 h3
  | 2, 2, 1, _, _, _, h1, h2, h3 => exact twice_221 p a b w h1 h2 h3
  | 2, 2, 2, _, _, _, h1, h2, h3 => exact twice_222 p a b w h1 h2 h3
  | 3, 0, 0, _, _, _, h1, h2, h3 => exact twice_300 p a b w h1 h2 h3
  | 3, 0, 1, _, _, _, h1, h2, h3 => exact twice_301 p a b w h1 h2 h3
  | 3, 0, 2, _, _, _, h1, h2, h3 => exact twice_302 p a b w h1 h2 h3
  | 3, 1, 0, _, _, _, h1, h2, h3 => exact twice_310 p a b w h1 h2 h3
  | 3, 1, 1, _, _, _, h1, h2, h3 => exact twice_311 p a b w h1 h2 h3
  | 3, 1, 2, _, _, _, h1, h2, h3 => exact twice_312 p a b w h1 h2 h3
  | 3, 2, 0, _, _, _, h1, h2, h3 => exact twice_320 p a b w h1 h2 h3
  | 3, 2, 1, _, _, _, h1, h2, h3 => exact twice_321 p a b w h1 h2 h3
  | 3, 2, 2, _, _, _, h1, h2, h3 => exact twice_322 p a b w h1 h2 h3
end Go.Proofs.Ytfohbgcpdpnndaa.Sc
