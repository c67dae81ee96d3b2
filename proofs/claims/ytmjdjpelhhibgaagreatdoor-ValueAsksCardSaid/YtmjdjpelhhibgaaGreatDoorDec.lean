/- A character by its bytes: the reference's reading and the model's are one. Numbers alone. -/
import Derived.Lib.DecodeN
namespace Go.Proofs.YtmjdjpelhhibgaaGreatDoor.Ref
open Go
set_option linter.unusedVariables false
def refN (n b0 b1 b2 b3 : Nat) : Nat × Nat :=
  if b0 < 128 then (b0, 1)
  else if b0 < 192 then (0, 0)
  else if b0 < 224 then
    (if n < 2 then (0, 0) else if b1 / 64 = 2 then (if b0 % 32 * 64 + b1 % 64 < 128 ∨ b0 % 32 * 64 + b1 % 64 > 1114111 ∨ (55296 ≤ b0 % 32 * 64 + b1 % 64 ∧ b0 % 32 * 64 + b1 % 64 ≤ 57343) then (0, 0) else (b0 % 32 * 64 + b1 % 64, 2)) else (0, 0))
  else if b0 < 240 then
    (if n < 3 then (0, 0) else if b1 / 64 = 2 then (if b2 / 64 = 2 then (if (b0 % 16 * 64 + b1 % 64) * 64 + b2 % 64 < 2048 ∨ (b0 % 16 * 64 + b1 % 64) * 64 + b2 % 64 > 1114111 ∨ (55296 ≤ (b0 % 16 * 64 + b1 % 64) * 64 + b2 % 64 ∧ (b0 % 16 * 64 + b1 % 64) * 64 + b2 % 64 ≤ 57343) then (0, 0) else ((b0 % 16 * 64 + b1 % 64) * 64 + b2 % 64, 3)) else (0, 0)) else (0, 0))
  else if b0 < 248 then
    (if n < 4 then (0, 0) else if b1 / 64 = 2 then (if b2 / 64 = 2 then (if b3 / 64 = 2 then (if ((b0 % 8 * 64 + b1 % 64) * 64 + b2 % 64) * 64 + b3 % 64 < 65536 ∨ ((b0 % 8 * 64 + b1 % 64) * 64 + b2 % 64) * 64 + b3 % 64 > 1114111 ∨ (55296 ≤ ((b0 % 8 * 64 + b1 % 64) * 64 + b2 % 64) * 64 + b3 % 64 ∧ ((b0 % 8 * 64 + b1 % 64) * 64 + b2 % 64) * 64 + b3 % 64 ≤ 57343) then (0, 0) else (((b0 % 8 * 64 + b1 % 64) * 64 + b2 % 64) * 64 + b3 % 64, 4)) else (0, 0)) else (0, 0)) else (0, 0))
  else (0, 0)
set_option maxRecDepth 100000 in
set_option maxHeartbeats 4000000 in
theorem refN_eq (n b0 b1 b2 b3 : Nat) (hn : 1 ≤ n) (h0 : b0 < 256) (h1 : b1 < 256) (h2 : b2 < 256) (h3 : b3 < 256) :
    refN n b0 b1 b2 b3 = if (Lib.decodeN n b0 b1 b2 b3).1 = 65533 ∧ (Lib.decodeN n b0 b1 b2 b3).2 = 1 then (0, 0) else Lib.decodeN n b0 b1 b2 b3 := by
  obtain ⟨D, hD⟩ : ∃ D, Lib.decodeN n b0 b1 b2 b3 = D := ⟨_, rfl⟩
  rw [hD]
  unfold Lib.decodeN at hD
  unfold refN
  repeat' (split at hD)
  all_goals subst hD
  all_goals (repeat' split)
  all_goals first | rfl | (exfalso; omega) | (apply Prod.ext <;> simp only <;> omega) | (simp_all; done) | (simp_all; omega)

end Go.Proofs.YtmjdjpelhhibgaaGreatDoor.Ref
