/- The law's own look at a few texts; where a mark stands in a text. -/
import Derived.Test.YtmjdjpelhhibgaaDoorKP0
import Derived.Test.YtmjdjpelhhibgaaDoorR1x10
namespace Go.Proofs.YtmjdjpelhhibgaaDoor.TP
open Go Go.RowKit Go.Proofs.YtmjdjpelhhibgaaDoor.Giv Go.Proofs.YtmjdjpelhhibgaaDoor.Spec Go.Proofs.YtmjdjpelhhibgaaDoor.R1 Go.Proofs.YtmjdjpelhhibgaaDoorW.PrintWords Go.Proofs.YtmjdjpelhhibgaaDoorW.PrintLast
set_option linter.unusedVariables false
set_option maxRecDepth 100000 in
theorem told_60 : brackenlaw10_told.f 60 = some true := by decide +kernel
theorem told_k : ∀ k, 60 ≤ k → brackenlaw10_told.f k = some true := by
  intro k
  induction k with
  | zero => intro h; omega
  | succ k ih =>
    intro h
    by_cases e : k + 1 = 60
    · rw [e]; exact told_60
    · exact brackenlaw10_told.mono k true (ih (by omega))
def occUpTo (m l : List UInt8) : Nat → Bool
  | 0 => false
  | i + 1 => occUpTo m l i || pre m (l.drop i)
theorem occUpTo_iff (m l : List UInt8) : ∀ i, occUpTo m l i = true ↔ ∃ j, j < i ∧ Lib.occAt l m j = true
  | 0 => by simp [occUpTo]
  | i + 1 => by
    unfold occUpTo
    rw [Bool.or_eq_true, occUpTo_iff m l i]
    constructor
    · rintro (⟨j, h1, h2⟩ | h)
      · exact ⟨j, by omega, h2⟩
      · exact ⟨i, by omega, h⟩
    · rintro ⟨j, h1, h2⟩
      by_cases e : j = i
      · subst e; exact .inr h2
      · exact .inl ⟨j, by omega, h2⟩
theorem pre_len {m l : List UInt8} (h : pre m l = true) : m.length ≤ l.length := (List.isPrefixOf_iff_prefix.1 h).length_le
theorem contains_occ (m l : List UInt8) (hm : 0 < m.length) : Lib.contains l m = occUpTo m l l.length := by
  rw [Bool.eq_iff_iff, occUpTo_iff]
  unfold Lib.contains
  rw [decide_eq_true_eq]
  rcases Lib.index_spec l m with ⟨h1, h2⟩ | ⟨i, h1, h2, h3, _⟩
  · rw [h1]
    constructor
    · intro h; omega
    · rintro ⟨j, h4, h5⟩
      rw [h2 j (by omega)] at h5; cases h5
  · rw [h1]
    constructor
    · intro _
      refine ⟨i, ?_, h3⟩
      have := pre_len h3
      simp at this
      omega
    · intro _; omega
theorem pre_take (m l : List UInt8) : pre m l = ((l.take m.length) == m) := by
  rw [Bool.eq_iff_iff, beq_iff_eq]
  unfold pre
  rw [List.isPrefixOf_iff_prefix]
  constructor
  · intro h; exact (List.prefix_iff_eq_take.1 h).symm
  · intro h; exact List.prefix_iff_eq_take.2 h.symm
def cd : List UInt8 := [93, 93, 62]
theorem u8_ne {c : UInt8} {n : Nat} (hn : n < 256) (h : c ≠ UInt8.ofNat n) : (c.toNat : Int) ≠ (n : Int) := by
  intro e
  apply h
  rw [← UInt8.toNat_inj, UInt8.toNat_ofNat']
  omega
end Go.Proofs.YtmjdjpelhhibgaaDoor.TP
