/- The names that All tells, sorted and each once: in a form that the kernel can compute. -/
import Derived.Test.YtfohbgcpdpnndaaSc5
namespace Go.Proofs.Ytfohbgcpdpnndaa.Sc
open Go.Sort
set_option linter.unusedVariables false

abbrev Bs := List UInt8
def insU (x : Bs) : List Bs → List Bs
  | [] => [x]
  | y :: r => if x = y then y :: r else if x ≤ y then x :: y :: r else y :: insU x r
def sortU (l : List Bs) : List Bs := l.foldr insU []
def Lt (x y : Bs) : Prop := x ≤ y ∧ x ≠ y
theorem Lt.trans {x y z : Bs} (h : Lt x y) (h' : Lt y z) : Lt x z := ⟨List.le_trans h.1 h'.1, fun e => by subst e; exact h.2 (List.le_antisymm h.1 h'.1)⟩
theorem mem_insU (x z : Bs) : ∀ l : List Bs, z ∈ insU x l ↔ z = x ∨ z ∈ l
  | [] => by simp [insU]
  | y :: r => by
    unfold insU
    split
    · rename_i h; subst h; simp
    · split
      · simp
      · simp only [List.mem_cons, mem_insU x z r]
        constructor
        · rintro (h | h | h)
          · exact .inr (.inl h)
          · exact .inl h
          · exact .inr (.inr h)
        · rintro (h | h | h)
          · exact .inr (.inl h)
          · exact .inl h
          · exact .inr (.inr h)
theorem insU_sorted (x : Bs) : ∀ l : List Bs, l.Pairwise Lt → (insU x l).Pairwise Lt
  | [], _ => by simp [insU]
  | y :: r, h => by
    obtain ⟨h1, h2⟩ := List.pairwise_cons.1 h
    unfold insU
    split
    · exact h
    · rename_i hne
      split
      · rename_i hle
        refine List.pairwise_cons.2 ⟨fun z hz => ?_, h⟩
        rcases List.mem_cons.1 hz with rfl | hz
        · exact ⟨hle, hne⟩
        · exact Lt.trans ⟨hle, hne⟩ (h1 z hz)
      · rename_i hle
        refine List.pairwise_cons.2 ⟨fun z hz => ?_, insU_sorted x r h2⟩
        rcases (mem_insU x z r).1 hz with rfl | hz
        · exact ⟨(List.le_total z y).resolve_left hle, fun e => hne e.symm⟩
        · exact h1 z hz
theorem sortU_sorted : ∀ l : List Bs, (sortU l).Pairwise Lt
  | [] => by simp [sortU]
  | x :: l => insU_sorted x _ (sortU_sorted l)
theorem mem_sortU (z : Bs) : ∀ l : List Bs, z ∈ sortU l ↔ z ∈ l
  | [] => by simp [sortU]
  | x :: l => by
    show z ∈ insU x (sortU l) ↔ _
    rw [mem_insU, mem_sortU z l, List.mem_cons]
theorem sorted_unique : ∀ (a b : List Bs), a.Pairwise Lt → b.Pairwise Lt → (∀ z, z ∈ a ↔ z ∈ b) → a = b
  | [], [], _, _, _ => rfl
  | [], y :: b, _, _, h => by have := (h y).2 (by simp); simp at this
  | x :: a, [], _, _, h => by have := (h x).1 (by simp); simp at this
  | x :: a, y :: b, ha, hb, h => by
    obtain ⟨a1, a2⟩ := List.pairwise_cons.1 ha
    obtain ⟨b1, b2⟩ := List.pairwise_cons.1 hb
    have hxy : x = y := by
      rcases List.mem_cons.1 ((h x).1 (by simp)) with e | e
      · exact e
      · rcases List.mem_cons.1 ((h y).2 (by simp)) with e' | e'
        · exact e'.symm
        · exact List.le_antisymm (a1 y e').1 (b1 x e).1
    subst hxy
    congr 1
    refine sorted_unique a b a2 b2 fun z => ?_
    have hz := h z
    simp only [List.mem_cons] at hz
    constructor
    · intro hm
      rcases hz.1 (.inr hm) with e | e
      · exact absurd e.symm (a1 z hm).2
      · exact e
    · intro hm
      rcases hz.2 (.inr hm) with e | e
      · exact absurd e.symm (b1 z hm).2
      · exact e
theorem compactUpTo_spec (d : Array Bs) (hd : ∀ i j, i ≤ j → j < d.size → d[i]! ≤ d[j]!) : ∀ m, m ≤ d.size → (Lib.compactUpTo d m).Pairwise Lt ∧ ∀ z, z ∈ Lib.compactUpTo d m ↔ ∃ j, j < m ∧ z = d[j]!
  | 0, _ => by simp [Lib.compactUpTo]
  | m + 1, hm => by
    obtain ⟨h1, h2⟩ := compactUpTo_spec d hd m (by omega)
    rw [Lib.compactUpTo_succ]
    by_cases hk : Lib.keeps d m = true
    · rw [if_pos hk]
      have hk2 : m = 0 ∨ d[m]! ≠ d[m - 1]! := by simpa [Lib.keeps] using hk
      constructor
      · refine List.pairwise_append.2 ⟨h1, by simp, fun x hx y hy => ?_⟩
        obtain rfl := List.mem_singleton.1 hy
        obtain ⟨j, hj, rfl⟩ := (h2 x).1 hx
        rcases hk2 with h0 | hne
        · omega
        · have l1 := hd j (m - 1) (by omega) (by omega)
          have l2 := hd (m - 1) m (by omega) (by omega)
          refine ⟨List.le_trans l1 l2, fun e => hne ?_⟩
          exact List.le_antisymm (by rw [← e]; exact l1) l2
      · intro z
        rw [List.mem_append, h2, List.mem_singleton]
        constructor
        · rintro (⟨j, hj, rfl⟩ | rfl)
          · exact ⟨j, by omega, rfl⟩
          · exact ⟨m, by omega, rfl⟩
        · rintro ⟨j, hj, rfl⟩
          by_cases h : j = m
          · subst h; exact .inr rfl
          · exact .inl ⟨j, by omega, rfl⟩
    · rw [if_neg hk, List.append_nil]
      refine ⟨h1, fun z => ?_⟩
      have hk2 : m ≠ 0 ∧ d[m]! = d[m - 1]! := by simpa [Lib.keeps] using hk
      rw [h2]
      constructor
      · rintro ⟨j, hj, rfl⟩; exact ⟨j, by omega, rfl⟩
      · rintro ⟨j, hj, rfl⟩
        by_cases h : j = m
        · subst h; exact ⟨j - 1, by omega, hk2.2⟩
        · exact ⟨j, by omega, rfl⟩
theorem compact_sorted (l : List Bs) (h : l.Pairwise (· ≤ ·)) : (Lib.compact l).Pairwise Lt ∧ ∀ z, z ∈ Lib.compact l ↔ z ∈ l := by
  have hd : ∀ i j, i ≤ j → j < l.toArray.size → l.toArray[i]! ≤ l.toArray[j]! := by
    intro i j hij hj
    have hj' : j < l.length := by simpa using hj
    have hi' : i < l.length := by omega
    rw [getElem!_pos l.toArray i (by simpa using hi'), getElem!_pos l.toArray j hj]
    simp only [List.getElem_toArray]
    rcases Nat.lt_or_ge i j with h1 | h1
    · exact List.pairwise_iff_getElem.1 h i j hi' hj' h1
    · obtain rfl : i = j := by omega
      exact (List.le_total _ _).elim id id
  obtain ⟨h1, h2⟩ := compactUpTo_spec l.toArray hd l.length (by simp)
  refine ⟨h1, fun z => (h2 z).trans ⟨?_, fun hz => ?_⟩⟩
  · rintro ⟨j, hj, rfl⟩
    rw [getElem!_pos l.toArray j (by simpa using hj)]
    simp
  · obtain ⟨j, hj, rfl⟩ := List.getElem_of_mem hz
    exact ⟨j, hj, by rw [getElem!_pos l.toArray j (by simpa using hj)]; simp⟩
theorem compactN_eq (lv : List (List At)) : compactN lv = sortU ((names lv).map ByteArray.toList) := by
  have hs : (sortedN lv).Pairwise (· ≤ ·) := by
    have := List.pairwise_mergeSort (le := fun x y : Bs => decide (x ≤ y)) (fun a b c h1 h2 => by simp only [decide_eq_true_eq] at *; exact List.le_trans h1 h2) (fun a b => by simp only [Bool.or_eq_true, decide_eq_true_eq]; exact List.le_total a b) ((names lv).map ByteArray.toList)
    exact this.imp fun h => by simpa using h
  obtain ⟨h1, h2⟩ := compact_sorted _ hs
  refine sorted_unique _ _ h1 (sortU_sorted _) fun z => ?_
  rw [mem_sortU]
  exact (h2 z).trans (List.mergeSort_perm _ _).mem_iff
def allU (lv : List (List At)) : List At := (sortU ((names lv).map ByteArray.toList)).flatMap (one lv)
theorem allR_eq (lv : List (List At)) : allR lv = allU lv := by unfold allR allU; rw [compactN_eq]
end Go.Proofs.Ytfohbgcpdpnndaa.Sc
