/- The plain law of TokenTexts. -/
import Derived.Test.YtmjdjpelhhibgaaDoorKPTold
import Derived.Test.YtmjdjpelhhibgaaDoorR1x11
namespace Go.Proofs.YtmjdjpelhhibgaaDoor.TP
open Go Go.RowKit Go.Proofs.YtmjdjpelhhibgaaDoor.Giv Go.Proofs.YtmjdjpelhhibgaaDoor.Spec Go.Proofs.YtmjdjpelhhibgaaDoor.R1 Go.Proofs.YtmjdjpelhhibgaaDoorW.PrintWords Go.Proofs.YtmjdjpelhhibgaaDoorW.PrintLast
set_option linter.unusedVariables false
def restL (r : Nat) : List UInt8 := match r with | 0 => [] | 1 => [60, 98, 47, 62] | _ => [38, 108, 116, 59]
theorem noAny_of {l m : List UInt8} (h : ∀ b ∈ l, b ≠ 60 ∧ b ≠ 38) : Lib.NoAny (l ++ m) [60, 38] l.length := by
  intro j b hj hb
  rw [List.getElem?_append_left hj] at hb
  obtain ⟨h1, h2⟩ := h b (List.mem_of_getElem? hb)
  simp [h1, h2]
theorem any_rest (l : List UInt8) (r : Nat) (h : ∀ b ∈ l, b ≠ 60 ∧ b ≠ 38) : Lib.indexAny (l ++ restL r) [60, 38] = if l.length < (l ++ restL r).length then (l.length : Int) else -1 := by
  have hn := noAny_of (m := restL r) h
  match r with
  | 0 =>
    rw [if_neg (by simp [restL])]
    exact Lib.indexAny_none (by simpa [restL] using hn)
  | 1 =>
    rw [if_pos (by simp [restL])]
    exact Lib.indexAny_hit (x := 60) hn (by simp [restL]) (by decide)
  | r + 2 =>
    rw [if_pos (by simp [restL])]
    exact Lib.indexAny_hit (x := 38) hn (by simp [restL]) (by decide)
theorem oneL_plain (k : Nat) (c : UInt8) (t : List UInt8) (h1 : c ≠ 60) (h2 : c ≠ 38) : oneL k (c :: t) 0 = token_plain.f (str (c :: t)) ((0 : Nat) : Int) := by
  have hp : ∀ p, pre (60 :: p) (c :: t) = false := fun p => by
    unfold pre
    rw [List.isPrefixOf_cons_cons]
    have : ((60 : UInt8) == c) = false := by rw [beq_eq_false_iff_ne]; exact fun e => h1 e.symm
    rw [this]; rfl
  unfold oneL
  rw [List.drop_zero, hp, hp, hp, hp]
  simp only [Bool.false_eq_true, if_false]
  rw [if_neg h1, if_neg h2]
theorem next_texts (k : Nat) (l : List UInt8) (r : Nat) (h0 : 0 < l.length) (hl : l.length ≤ 60) (h : ∀ b ∈ l, b ≠ 60 ∧ b ≠ 38) :
    token_Next.f (k + 1) (str (l ++ restL r)) 0 = if Lib.contains l cd = true then some (0, ⟨#[]⟩, ⟨#[]⟩, [], false, 0, 2) else some (1, ⟨#[]⟩, str l, [], false, (l.length : Int), 0) := by
  have hrl : (restL r).length ≤ 4 := by match r with | 0 | 1 | r + 2 => simp [restL]
  have hz : (l ++ restL r).length = l.length + (restL r).length := by simp
  refine (next_f k _ 0 (by omega)).trans ?_
  obtain ⟨c, t, rfl⟩ : ∃ c t, l = c :: t := by
    cases l with
    | nil => simp at h0
    | cons c t => exact ⟨c, t, rfl⟩
  obtain ⟨h1, h2⟩ := h c (by simp)
  rw [List.cons_append, oneL_plain k c _ h1 h2, ← List.cons_append, plain_f _ 0 (by omega) (by omega) (c :: t).length (by simp) (by rw [List.drop_zero]; exact any_rest _ r h)]
  rw [List.drop_zero, List.take_left']
  · unfold nextL
    rw [Option.bind_some]
    obtain ⟨b, hb⟩ : ∃ b, Lib.contains (c :: t) cd = b := ⟨_, rfl⟩
    have hb2 : Lib.contains (c :: t) [93, 93, 62] = b := hb
    rw [hb, hb2]
    cases b
    · simp
    · simp
  · rfl
theorem texts_loop (l : List UInt8) (a1 : Int) (h0 : 0 < l.length) (hl : l.length ≤ 60) : ∀ (d k i : Nat), l.length - i = d → i ≤ l.length → d + 70 < k → (∀ j b, j < i → l[j]? = some b → b ≠ 60 ∧ b ≠ 38) →
    brackenlaw10_TokenTexts.l0 k (str l) a1 (occUpTo cd l i) (i : Int) = some true := by
  intro d
  induction d with
  | zero =>
    intro k i hd hi hk hno
    obtain rfl : i = l.length := by omega
    obtain ⟨k, rfl⟩ : ∃ m, k = m + 2 := ⟨k - 2, by omega⟩
    rw [brackenlaw10_TokenTexts.l0, if_neg (by rw [str_size]; omega), Option.bind_some]
    have hw : 0 ≤ IntKind.u64.wrap a1 := by unfold IntKind.wrap; simp [IntKind.bits, IntKind.signed]; omega
    obtain ⟨u, hu⟩ : ∃ u : Nat, IntKind.u64.wrap a1 = (u : Int) := ⟨(IntKind.u64.wrap a1).toNat, by omega⟩
    have hr : (IntKind.u64.wrap a1).tmod 3 = ((u % 3 : Nat) : Int) := by rw [hu]; rfl
    obtain ⟨r, hrr⟩ : ∃ r, u % 3 = r := ⟨_, rfl⟩
    have hr3 : r < 3 := by omega
    rw [hr, hrr, if_pos (by omega), if_pos (by simp; omega)]
    have hrd : rdOf ByteArray.empty ([(⟨#[]⟩ : ByteArray), (⟨#[60, 98, 47, 62]⟩ : ByteArray), (⟨#[38, 108, 116, 59]⟩ : ByteArray)] : List ByteArray) (r : Int) = str (restL r) := by
      match r, hr3 with
      | 0, _ | 1, _ | 2, _ => rfl
    have hall : ∀ b ∈ l, b ≠ 60 ∧ b ≠ 38 := fun b hb => by
      obtain ⟨j, hj, rfl⟩ := List.getElem_of_mem hb
      exact hno j _ hj (List.getElem?_eq_getElem hj)
    have hrl : (restL r).length ≤ 4 := by match r with | 0 | 1 | r + 2 => simp [restL]
    rw [hrd, if_pos (by rw [str_size, str_size]; omega), str_app, next_texts k l r h0 hl hall, contains_occ cd l (by decide)]
    have ht := told_k (k + 1) (by omega)
    cases occUpTo cd l l.length
    · simp [ht, str_size]
    · simp [ht]
  | succ d ih =>
    intro k i hd hi hk hno
    obtain ⟨k, rfl⟩ : ∃ m, k = m + 1 := ⟨k - 1, by omega⟩
    have hil : i < l.length := by omega
    have ht := told_k k (by omega)
    have e1 : wrap64 ((i : Int) + 1) = ((i + 1 : Nat) : Int) := by rw [w64 _ (by omega) (by omega)]; omega
    have e2 : wrap64 ((i : Int) + 2) = ((i + 2 : Nat) : Int) := by rw [w64 _ (by omega) (by omega)]; omega
    have e3 : wrap64 ((i : Int) + 3) = ((i + 3 : Nat) : Int) := by rw [w64 _ (by omega) (by omega)]; omega
    rw [brackenlaw10_TokenTexts.l0, if_pos (by rw [str_size]; omega), if_pos (by omega), bt_str l i hil, e1, e2, e3]
    by_cases c1 : l[i] = 60
    · rw [if_pos (by rw [c1]; rfl), ht]; rfl
    rw [if_neg (show ((l[i].toNat : Int)) ≠ 60 from u8_ne (n := 60) (by omega) c1)]
    by_cases c2 : l[i] = 38
    · rw [if_pos (by rw [c2]; rfl), ht]; rfl
    rw [if_neg (show ((l[i].toNat : Int)) ≠ 38 from u8_ne (n := 38) (by omega) c2)]
    have hno2 : ∀ j b, j < i + 1 → l[j]? = some b → b ≠ 60 ∧ b ≠ 38 := by
      intro j b hj hb
      by_cases e : j = i
      · subst e
        rw [List.getElem?_eq_getElem hil] at hb
        obtain rfl := Option.some.inj hb
        exact ⟨c1, c2⟩
      · exact hno j b (by omega) hb
    have IH := ih k (i + 1) (by omega) (by omega) (by omega) hno2
    have ho : occUpTo cd l (i + 1) = (occUpTo cd l i || pre cd (l.drop i)) := rfl
    cases hb : occUpTo cd l i with
    | true =>
      rw [if_pos rfl]
      rw [ho, hb] at IH
      exact IH
    | false =>
      rw [if_neg (by decide)]
      rw [ho, hb, Bool.false_or, pre_take] at IH
      by_cases c3 : i + 2 < l.length
      · rw [if_pos (by rw [str_size]; omega), if_pos (by omega), if_pos (by rw [str_size]; omega), Int.toNat_natCast, Int.toNat_natCast, str_ext, str_toList, show i + 3 - i = 3 by omega]
        exact IH
      · rw [if_neg (by rw [str_size]; omega)]
        have : ((l.drop i).take cd.length == cd) = false := by
          rw [beq_eq_false_iff_ne]
          intro e
          have := congrArg List.length e
          simp [cd] at this
          omega
        rw [this] at IH
        exact IH
theorem texts_pure : brackenlaw10_TokenTexts.Pure := by
  intro a0 a1 _ _
  refine ⟨200, ?_⟩
  unfold brackenlaw10_TokenTexts.f
  have ht := told_k 199 (by omega)
  obtain ⟨l, rfl⟩ : ∃ l, a0 = str l := ⟨_, of_str a0⟩
  by_cases h1 : ((str l).size : Int) > 60
  · rw [if_pos h1, brackenlaw10_TokenTexts.j0, if_pos rfl, ht]; rfl
  · rw [if_neg h1, brackenlaw10_TokenTexts.j0]
    by_cases h2 : ((str l).size : Int) < 1
    · rw [if_pos (decide_eq_true h2), ht]; rfl
    · rw [if_neg (by simpa using h2)]
      rw [str_size] at h1 h2
      exact texts_loop l a1 (by omega) (by omega) l.length 199 0 (by omega) (by omega) (by omega) (fun j b hj => by omega)
end Go.Proofs.YtmjdjpelhhibgaaDoor.TP
