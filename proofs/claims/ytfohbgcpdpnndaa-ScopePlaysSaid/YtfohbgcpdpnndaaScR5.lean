/- The plain law of ScopePlays: URI is the document's. -/
import Derived.Test.YtfohbgcpdpnndaaScR4
namespace Go.Proofs.Ytfohbgcpdpnndaa.Sc
open Go.RowKit Go.Proofs.Ytfohbgcpdpnndaa.Ow Go.Sort
set_option linter.unusedVariables false
/-- What every level holds: declarations that are not wrong. -/
def Inv2 (lv : List (List At)) : Prop := ∀ l ∈ lv, ∀ a ∈ l, (declR a).2 = true ∧ wrongR a = false
theorem up_val {p : ByteArray} : ∀ (lv : List (List At)) (acc : Option ByteArray) (v : ByteArray), lv.foldl (fun acc l => (find1 l p).or acc) acc = some v → acc = some v ∨ ∃ l ∈ lv, ∃ a ∈ l, (declR a).1.toList = p.toList ∧ a.vl = v
  | [], acc, v, h => .inl h
  | l :: lv, acc, v, h => by
    rcases up_val lv _ v h with h1 | ⟨l', hl, a, ha, he⟩
    · have h1 : (find1 l p).or acc = some v := h1
      cases hf : find1 l p with
      | none => rw [hf] at h1; exact .inl (by simpa using h1)
      | some x =>
        rw [hf] at h1
        obtain rfl : x = v := by simpa using h1
        unfold find1 at hf
        obtain ⟨a, ha, hv⟩ := Option.map_eq_some_iff.1 hf
        exact .inr ⟨l, by simp, a, List.mem_of_find?_eq_some ha, by simpa using List.find?_some ha, hv⟩
    · exact .inr ⟨l', by simp [hl], a, ha, he⟩
theorem xml_own {a : At} (h1 : (declR a).2 = true) (h2 : wrongR a = false) (h3 : (declR a).1.toList = xmlL) : a.vl.toList = xmlUL := by
  rcases decl_cases h1 with ⟨hE, hd⟩ | ⟨hE, hd⟩
  · rw [hd] at h3
    exact absurd h3 (by decide +kernel)
  · rw [hd] at h3
    unfold wrongR at h2
    rw [hE, h3] at h2
    simp only [Bool.false_eq_true, if_false] at h2
    split at h2
    · cases h2
    · simp at h2
      exact h2
theorem uri_ref {lv : List (List At)} (h : Inv2 lv) (p : ByteArray) : ruriR lv p = uriR lv p := by
  unfold ruriR uriR
  by_cases hx : (p.toList == xmlL) = true
  · rw [if_pos hx]
    cases hu : up lv p with
    | none => simp only [hx, if_true]
    | some v =>
      rcases up_val lv none v hu with h1 | ⟨l, hl, a, ha, he, hv⟩
      · cases h1
      · obtain ⟨q1, q2⟩ := h l hl a ha
        have hp : p.toList = xmlL := by simpa using hx
        have := xml_own q1 q2 (he.trans hp)
        rw [hv] at this
        have e : v = ⟨xmlUL.toArray⟩ := by
          rw [← this, ByteArray.toList_eq]
        rw [e]
  · rw [if_neg hx]
    cases hu : up lv p with
    | none => simp only [hx, if_false, Bool.false_eq_true]
    | some v => rfl
theorem Inv2.push {lv : List (List At)} (h : Inv2 lv) (l : List At) : Inv2 (pushL lv l) := by
  unfold pushL
  cases hp : pushG [] l with
  | none => exact h
  | some m =>
    intro l' hl a ha
    rcases List.mem_append.1 hl with hl | hl
    · exact h l' hl a ha
    · obtain rfl := List.mem_singleton.1 hl
      rcases pushG_mem _ _ _ hp a ha with h1 | ⟨_, h2, h3⟩
      · simp at h1
      · exact ⟨h2, h3⟩
end Go.Proofs.Ytfohbgcpdpnndaa.Sc
