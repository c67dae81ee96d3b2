/- The plain law of ScopeAll. -/
import Derived.Test.YtfohbgcpdpnndaaScLv
namespace Go.Proofs.Ytfohbgcpdpnndaa.Sc
open Go.RowKit Go.Proofs.Ytfohbgcpdpnndaa.Ow Go.Sort
set_option linter.unusedVariables false
def sevenL : List Bs := [[], [112], [113], [97], [98], [114], [120, 109, 108]]
def sevenS : List Bs := [[], [97], [98], [112], [113], [114], [120, 109, 108]]
def UL (lv : List (List At)) (p : Bs) : ByteArray := (uriR lv ⟨p.toArray⟩).1
def full (lv : List (List At)) (p : Bs) : Bool := !((UL lv p).toList == [])
def mk (lv : List (List At)) (p : Bs) : At := if (p == []) = true then ⟨⟨#[]⟩, xmlnsS, nsS, UL lv p⟩ else ⟨xmlnsS, ⟨p.toArray⟩, nsS, UL lv p⟩
def Q (lv : List (List At)) : List Bs := (sortU ((names lv).map ByteArray.toList)).filter (full lv)
theorem flat_one (lv : List (List At)) : ∀ S : List Bs, S.flatMap (one lv) = (S.filter (full lv)).map (mk lv)
  | [] => rfl
  | p :: S => by
    rw [List.flatMap_cons, flat_one lv S]
    by_cases h : ((UL lv p).toList == []) = true
    · have e : one lv p = [] := by unfold one; exact if_pos h
      have f : full lv p = false := by unfold full; rw [h]; rfl
      rw [e, List.filter_cons, f]; rfl
    · have e : one lv p = [mk lv p] := by
        unfold one
        refine (if_neg h).trans ?_
        unfold mk
        split <;> rfl
      have f : full lv p = true := by unfold full; rw [Bool.eq_false_iff.2 h]; rfl
      rw [e, List.filter_cons, f]; rfl
theorem allU_map (lv : List (List At)) : allU lv = (Q lv).map (mk lv) := flat_one lv _
theorem Q_sorted (lv : List (List At)) : (Q lv).Pairwise Lt := (sortU_sorted _).sublist List.filter_sublist
theorem uri_full {lv : List (List At)} {p : ByteArray} (h : ((uriR lv p).1.toList == []) = false) : (uriR lv p).2 = true := by
  unfold uriR at h ⊢
  split
  · rfl
  · rename_i hu
    rw [hu] at h
    simp only at h ⊢
    split
    · rfl
    · rename_i hx
      rw [if_neg hx] at h
      have h' : ((⟨#[]⟩ : ByteArray).toList == []) = false := h
      exact absurd h' (by decide +kernel)
theorem decl_mk (lv : List (List At)) (p : Bs) : declR (mk lv p) = (⟨p.toArray⟩, true) := by
  have hns : (nsS.toList == nsL) = true := by decide +kernel
  have hx : (xmlnsS.toList == xmlnsL) = true := by decide +kernel
  unfold mk
  split
  · rename_i h
    obtain rfl : p = [] := by simpa using h
    unfold declR
    simp only
    rw [if_pos hns, if_neg (by decide +kernel)]
    have : ((⟨#[]⟩ : ByteArray).toList == []) = true := by decide +kernel
    rw [this, hx]; rfl
  · unfold declR
    simp only
    rw [if_pos hns, if_pos hx]
theorem vl_mk (lv : List (List At)) (p : Bs) : (mk lv p).vl = UL lv p := by unfold mk; split <;> rfl
theorem find_le {f : Bs → Bool} : ∀ (L : List Bs) (x : Bs), L.Pairwise Lt → x ∈ L → f x = true → ∃ q, q ∈ L ∧ L.find? f = some q ∧ q ≤ x
  | [], x, _, hx, _ => by simp at hx
  | y :: L, x, hp, hx, hf => by
    obtain ⟨h1, h2⟩ := List.pairwise_cons.1 hp
    cases hy : f y with
    | true =>
      refine ⟨y, by simp, by simp [List.find?, hy], ?_⟩
      rcases List.mem_cons.1 hx with rfl | hx
      · exact (List.le_total _ _).elim id id
      · exact (h1 x hx).1
    | false =>
      rcases List.mem_cons.1 hx with rfl | hx
      · rw [hf] at hy; cases hy
      · obtain ⟨q, q1, q2, q3⟩ := find_le L x h2 hx hf
        exact ⟨q, by simp [q1], by simp [List.find?, hy, q2], q3⟩
/-- Prefix tells no later name. -/
theorem prefix_le (lv : List (List At)) (p : Bs) (hp : p ∈ Q lv) (hne : (p == []) = false) : ∃ q : Bs, prefixU lv (UL lv p) = (⟨q.toArray⟩, true) ∧ q ≤ p := by
  have hf : full lv p = true := (List.mem_filter.1 hp).2
  have hx : (xmlnsS.toList == xmlnsL) = true := by decide +kernel
  have hx0 : ((⟨#[]⟩ : ByteArray).toList == xmlnsL) = false := by decide +kernel
  have hu : ¬ ((UL lv p).toList == []) = true := by intro h; unfold full at hf; rw [h] at hf; cases hf
  obtain ⟨q, q1, q2, q3⟩ := find_le (f := fun z => ((mk lv z).pf.toList == xmlnsL) && ((mk lv z).vl.toList == (UL lv p).toList)) (Q lv) p (Q_sorted lv) hp (by
    simp only [vl_mk]
    unfold mk
    rw [if_neg (by rw [hne]; decide)]
    simp)
  have hq : ((mk lv q).pf.toList == xmlnsL) = true := by
    have := List.find?_some q2
    simp only [Bool.and_eq_true] at this
    exact this.1
  have hlc : (mk lv q).lc = ⟨q.toArray⟩ := by
    unfold mk at hq ⊢
    by_cases h : (q == []) = true
    · rw [if_pos h] at hq; simp only at hq; rw [hx0] at hq; cases hq
    · rw [if_neg h]
  refine ⟨q, ?_, q3⟩
  unfold prefixU
  rw [if_neg hu, allU_map, List.find?_map]
  have e : ((fun a : At => (a.pf.toList == xmlnsL) && (a.vl.toList == (UL lv p).toList)) ∘ mk lv) = (fun z => ((mk lv z).pf.toList == xmlnsL) && ((mk lv z).vl.toList == (UL lv p).toList)) := rfl
  rw [e, q2]
  simp only [Option.map_some, hlc]
/-! ### the seven names -/
def Inv (lv : List (List At)) : Prop := ∀ l ∈ lv, ∀ a ∈ l, (declR a).1.toList ∈ sevenL
theorem up_some {p : ByteArray} : ∀ (lv : List (List At)) (acc : Option ByteArray) (v : ByteArray), lv.foldl (fun acc l => (find1 l p).or acc) acc = some v → acc = some v ∨ ∃ l ∈ lv, ∃ a ∈ l, (declR a).1.toList = p.toList
  | [], acc, v, h => .inl h
  | l :: lv, acc, v, h => by
    rcases up_some lv _ v h with h1 | ⟨l', hl, a, ha, he⟩
    · have h1 : (find1 l p).or acc = some v := h1
      cases hf : find1 l p with
      | none => rw [hf] at h1; exact .inl (by simpa using h1)
      | some x =>
        unfold find1 at hf
        obtain ⟨a, ha, _⟩ := Option.map_eq_some_iff.1 hf
        exact .inr ⟨l, by simp, a, List.mem_of_find?_eq_some ha, by simpa using List.find?_some ha⟩
    · exact .inr ⟨l', by simp [hl], a, ha, he⟩
theorem full_names {lv : List (List At)} {p : Bs} (h : full lv p = true) : p ∈ (names lv).map ByteArray.toList := by
  have hp : (⟨p.toArray⟩ : ByteArray).toList = p := by rw [ByteArray.toList_eq]
  unfold full UL at h
  unfold uriR at h
  cases hu : up lv ⟨p.toArray⟩ with
  | some v =>
    rcases up_some lv none v hu with h1 | ⟨l, hl, a, ha, he⟩
    · cases h1
    · rw [hp] at he
      refine List.mem_map.2 ⟨(declR a).1, ?_, he⟩
      unfold names
      refine List.mem_cons_of_mem _ (List.mem_flatMap.2 ⟨l, hl, List.mem_map.2 ⟨a, ha, rfl⟩⟩)
  | none =>
    rw [hu] at h
    simp only at h
    by_cases hx : ((⟨p.toArray⟩ : ByteArray).toList == xmlL) = true
    · rw [hp] at hx
      obtain rfl : p = xmlL := by simpa using hx
      exact List.mem_map.2 ⟨_, List.mem_cons_self, hp⟩
    · rw [if_neg hx] at h
      have h' : (!((⟨#[]⟩ : ByteArray).toList == [])) = true := h
      exact absurd h' (by decide +kernel)
theorem names_seven {lv : List (List At)} (hI : Inv lv) {p : Bs} (h : p ∈ (names lv).map ByteArray.toList) : p ∈ sevenL := by
  obtain ⟨n, hn, rfl⟩ := List.mem_map.1 h
  unfold names at hn
  rcases List.mem_cons.1 hn with rfl | hn
  · decide +kernel
  · obtain ⟨l, hl, hn⟩ := List.mem_flatMap.1 hn
    obtain ⟨a, ha, rfl⟩ := List.mem_map.1 hn
    exact hI l hl a ha
instance (x y : Bs) : Decidable (Lt x y) := inferInstanceAs (Decidable (_ ∧ _))
theorem count_eq {lv : List (List At)} (hI : Inv lv) : (sevenL.filter (full lv)).length = (Q lv).length := by
  have hperm : sevenL.Perm sevenS := by decide +kernel
  rw [(hperm.filter (full lv)).length_eq]
  congr 1
  refine sorted_unique _ _ ((by decide +kernel : sevenS.Pairwise Lt).sublist List.filter_sublist) (Q_sorted lv) fun z => ?_
  unfold Q
  rw [List.mem_filter, List.mem_filter, mem_sortU]
  exact ⟨fun h => ⟨full_names h.2, h.2⟩, fun h => ⟨hperm.mem_iff.1 (names_seven hI h.1), h.2⟩⟩
/-! ### what a push of declarations keeps -/
theorem pushG_mem : ∀ (l m m' : List At), pushG m l = some m' → ∀ a ∈ m', a ∈ m ∨ (a ∈ l ∧ (declR a).2 = true ∧ wrongR a = false)
  | [], m, m', h, a, ha => by simp [pushG] at h; subst h; exact .inl ha
  | b :: l, m, m', h, a, ha => by
    unfold pushG at h
    split at h
    · rename_i hd
      split at h
      · cases h
      · rename_i hw
        have hw' : wrongR b = false := by
          cases hb : wrongR b with
          | false => rfl
          | true => rw [hb] at hw; simp at hw
        rcases pushG_mem l _ _ h a ha with h1 | ⟨h1, h2⟩
        · rcases List.mem_append.1 h1 with h1 | h1
          · exact .inl h1
          · obtain rfl := List.mem_singleton.1 h1
            exact .inr ⟨by simp, hd, hw'⟩
        · exact .inr ⟨by simp [h1], h2⟩
    · rcases pushG_mem l _ _ h a ha with h1 | ⟨h1, h2⟩
      · exact .inl h1
      · exact .inr ⟨by simp [h1], h2⟩
def declX (i j : Nat) (b5 b11 : Bool) : At :=
  ⟨if b5 = true then ⟨#[]⟩ else xmlnsS, if b5 = true then xmlnsS else N9.getD i ⟨#[]⟩, if b11 = true then ⟨#[]⟩ else nsS, V11.getD j ⟨#[]⟩⟩
def declB (i j : Nat) (b5 b11 : Bool) : Bool := !(declR (declX i j b5 b11)).2 || wrongR (declX i j b5 b11) || sevenL.contains (declR (declX i j b5 b11)).1.toList
theorem decl_all : ((List.range 9).all fun i => (List.range 11).all fun j => [true, false].all fun b5 => [true, false].all fun b11 => declB i j b5 b11) = true := by decide +kernel
theorem decl_ok (i : Nat) (hi : i < 9) (j : Nat) (hj : j < 11) (b5 b11 : Bool) (h1 : (declR (declX i j b5 b11)).2 = true) (h2 : wrongR (declX i j b5 b11) = false) : (declR (declX i j b5 b11)).1.toList ∈ sevenL := by
  have h := decl_all
  have h := List.all_eq_true.1 h i (List.mem_range.2 hi)
  have h := List.all_eq_true.1 h j (List.mem_range.2 hj)
  have h := List.all_eq_true.1 h b5 (by cases b5 <;> simp)
  have h := List.all_eq_true.1 h b11 (by cases b11 <;> simp)
  unfold declB at h
  rw [h1, h2] at h
  simpa using h
theorem declZ_ok (z : Int) (h1 : (declR (declZ z)).2 = true) (h2 : wrongR (declZ z) = false) : (declR (declZ z)).1.toList ∈ sevenL :=
  decl_ok ((IntKind.u64.wrap z).toNat % 9) (Nat.mod_lt _ (by decide)) ((IntKind.u64.wrap z).toNat / 9 % 11) (Nat.mod_lt _ (by decide)) _ _ h1 h2
theorem Inv.push {lv : List (List At)} (h : Inv lv) (zs : List Int) : Inv (pushL lv (declsZ zs)) := by
  unfold pushL
  cases hp : pushG [] (declsZ zs) with
  | none => exact h
  | some m =>
    intro l hl a ha
    rcases List.mem_append.1 hl with hl | hl
    · exact h l hl a ha
    · obtain rfl := List.mem_singleton.1 hl
      rcases pushG_mem _ _ _ hp a ha with h1 | ⟨h1, h2, h3⟩
      · simp at h1
      · obtain ⟨z, _, rfl⟩ := List.mem_map.1 h1
        exact declZ_ok z h2 h3
end Go.Proofs.Ytfohbgcpdpnndaa.Sc
