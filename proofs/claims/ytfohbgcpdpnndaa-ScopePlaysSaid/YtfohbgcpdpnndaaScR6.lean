/- The plain law of ScopePlays: the names that the document's Bound puts in their order; what it tells is what All tells. -/
import Derived.Test.YtfohbgcpdpnndaaScR5
namespace Go.Proofs.Ytfohbgcpdpnndaa.Sc
open Go.RowKit Go.Proofs.Ytfohbgcpdpnndaa.Ow Go.Sort
set_option linter.unusedVariables false
theorem le_of_less : ∀ (x y : List UInt8), Go.Op.bytesLess x y = true → x ≤ y ∧ x ≠ y
  | [], [], h => by simp [Go.Op.bytesLess] at h
  | a :: x, [], h => by simp [Go.Op.bytesLess] at h
  | [], b :: y, _ => ⟨(fun h => by cases h), by simp⟩
  | a :: x, b :: y, h => by
    simp only [Go.Op.bytesLess, Bool.or_eq_true, decide_eq_true_eq, Bool.and_eq_true, beq_iff_eq] at h
    rcases h with h | ⟨rfl, h⟩
    · rw [UInt8.lt_iff_toNat_lt] at h
      refine ⟨fun hl => ?_, fun e => by cases e; omega⟩
      cases hl with
      | rel h' => rw [UInt8.lt_iff_toNat_lt] at h'; omega
      | cons h' => omega
    · obtain ⟨h1, h2⟩ := le_of_less x y h
      refine ⟨fun hl => ?_, fun e => by cases e; exact h2 rfl⟩
      cases hl with
      | rel h' => rw [UInt8.lt_iff_toNat_lt] at h'; omega
      | cons h' => exact h1 h'
def lss (x y : ByteArray) : Bool := Go.Op.bytesLess x.toList y.toList
theorem lss_lt {x y : ByteArray} (h : lss x y = true) : Lt x.toList y.toList := le_of_less _ _ h
theorem lt_of_not {x y : ByteArray} (h : lss x y = false) (hne : (x.toList == y.toList) = false) : Lt y.toList x.toList := by
  have hne' : x.toList ≠ y.toList := by simpa using hne
  refine ⟨?_, fun e => hne' e.symm⟩
  rcases List.le_total x.toList y.toList with h1 | h1
  · rcases less_of_le _ _ h1 with h2 | h2
    · rw [show Go.Op.bytesLess x.toList y.toList = false from h] at h2; cases h2
    · exact absurd h2 hne'
  · exact h1
/-- The place behind the last name that is less. -/
def atS (p : ByteArray) (s : Nat × Nat) (x : ByteArray) : Nat × Nat := (s.1 + 1, if lss x p = true then s.1 + 1 else s.2)
def atL (p : ByteArray) (l : List ByteArray) : Nat := (l.foldl (atS p) (0, 0)).2
theorem atL_fst (p : ByteArray) : ∀ (l : List ByteArray) (s : Nat × Nat), (l.foldl (atS p) s).1 = s.1 + l.length
  | [], s => rfl
  | x :: l, s => by rw [List.foldl_cons, atL_fst p l]; simp [atS]; omega
theorem atL_snoc (p : ByteArray) (l : List ByteArray) (x : ByteArray) : atL p (l ++ [x]) = if lss x p = true then l.length + 1 else atL p l := by
  unfold atL
  rw [List.foldl_append]
  simp only [List.foldl_cons, List.foldl_nil]
  have := atL_fst p l (0, 0)
  unfold atS at *
  simp only at this ⊢
  rw [this]; simp
def twL (p : ByteArray) (l : List ByteArray) : Bool := l.any fun x => x.toList == p.toList
theorem twL_snoc (p : ByteArray) (l : List ByteArray) (x : ByteArray) : twL p (l ++ [x]) = (twL p l || (x.toList == p.toList)) := by simp [twL]
def insB (l : List ByteArray) (p : ByteArray) : List ByteArray := if twL p l = true then l else l.take (atL p l) ++ [p] ++ l.drop (atL p l)
theorem snoc_ind {α : Type} {P : List α → Prop} (h0 : P []) (h1 : ∀ l x, P l → P (l ++ [x])) (l : List α) : P l := by
  have : ∀ r : List α, P r.reverse := fun r => by
    induction r with
    | nil => exact h0
    | cons a r ih => rw [List.reverse_cons]; exact h1 _ _ ih
  have h := this l.reverse
  rwa [List.reverse_reverse] at h
theorem atL_le (p : ByteArray) (l : List ByteArray) : atL p l ≤ l.length := by
  induction l using snoc_ind with
  | h0 => exact Nat.le_refl _
  | h1 l x ih => rw [atL_snoc, List.length_append]; simp only [List.length_singleton]; split <;> omega
def SortedB (l : List ByteArray) : Prop := l.Pairwise fun x y => Lt x.toList y.toList
theorem atL_spec (p : ByteArray) (l : List ByteArray) : SortedB l → twL p l = false → (∀ x ∈ l.take (atL p l), Lt x.toList p.toList) ∧ ∀ x ∈ l.drop (atL p l), Lt p.toList x.toList := by
  induction l using snoc_ind with
  | h0 => intro _ _; simp
  | h1 l x ih =>
    intro hs ht
    rw [twL_snoc, Bool.or_eq_false_iff] at ht
    obtain ⟨s1, s2, s3⟩ := List.pairwise_append.1 hs
    obtain ⟨i1, i2⟩ := ih s1 ht.1
    have hle := atL_le p l
    rw [atL_snoc]
    cases hx : lss x p with
    | true =>
      rw [if_pos rfl]
      have e : (l ++ [x]).length = l.length + 1 := by simp
      rw [← e, List.take_length, List.drop_length]
      refine ⟨fun y hy => ?_, fun y hy => by simp at hy⟩
      rcases List.mem_append.1 hy with hy | hy
      · exact (s3 y hy x (by simp)).trans (lss_lt hx)
      · obtain rfl := List.mem_singleton.1 hy
        exact lss_lt hx
    | false =>
      rw [if_neg (by decide), List.take_append_of_le_length hle, List.drop_append_of_le_length hle]
      refine ⟨i1, fun y hy => ?_⟩
      rcases List.mem_append.1 hy with hy | hy
      · exact i2 y hy
      · obtain rfl := List.mem_singleton.1 hy
        exact lt_of_not hx ht.2
theorem insB_sorted {l : List ByteArray} (h : SortedB l) (p : ByteArray) : SortedB (insB l p) := by
  unfold insB
  cases ht : twL p l with
  | true => rw [if_pos rfl]; exact h
  | false =>
    rw [if_neg (by decide)]
    obtain ⟨h1, h2⟩ := atL_spec p l h ht
    rw [List.append_assoc]
    refine List.pairwise_append.2 ⟨h.sublist (List.take_sublist _ _), List.pairwise_cons.2 ⟨h2, h.sublist (List.drop_sublist _ _)⟩, fun x hx y hy => ?_⟩
    rcases List.mem_cons.1 hy with rfl | hy
    · exact h1 x hx
    · exact (h1 x hx).trans (h2 y hy)
theorem mem_insB (l : List ByteArray) (p z : ByteArray) : z.toList ∈ (insB l p).map ByteArray.toList ↔ z.toList ∈ l.map ByteArray.toList ∨ z.toList = p.toList := by
  unfold insB
  cases ht : twL p l with
  | true =>
    rw [if_pos rfl]
    refine ⟨.inl, fun h => h.elim id fun e => ?_⟩
    unfold twL at ht
    obtain ⟨x, hx, he⟩ := List.any_eq_true.1 ht
    exact List.mem_map.2 ⟨x, hx, by rw [e]; simpa using he⟩
  | false =>
    rw [if_neg (by decide)]
    have hm : ∀ {y : List UInt8}, y ∈ l.map ByteArray.toList ↔ y ∈ (l.take (atL p l)).map ByteArray.toList ∨ y ∈ (l.drop (atL p l)).map ByteArray.toList := by
      intro y
      rw [← List.mem_append, ← List.map_append, List.take_append_drop]
    rw [List.map_append, List.map_append, List.mem_append, List.mem_append, hm]
    simp only [List.map_cons, List.map_nil, List.mem_singleton]
    constructor
    · rintro ((h | h) | h)
      · exact .inl (.inl h)
      · exact .inr h
      · exact .inl (.inr h)
    · rintro ((h | h) | h)
      · exact .inl (.inl h)
      · exact .inr h
      · exact .inl (.inr h)
theorem insB_len (l : List ByteArray) (p : ByteArray) : (insB l p).length ≤ l.length + 1 := by
  unfold insB
  split
  · omega
  · simp only [List.length_append, List.length_take, List.length_drop, List.length_singleton]; omega
theorem fold_sorted : ∀ (ps l : List ByteArray), SortedB l → SortedB (ps.foldl insB l)
  | [], l, h => h
  | p :: ps, l, h => fold_sorted ps _ (insB_sorted h p)
theorem fold_mem (z : ByteArray) : ∀ (ps l : List ByteArray), z.toList ∈ (ps.foldl insB l).map ByteArray.toList ↔ z.toList ∈ l.map ByteArray.toList ∨ z.toList ∈ ps.map ByteArray.toList
  | [], l => by simp
  | p :: ps, l => by
    rw [List.foldl_cons, fold_mem z ps, mem_insB, List.map_cons, List.mem_cons, or_assoc]
theorem fold_len : ∀ (ps l : List ByteArray), (ps.foldl insB l).length ≤ l.length + ps.length
  | [], l => by simp
  | p :: ps, l => by
    have h1 := fold_len ps (insB l p)
    have h2 := insB_len l p
    simp only [List.foldl_cons, List.length_cons]; omega
def rnames (lv : List (List At)) : List ByteArray := (lv.flatMap namesL).foldl insB [⟨xmlL.toArray⟩]
theorem rnames_eq (lv : List (List At)) : (rnames lv).map ByteArray.toList = sortU ((names lv).map ByteArray.toList) := by
  refine sorted_unique _ _ ?_ (sortU_sorted _) fun z => ?_
  · exact List.pairwise_map.2 (fold_sorted _ _ (List.pairwise_singleton _ _))
  · rw [mem_sortU]
    have hz : (⟨z.toArray⟩ : ByteArray).toList = z := by rw [ByteArray.toList_eq]
    have := fold_mem ⟨z.toArray⟩ (lv.flatMap namesL) [⟨xmlL.toArray⟩]
    rw [hz] at this
    unfold rnames names
    rw [this]
    simp
theorem rnames_len (lv : List (List At)) : (rnames lv).length ≤ countL lv + 1 := by
  have := fold_len (lv.flatMap namesL) [⟨xmlL.toArray⟩]
  have h2 := names_len lv
  unfold names at h2
  unfold rnames
  simp only [List.length_cons, List.length_nil] at this h2 ⊢
  omega
theorem rnames_take {lv : List (List At)} {q : Nat} {l : List At} (hq : q < lv.length) (hl : lv.getD q [] = l) : rnames (lv.take (q + 1)) = (namesL l).foldl insB (rnames (lv.take q)) := by
  unfold rnames
  rw [List.take_succ_eq_append_getElem hq, List.flatMap_append, List.foldl_append]
  simp [← hl, List.getD, hq]
def rone (lv : List (List At)) (P : ByteArray) : List At :=
  if ((ruriR lv P).1.toList == []) = true then [] else if (P.toList == []) = true then [⟨⟨#[]⟩, xmlnsS, nsS, (ruriR lv P).1⟩] else [⟨xmlnsS, P, nsS, (ruriR lv P).1⟩]
def rall (lv : List (List At)) : List At := (rnames lv).flatMap (rone lv)
theorem rone_len (lv : List (List At)) : ∀ ps : List ByteArray, (ps.flatMap (rone lv)).length ≤ ps.length
  | [] => by simp
  | p :: ps => by
    have h := rone_len lv ps
    rw [List.flatMap_cons, List.length_append, List.length_cons]
    have : (rone lv p).length ≤ 1 := by unfold rone; split; · simp
                                        split <;> simp
    omega
theorem rall_eq {lv : List (List At)} (h : Inv2 lv) : rall lv = allU lv := by
  unfold rall allU
  rw [← rnames_eq, List.flatMap_map]
  congr 1
  funext P
  have hP : (⟨P.toList.toArray⟩ : ByteArray) = P := by rw [ByteArray.toList_eq]
  unfold rone one
  rw [hP, uri_ref h]
theorem allU_len (lv : List (List At)) : (allU lv).length ≤ countL lv + 1 := by rw [← allR_eq]; exact allR_len lv
def rfind (u : ByteArray) (a : At) : Bool := !(a.pf.toList == []) && ((a.vl.toList == u.toList) && !(u.toList == []))
def rprefix (L : List At) (u : ByteArray) : ByteArray × Bool := match L.find? (rfind u) with
  | some a => (a.lc, true)
  | none => (⟨#[]⟩, false)
theorem rprefix_eq (lv : List (List At)) (u : ByteArray) : rprefix (allU lv) u = prefixU lv u := by
  unfold rprefix prefixU
  by_cases hu : (u.toList == []) = true
  · rw [if_pos hu]
    have : (allU lv).find? (rfind u) = none := by
      rw [List.find?_eq_none]
      intro a _
      unfold rfind; rw [hu]; simp
    rw [this]
  · rw [if_neg hu, allU_map]
    have hu' : (u.toList == []) = false := by simpa using hu
    have hx : (xmlnsS.toList == xmlnsL) = true := by decide +kernel
    have hy : (xmlnsS.toList == []) = false := by decide +kernel
    have hx0 : ((⟨#[]⟩ : ByteArray).toList == xmlnsL) = false := by decide +kernel
    have hy0 : ((⟨#[]⟩ : ByteArray).toList == []) = true := by decide +kernel
    have e : ∀ a ∈ (Q lv).map (mk lv), rfind u a = ((a.pf.toList == xmlnsL) && (a.vl.toList == u.toList)) := by
      intro a ha
      obtain ⟨p, _, rfl⟩ := List.mem_map.1 ha
      unfold rfind
      rw [hu']
      have : (!((mk lv p).pf.toList == [])) = ((mk lv p).pf.toList == xmlnsL) := by
        unfold mk
        split
        · simp only; rw [hx0, hy0]; rfl
        · simp only; rw [hx, hy]; rfl
      rw [this]; simp
    have e2 : ∀ (L : List At), (∀ a ∈ L, rfind u a = ((a.pf.toList == xmlnsL) && (a.vl.toList == u.toList))) → L.find? (rfind u) = L.find? (fun a => (a.pf.toList == xmlnsL) && (a.vl.toList == u.toList)) := by
      intro L
      induction L with
      | nil => intro _; rfl
      | cons a L ih =>
        intro h
        rw [List.find?_cons, List.find?_cons, h a (by simp), ih fun b hb => h b (by simp [hb])]
    rw [e2 _ e]
    rfl
end Go.Proofs.Ytfohbgcpdpnndaa.Sc
