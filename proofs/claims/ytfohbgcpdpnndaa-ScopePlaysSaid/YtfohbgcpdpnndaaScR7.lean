/- Both states side by side: what a step of the one keeps of the other. -/
import Derived.Test.YtfohbgcpdpnndaaScR6
namespace Go.Proofs.Ytfohbgcpdpnndaa.Sc
open Go.RowKit Go.Proofs.Ytfohbgcpdpnndaa.Ow Go.Sort
set_option linter.unusedVariables false
theorem box1 {w : World} {q : Nat} {v : Value} {T : TypeId} (h : w.heap[q]? = some (.cells #[v] T (0, 0))) : w.ownsRow 0 T 1 (.slice (some ⟨q, 0, none⟩) 1 1) 1 [v] :=
  ⟨rfl, .inr ⟨q, 1, _, rfl, Nat.zero_le _, h, Nat.le_refl 1, by decide, rfl, rfl⟩⟩
theorem of_box1 {w : World} {q : Nat} {v : Value} {T : TypeId} (h : w.ownsRow 0 T 1 (.slice (some ⟨q, 0, none⟩) 1 1) 1 [v]) : w.heap[q]? = some (.cells #[v] T (0, 0)) := by
  rcases h.2 with ⟨h, _⟩ | ⟨g, cap, cur, hx, _, hg, _, _, hs, ht⟩
  · cases h
  · simp only [Value.slice.injEq, Option.some.injEq, Addr.mk.injEq, and_true] at hx
    obtain ⟨rfl, _, rfl⟩ := hx
    have e : cur.toList = [v] := by rw [← ht, List.take_of_length_le (by simp [hs])]
    have e2 : cur = #[v] := by rw [← Array.toList_inj, e]
    rw [hg, e2]
def KeepsR (w w' : World) : Prop := w.heap.size ≤ w'.heap.size ∧ ∀ B T s x n xs, T ≠ 43 → T ≠ 26 → w.ownsRow B T s x n xs → w'.ownsRow B T s x n xs
theorem KeepsR.of_below {w w' : World} (h : Below w.heap.size w w') : KeepsR w w' := ⟨h.size, fun _ _ _ _ _ _ _ _ ho => own_kept_below ho h⟩
theorem IsRef.keeps {w w' : World} {q : Nat} {v : Value} {lv : List (List At)} (h : IsRef w q v lv) (hk : Keeps w w') : IsRef w' q v lv := by
  obtain ⟨hc, ss, h1, h2, h3⟩ := h
  exact ⟨of_box1 (hk.2 _ _ _ _ _ _ (by decide) (by decide) (box1 hc)), ss, h1, hk.2 _ _ _ _ _ _ (by decide) (by decide) h2, fun i hi => hk.2 _ _ _ _ _ _ (by decide) (by decide) (h3 i hi)⟩
theorem IsScope.keepsR {w w' : World} {p : Nat} {v : Value} {lv : List (List At)} (h : IsScope w p v lv) (hk : KeepsR w w') : IsScope w' p v lv := by
  obtain ⟨hc, ss, h1, h2, h3⟩ := h
  exact ⟨of_box1 (hk.2 _ _ _ _ _ _ (by decide) (by decide) (box1 hc)), ss, h1, hk.2 _ _ _ _ _ _ (by decide) (by decide) h2, fun i hi => hk.2 _ _ _ _ _ _ (by decide) (by decide) (h3 i hi)⟩
/-- The state of the document's Scope that was made since the world w0. -/
def RS (w0 w : World) (q : Nat) (lv : List (List At)) : Prop :=
  ∃ v, IsRef w q v lv ∧ Below w0.heap.size w0 w ∧ w0.heap.size ≤ q ∧ ∀ k, v.ownBlock = some k → w0.heap.size ≤ k
theorem RS.bel {w0 w : World} {q : Nat} {lv : List (List At)} (h : RS w0 w q lv) : Below w0.heap.size w0 w := by obtain ⟨_, _, h, _⟩ := h; exact h
theorem RS.below {w0 w w' : World} {q : Nat} {lv : List (List At)} (h : RS w0 w q lv) (hb : Below w.heap.size w w') : RS w0 w' q lv := by
  obtain ⟨v, h1, h2, h3, h4⟩ := h
  exact ⟨v, h1.below hb, h2.trans (hb.mono h2.size), h3, h4⟩
theorem RS.alloc {w0 w : World} {q : Nat} {lv : List (List At)} (h : RS w0 w q lv) (o : Obj) : RS w0 (w.alloc o) q lv := h.below ((Below.refl _ _).alloc (Nat.le_refl _) _)
theorem RS.keeps {w0 w w' : World} {q : Nat} {lv : List (List At)} (h : RS w0 w q lv) (hk : Keeps w w') (hb : Below w0.heap.size w0 w') : RS w0 w' q lv := by
  obtain ⟨v, h1, h2, h3, h4⟩ := h
  exact ⟨v, h1.keeps hk, hb, h3, h4⟩
theorem SS.keepsR {w0 w w' : World} {p : Nat} {lv : List (List At)} (h : SS w0 w p lv) (hk : KeepsR w w') (hb : Below w0.heap.size w0 w') : SS w0 w' p lv := by
  obtain ⟨v, h1, h2, h3, h4⟩ := h
  exact ⟨v, h1.keepsR hk, hb, h3, h4⟩
theorem RS.turned {w0 w w' : World} {q : Nat} {v v' : Value} {lv lv' : List (List At)} (h : IsRef w q v lv) (h1 : Below w0.heap.size w0 w) (h2 : w0.heap.size ≤ q) (h3 : ∀ k, v.ownBlock = some k → w0.heap.size ≤ k) (hI : IsRef w' q v' lv') (hT : Turned q v v' w w') : RS w0 w' q lv' ∧ KeepsR w w' := by
  refine ⟨⟨v', hI, h1.trans (hT.below h1.size h2 h3), h2, fun k hk => by rcases hT.own k hk with h | h; exact h3 k h; exact Nat.le_trans h1.size h⟩, hT.size, fun B T s x n xs t1 t2 ho => ?_⟩
  obtain ⟨ss, q1, q2, _⟩ := h.lev
  refine ⟨ho.1, ?_⟩
  rcases ho.2 with h4 | ⟨g, cap, cur, hx, hB, hg, h5⟩
  · exact .inl h4
  · refine .inr ⟨g, cap, cur, hx, hB, ?_, h5⟩
    rw [hT.block g (Array.getElem?_eq_some_iff.1 hg).1 (fun e => ?_) (fun e => ?_)]
    · exact hg
    · rw [e, h.cells] at hg
      simp at hg
      exact t1 hg.2.symm
    · exact own_ne q2 hg t2 e.symm
theorem RS.push {w0 w : World} {p : Nat} {lv : List (List At)} (h : RS w0 w p lv) (A : Option Addr) (cap : Nat) (l : List At) (hA : CellsAt w A l) (n : Nat) (hn : l.length = n) (hl : n ≤ 1000) (hlv : lv.length ≤ 1000) (c : Int) (lv' : List (List At)) (hc : pushC l = c) (hlv' : pushL lv l = lv') :
    Calls Try.prog 16 #[.pointer (some ⟨p, 0, none⟩), .slice A n cap] w fun e w' => e = .returned (.int .i64 c) ∧ RS w0 w' p lv' ∧ KeepsR w w' := by
  subst hn
  have hh := h
  obtain ⟨v, h1, h2, h3, h4⟩ := h
  refine (rpush_any p v lv A cap l w h1 hA (by omega) (by omega)).mono ?_
  rintro e w' (⟨hR, rfl, hB⟩ | ⟨m, v', hR, rfl, hI, hT⟩)
  · have e1 : c = 2 := by rw [← hc]; unfold pushC; rw [hR]
    have e2 : lv' = lv := by rw [← hlv']; unfold pushL; rw [hR]
    subst e1; subst e2
    exact ⟨rfl, hh.below hB, KeepsR.of_below hB⟩
  · have e1 : c = 0 := by rw [← hc]; unfold pushC; rw [hR]
    have e2 : lv' = lv ++ [m] := by rw [← hlv']; unfold pushL; rw [hR]
    subst e1; subst e2
    exact ⟨rfl, RS.turned h1 h2 h3 h4 hI hT⟩
theorem RS.pop {w0 w : World} {p : Nat} {lv : List (List At)} (h : RS w0 w p lv) (hlv : lv.length ≤ 1000) (b : Bool) (lv' : List (List At)) (hb : popC lv = b) (hlv' : lv.dropLast = lv') :
    Calls Try.prog 18 #[.pointer (some ⟨p, 0, none⟩)] w fun e w' => e = .returned (.bool b) ∧ RS w0 w' p lv' ∧ KeepsR w w' := by
  have hh := h
  obtain ⟨v, h1, h2, h3, h4⟩ := h
  subst hb; subst hlv'
  rcases List.eq_nil_or_concat lv with rfl | ⟨ys, z, he⟩
  · refine (rpop_no p v w h1).mono ?_
    rintro e w' ⟨rfl, rfl⟩
    exact ⟨rfl, hh, KeepsR.of_below (Below.refl _ _)⟩
  · obtain rfl : lv = ys ++ [z] := by simpa using he
    refine (rpop_yes p v ys z w h1 (by simp at hlv; omega)).mono ?_
    rintro e w' ⟨rfl, v', hI, hT⟩
    refine ⟨by simp [popC], ?_⟩
    rw [List.dropLast_concat]
    exact RS.turned h1 h2 h3 h4 hI hT
theorem RS.uri {w0 w : World} {p : Nat} {lv : List (List At)} (h : RS w0 w p lv) (hI : Inv2 lv) (pre : ByteArray) (hlv : lv.length ≤ 1000) (hc : countL lv ≤ 100000) (a : ByteArray) (b : Bool) (hr : uriR lv pre = (a, b)) :
    Calls Try.prog 19 #[.pointer (some ⟨p, 0, none⟩), .string pre] w fun e w' => e = .returned (.tuple #[.string a, .bool b]) ∧ Below w.heap.size w w' := by
  obtain ⟨v, h1, h2, h3, h4⟩ := h
  refine (ruri_any p v lv pre w h1 (by omega) (fun l hl => by have := count_mem hl; omega)).mono ?_
  rw [uri_ref hI, hr]
  exact fun e w' h => h
theorem Inv2.pop {lv : List (List At)} (h : Inv2 lv) : Inv2 lv.dropLast := fun l hl => h l (List.dropLast_subset lv hl)
end Go.Proofs.Ytfohbgcpdpnndaa.Sc
