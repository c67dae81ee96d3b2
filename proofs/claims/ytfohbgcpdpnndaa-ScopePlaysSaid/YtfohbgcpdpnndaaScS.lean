/- The steps of a Scope that a law holds. -/
import Derived.Test.YtfohbgcpdpnndaaSc6
import Derived.Test.YtfohbgcpdpnndaaScN
namespace Go.Proofs.Ytfohbgcpdpnndaa.Sc
open Go.RowKit Go.Proofs.Ytfohbgcpdpnndaa.Ow
set_option linter.unusedVariables false

instance : DecidableEq At := fun a b => decidable_of_iff (a.pf = b.pf ∧ a.lc = b.lc ∧ a.ur = b.ur ∧ a.vl = b.vl) (by cases a; cases b; simp)
/-- The state of a Scope that was made since the world w0; its levels and declarations are few. -/
def SS (w0 w : World) (p : Nat) (lv : List (List At)) : Prop :=
  ∃ v, IsScope w p v lv ∧ Below w0.heap.size w0 w ∧ w0.heap.size ≤ p ∧ ∀ k, v.ownBlock = some k → w0.heap.size ≤ k
/-- What a step keeps of other rows. -/
def Keeps (w w' : World) : Prop := w.heap.size ≤ w'.heap.size ∧ ∀ B T s x n xs, T ≠ 53 → T ≠ 20 → w.ownsRow B T s x n xs → w'.ownsRow B T s x n xs
theorem Keeps.of_below {w w' : World} (h : Below w.heap.size w w') : Keeps w w' := ⟨h.size, fun _ _ _ _ _ _ _ _ ho => own_kept_below ho h⟩
theorem Keeps.trans {a b c : World} (h : Keeps a b) (h' : Keeps b c) : Keeps a c := ⟨Nat.le_trans h.1 h'.1, fun B T s x n xs h1 h2 ho => h'.2 B T s x n xs h1 h2 (h.2 B T s x n xs h1 h2 ho)⟩
theorem SS.bel {w0 w : World} {p : Nat} {lv : List (List At)} (h : SS w0 w p lv) : Below w0.heap.size w0 w := by obtain ⟨_, _, h, _⟩ := h; exact h
theorem SS.below {w0 w w' : World} {p : Nat} {lv : List (List At)} (h : SS w0 w p lv) (hb : Below w.heap.size w w') : SS w0 w' p lv := by
  obtain ⟨v, h1, h2, h3, h4⟩ := h
  exact ⟨v, h1.below hb, h2.trans (hb.mono h2.size), h3, h4⟩
theorem SS.turned {w0 w w' : World} {p : Nat} {v v' : Value} {lv lv' : List (List At)} (h : IsScope w p v lv) (h1 : Below w0.heap.size w0 w) (h2 : w0.heap.size ≤ p) (h3 : ∀ k, v.ownBlock = some k → w0.heap.size ≤ k) (hI : IsScope w' p v' lv') (hT : Turned p v v' w w') : SS w0 w' p lv' ∧ Keeps w w' := by
  refine ⟨⟨v', hI, h1.trans (hT.below h1.size h2 h3), h2, fun k hk => by rcases hT.own k hk with h | h; exact h3 k h; exact Nat.le_trans h1.size h⟩, hT.size, fun B T s x n xs t1 t2 ho => ?_⟩
  obtain ⟨ss, q1, q2, _⟩ := h.lev
  refine ⟨ho.1, ?_⟩
  rcases ho.2 with h4 | ⟨g, cap, cur, hx, hB, hg, h5⟩
  · exact .inl h4
  · refine .inr ⟨g, cap, cur, hx, hB, ?_, h5⟩
    rw [hT.block g (Array.getElem?_eq_some_iff.1 hg).1 (fun e => ?_) (fun e => ?_)]
    · exact hg
    · rw [e, h.cells] at hg
      simp at hg
      exact t1 hg.2.symm
    · exact own_ne q2 hg t2 e.symm
theorem SS.new (w : World) : Calls Try.prog 8 #[] w fun e w' => ∃ p, e = .returned (.pointer (some ⟨p, 0, none⟩)) ∧ SS w w' p [] := by
  refine (new_any w).mono ?_
  rintro e w' ⟨rfl, h1, h2⟩
  exact ⟨_, rfl, _, h1, h2, Nat.le_refl _, fun k hk => by cases hk⟩
def pushC (l : List At) : Int := match pushG [] l with | some _ => 0 | none => 2
def pushL (lv : List (List At)) (l : List At) : List (List At) := match pushG [] l with | some m => lv ++ [m] | none => lv
theorem SS.push {w0 w : World} {p : Nat} {lv : List (List At)} (h : SS w0 w p lv) (A : Option Addr) (cap : Nat) (l : List At) (hA : CellsAt w A l) (n : Nat) (hn : l.length = n) (hl : n ≤ 1000) (hlv : lv.length ≤ 1000) (c : Int) (lv' : List (List At)) (hc : pushC l = c) (hlv' : pushL lv l = lv') :
    Calls Try.prog 9 #[.pointer (some ⟨p, 0, none⟩), .slice A n cap] w fun e w' => e = .returned (.int .i64 c) ∧ SS w0 w' p lv' ∧ Keeps w w' := by
  subst hn
  have hh := h
  obtain ⟨v, h1, h2, h3, h4⟩ := h
  refine (push_any p v lv A cap l w h1 hA (by omega) (by omega)).mono ?_
  rintro e w' (⟨hR, rfl, hB⟩ | ⟨m, v', hR, rfl, hI, hT⟩)
  · have e1 : c = 2 := by rw [← hc]; unfold pushC; rw [hR]
    have e2 : lv' = lv := by rw [← hlv']; unfold pushL; rw [hR]
    subst e1; subst e2
    exact ⟨rfl, hh.below hB, Keeps.of_below hB⟩
  · have e1 : c = 0 := by rw [← hc]; unfold pushC; rw [hR]
    have e2 : lv' = lv ++ [m] := by rw [← hlv']; unfold pushL; rw [hR]
    subst e1; subst e2
    exact ⟨rfl, SS.turned h1 h2 h3 h4 hI hT⟩
def popC (lv : List (List At)) : Bool := !lv.isEmpty
theorem SS.pop {w0 w : World} {p : Nat} {lv : List (List At)} (h : SS w0 w p lv) (hlv : lv.length ≤ 1000) (b : Bool) (lv' : List (List At)) (hb : popC lv = b) (hlv' : lv.dropLast = lv') :
    Calls Try.prog 17 #[.pointer (some ⟨p, 0, none⟩)] w fun e w' => e = .returned (.bool b) ∧ SS w0 w' p lv' ∧ Keeps w w' := by
  have hh := h
  obtain ⟨v, h1, h2, h3, h4⟩ := h
  subst hb; subst hlv'
  rcases List.eq_nil_or_concat lv with rfl | ⟨ys, z, he⟩
  · refine (pop_no p v w h1).mono ?_
    rintro e w' ⟨rfl, rfl⟩
    exact ⟨rfl, hh, Keeps.of_below (Below.refl _ _)⟩
  · obtain rfl : lv = ys ++ [z] := by simpa using he
    refine (pop_yes p v ys z w h1 (by simp at hlv; omega)).mono ?_
    rintro e w' ⟨rfl, v', hI, hT⟩
    refine ⟨by simp [popC], ?_⟩
    rw [List.dropLast_concat]
    exact SS.turned h1 h2 h3 h4 hI hT
theorem SS.uri {w0 w : World} {p : Nat} {lv : List (List At)} (h : SS w0 w p lv) (pre : ByteArray) (hlv : lv.length ≤ 1000) (hc : countL lv ≤ 100000) (a : ByteArray) (b : Bool) (hr : uriR lv pre = (a, b)) :
    Calls Try.prog 13 #[.pointer (some ⟨p, 0, none⟩), .string pre] w fun e w' => e = .returned (.tuple #[.string a, .bool b]) ∧ Below w.heap.size w w' := by
  obtain ⟨v, h1, h2, h3, h4⟩ := h
  refine (uri_any p v lv pre w h1 (by omega) (fun l hl => by have := count_mem hl; omega)).mono ?_
  rw [hr]
  exact fun e w' h => h
def prefixU (lv : List (List At)) (u : ByteArray) : ByteArray × Bool :=
  if (u.toList == []) = true then (⟨#[]⟩, false) else match (allU lv).find? (fun a => (a.pf.toList == xmlnsL) && (a.vl.toList == u.toList)) with
  | some a => (a.lc, true)
  | none => (⟨#[]⟩, false)
theorem prefix_eq (lv : List (List At)) (u : ByteArray) : prefixR lv u = prefixU lv u := by unfold prefixR prefixU; rw [allR_eq]; rfl
theorem SS.prefixes {w0 w : World} {p : Nat} {lv : List (List At)} (h : SS w0 w p lv) (u : ByteArray) (hlv : lv.length ≤ 1000) (hc : countL lv ≤ 100000) (a : ByteArray) (b : Bool) (hr : prefixU lv u = (a, b)) :
    Calls Try.prog 14 #[.pointer (some ⟨p, 0, none⟩), .string u] w fun e w' => e = .returned (.tuple #[.string a, .bool b]) ∧ Below w.heap.size w w' := by
  obtain ⟨v, h1, h2, h3, h4⟩ := h
  rw [← prefix_eq] at hr
  refine (prefix_any p v lv u w h1 (by omega) (by omega)).mono ?_
  rw [hr]
  exact fun e w' h => h
theorem SS.all {w0 w : World} {p : Nat} {lv : List (List At)} (h : SS w0 w p lv) (hlv : lv.length ≤ 1000) (hc : countL lv ≤ 100000) (L : List At) (hr : allU lv = L) :
    Calls Try.prog 11 #[.pointer (some ⟨p, 0, none⟩)] w fun e w' => ∃ A cap, e = .returned (.slice A L.length cap) ∧ w'.ownsRow w.heap.size 35 4 (.slice A L.length cap) L.length (cellsA L) ∧ Below w.heap.size w w' := by
  obtain ⟨v, h1, h2, h3, h4⟩ := h
  rw [← allR_eq] at hr
  subst hr
  refine (all_any p v lv w h1 (by omega) (by omega)).mono ?_
  rintro e w' ⟨s, rfl, hown, hB⟩
  obtain ⟨A, cap, rfl, hC, _⟩ := cellsAt_of_own hown rfl
  exact ⟨A, cap, rfl, hown, hB⟩
theorem SS.depth {w0 w : World} {p : Nat} {lv : List (List At)} (h : SS w0 w p lv) :
    Calls Try.prog 21 #[.pointer (some ⟨p, 0, none⟩)] w fun e w' => e = .returned (.int .i64 lv.length) ∧ w = w' := by
  obtain ⟨v, h1, h2, h3, h4⟩ := h
  exact depth_any p v lv w h1
theorem cellsAt_block {w : World} {b : Nat} {T : TypeId} {fz : Nat × Nat} {l : List At} (h : w.heap[b]? = some (.cells (cellsA l).toArray T fz)) : CellsAt w (some ⟨b, 0, none⟩) l := by
  intro i hi
  have hc : ∀ j u, (cellsA l)[j]? = some u → w.cell? ⟨b, j, none⟩ = some u := fun j u hu => by rw [cell_of h]; simpa using hu
  refine ⟨b, 0, rfl, (Array.getElem?_eq_some_iff.1 h).1, ?_, ?_, ?_, ?_⟩
  · have := hc (i * 4 + 0) _ (cellsA_at l i 0 hi (by omega)); simpa using this
  · have := hc (i * 4 + 1) _ (cellsA_at l i 1 hi (by omega)); simpa using this
  · have := hc (i * 4 + 2) _ (cellsA_at l i 2 hi (by omega)); simpa using this
  · have := hc (i * 4 + 3) _ (cellsA_at l i 3 hi (by omega)); simpa using this
theorem SS.alloc {w0 w : World} {p : Nat} {lv : List (List At)} (h : SS w0 w p lv) (o : Obj) : SS w0 (w.alloc o) p lv := h.below ((Below.refl _ _).alloc (Nat.le_refl _) _)
end Go.Proofs.Ytfohbgcpdpnndaa.Sc
