/- RefsFive: five names are given, whatever is declared; they are never opened; without a condition. -/
import Derived.Test.YtiddhaakbcnbiaaRows
import Derived.Test.YtiddhaakbcnbiaaRfFive
import Derived.WalkKit
import Derived.ProofKit
import Derived.OpenShut
import Derived.ShutString
import Derived.ChangeOld
import Derived.Below
import Derived.SizedLaws
import Derived.Deep.Slices
import Derived.Deep.Fields
import Derived.ChangeSame
namespace Go.Proofs.Ytiddhaakbcnbiaa.refsFive
open Go.ChangeShapes Go.WideShapes Go.ChangeAt Go.RowKit Go.Deep
open Go.ChangeMaps (open_string shut_string)
set_option linter.unusedVariables false
theorem own : ownKnob Try.prog.godebug = none := by kernel_rfl
theorem laidOut : laidOutB Try.prog = true := by kernel_rfl
section
variable {H : Type} {enc : TypeId × Value → H} {P : Program} {w : World} {base : Nat} {spare : Nat → Bool} {held : Bool}
theorem open_slice_fields {t e : TypeId} {fs : Array Field} {fuel : Nat} {cs : List Value} {x : DataW H × List MemPlace} (ht : P.underlying t = some (.slice e)) (he : P.underlying e = some (.struct fs))
    (hone : oneCellFields P fs = true) (hC : P.cellsOf e = fs.size) (h : DataW.trod enc P w base spare held fuel t cs = some x) :
    (cs = [.slice none 0 0] ∧ x = (.nil, [])) ∨
    ∃ (a : Addr) (len cap m : Nat) (D : Nat → DataW H) (Pl : Nat → List MemPlace), cs = [.slice (some a) len cap] ∧ base ≤ a.block ∧ len ≤ cap ∧ cap ≤ maxLen ∧ m = (if spare a.block then cap else len) ∧
      x = (.slice ((List.range len).map D) ((List.range (m - len)).map fun j => D (len + j)), MemPlace.row a (m * fs.size) ++ (List.range m).flatMap Pl) ∧
      ∀ i, i < m → ∃ (ys : List (DataW H × List MemPlace)) (n : Nat), D i = .agg (ys.map (·.1)) ∧ Pl i = ys.flatMap (·.2) ∧ ys.length = fs.size ∧
        ∀ (j : Nat) (f : Field), fs[j]? = some f → ∃ (v : Value) (y : DataW H × List MemPlace), w.cell? (a.add (i * fs.size + j)) = some v ∧ ys[j]? = some y ∧ DataW.trod enc P w base spare held n f.type [v] = some y := by
  rcases open_slice ht h with h0 | ⟨a, len, cap, m, n, D, Pl, hcs, hb, hl, hm, hmm, hx, hi⟩
  · exact .inl h0
  · refine .inr ⟨a, len, cap, m, D, Pl, hcs, hb, hl, hm, hmm, by rw [hC] at hx; exact hx, fun i him => ?_⟩
    obtain ⟨cs', hc, ht'⟩ := hi i him
    rw [hC] at hc
    obtain ⟨ys, n', hn', hy, hlen, hyl, hf⟩ := DataW.trod_struct he ht'
    obtain ⟨_, hcl, hat⟩ := World.cells?_some hc
    simp only [Prod.mk.injEq] at hy
    refine ⟨ys, n', hy.1, hy.2, hyl, fun j f hj => ?_⟩
    obtain ⟨ho, hk⟩ := hone_of hone j f hj
    have hjl : j < fs.size := (Array.getElem?_eq_some_iff.1 hj).1
    have hcell := hat j hjl
    have hv : cs'[j]? = some (cs'[j]'(by omega)) := List.getElem?_eq_getElem (by omega)
    have h1 := hf j f hj
    rw [ho, hk] at h1
    have hone' : (cs'.drop j).take 1 = [cs'[j]'(by omega)] := by
      rw [List.drop_eq_getElem_cons (by omega)]
      rfl
    rw [hone'] at h1
    have hys : ys[j]? = some (ys[j]'(by omega)) := List.getElem?_eq_getElem (by omega)
    refine ⟨_, _, ?_, hys, h1.trans hys⟩
    rw [← Go.Deep.add_add, hcell, hv]
end
theorem rows_of {α : Type} (d : α) (P : Nat → α → Prop) : ∀ n, (∀ i, i < n → ∃ e, P i e) → ∃ E : List α, E.length = n ∧ ∀ i, i < n → P i (E.getD i d)
  | 0, _ => ⟨[], rfl, fun i h => by omega⟩
  | n + 1, h => by
    obtain ⟨E, hE, hP⟩ := rows_of d P n (fun i hi => h i (by omega))
    obtain ⟨e, he⟩ := h n (by omega)
    refine ⟨E ++ [e], by simp [hE], fun i hi => ?_⟩
    by_cases hlt : i < n
    · have := hP i hlt
      rw [show (E ++ [e]).getD i d = E.getD i d by simp [List.getD, List.getElem?_append, hE, hlt]]
      exact this
    · obtain rfl : i = n := by omega
      rw [show (E ++ [e]).getD i d = e by simp [List.getD, hE]]
      exact he
theorem cells_of_rows {w : World} {a : Addr} {E : List Rf.Ent} (h : ∀ i, i < E.length → w.cell? (a.add (i * 3 + 0)) = some (.string (E.getD i Rf.zE).nm) ∧ w.cell? (a.add (i * 3 + 1)) = some (.string (E.getD i Rf.zE).vl) ∧ w.cell? (a.add (i * 3 + 2)) = some (.bool (E.getD i Rf.zE).ext)) :
    ∀ j u, (Rf.cellsE E)[j]? = some u → w.cell? (a.add j) = some u := by
  intro j u hu
  have hj := (List.getElem?_eq_some_iff.1 hu).1
  rw [Rf.cellsE_len] at hj
  have hi : j / 3 < E.length := by omega
  have hd : j = j / 3 * 3 + j % 3 := by omega
  rw [hd, Rf.cellsE_at E (j / 3) (j % 3) hi (by omega)] at hu
  obtain ⟨h0, h1, h2⟩ := h _ hi
  rw [hd]
  have h3 : j % 3 = 0 ∨ j % 3 = 1 ∨ j % 3 = 2 := by omega
  rcases h3 with h3 | h3 | h3
  · rw [h3] at hu ⊢; rw [h0]; simpa [Rf.zE] using hu
  · rw [h3] at hu ⊢; rw [h1]; simpa [Rf.zE] using hu
  · rw [h3] at hu ⊢; rw [h2]; simpa [Rf.zE] using hu
def IsEnts (w : World) (A : Option Addr) (len cap : Nat) : Prop :=
  ∃ E : List Rf.Ent, E.length = len ∧ len ≤ maxLen ∧ (∀ ad, A = some ad → (0 < E.length → ad.spot = none ∧ ad.block < w.heap.size) ∧ ∀ j u, (Rf.cellsE E)[j]? = some u → w.cell? (ad.add j) = some u) ∧ (A = none → E = []) ∧ ∀ e ∈ E, e.nm.size ≤ 9223372036854775807 ∧ e.vl.size ≤ 9223372036854775807
theorem ents_of {H : Type} {enc : TypeId × Value → H} {w : World} {A : Option Addr} {len cap : Nat} {d : DataW H} {p : List MemPlace} (h : DataW.Trod enc Try.prog w 0 (fun _ => true) true 23 (.slice A len cap) d p) : IsEnts w A len cap := by
  obtain ⟨fuel, hf⟩ := h
  rcases open_slice_fields Try.underlying23 (e := 25) (Try.underlying25) (by kernel_rfl) (by kernel_rfl) hf with ⟨hcs, _⟩ | ⟨a, len', cap', m, D, Pl, hcs, hb, hl, hm, hmm, hx, hi⟩
  · simp [Value.cells] at hcs
    obtain ⟨rfl, rfl, rfl⟩ := hcs
    exact ⟨[], rfl, by decide, fun ad h => by simp at h, fun _ => rfl, fun e he => by simp at he⟩
  · simp [Value.cells] at hcs
    obtain ⟨rfl, rfl, rfl⟩ := hcs
    have hmc : m = cap := by simpa using hmm
    subst hmc
    have hP : ∀ i, i < len → ∃ e : Rf.Ent, (w.cell? (a.add (i * 3 + 0)) = some (.string e.nm) ∧ w.cell? (a.add (i * 3 + 1)) = some (.string e.vl) ∧ w.cell? (a.add (i * 3 + 2)) = some (.bool e.ext)) ∧ e.nm.size ≤ maxLen ∧ e.vl.size ≤ maxLen := by
      intro i hil
      obtain ⟨ys, n, _, _, _, hf⟩ := hi i (by omega)
      obtain ⟨v0, y0, k0, _, t0⟩ := hf 0 _ rfl
      obtain ⟨v1, y1, k1, _, t1⟩ := hf 1 _ rfl
      obtain ⟨v2, y2, k2, _, t2⟩ := hf 2 _ rfl
      obtain ⟨s0, e0, _, z0⟩ := DataW.trod_string Try.underlying9 t0
      obtain ⟨s1, e1, _, z1⟩ := DataW.trod_string Try.underlying9 t1
      obtain ⟨b2, e2, _⟩ := DataW.trod_bool Try.underlying4 t2
      simp at e0 e1 e2
      subst e0; subst e1; subst e2
      exact ⟨⟨s0, s1, b2⟩, ⟨k0, k1, k2⟩, z0, z1⟩
    obtain ⟨E, hE, hPE⟩ := rows_of Rf.zE _ len hP
    subst hE
    refine ⟨E, rfl, by omega, fun ad h => ?_, (fun h => by cases h), fun e he => ?_⟩
    · obtain rfl := Option.some.inj h
      refine ⟨fun h0 => ?_, cells_of_rows fun i hi => (hPE i hi).1⟩
      have h1 := (hPE 0 h0).1.1
      have h2 : a.add (0 * 3 + 0) = a := by simp [Addr.add]
      rw [h2] at h1
      refine ⟨?_, World.block_lt_of_cell? w _ h1⟩
      unfold World.cell? at h1
      cases hs : a.spot with
      | none => rfl
      | some x =>
        rw [hs] at h1
        split at h1 <;> simp at h1
    · obtain ⟨i, hi, rfl⟩ := List.getElem_of_mem he
      have := (hPE i hi).2
      simpa [List.getD, hi, maxLen] using this
set_option maxRecDepth 100000 in
theorem lifted (os : Os) (started : os.Started) (H : Type) (enc : TypeId × Value → H) :
    ReturnsInHanded {} Try.checked os 4 .any (Rows.refsFiveSpec.pre6 enc Try.prog Try.f4 Rows.refsFiveRow.domain false) (Rows.refsFiveSpec.post enc Try.prog Try.f4 false true false false) := by
  refine returnsInHanded_of_change_sized (C := Try.checked) own started (by kernel_rfl) Try.func4
    (ChangeSpec.witness6 (enc := enc) (C := Try.checked) false ⟨#[], #[.slice none 0 0, .int .i64 0], []⟩ 8 (by kernel_rfl) (by kernel_rfl) (by kernel_rfl) (by kernel_rfl)) ?_
  intro W base args ds gs before hval0 hW hcnd hsz0 _
  have hval : ∀ (j : Nat) t v, Try.f4.params[j]? = some t → args[j]? = some v → Value.okWide Try.prog W .any base t v := hval0
  have hW' := hW
  obtain ⟨p, q, hA0, hV, rfl, hfz, hnd⟩ := hW
  have hA : DataW.TrodAll enc Try.prog W 0 (fun _ => true) true Try.f4.params.toList args.toList ds p := hA0
  rw [Try.params4] at hA hval
  obtain ⟨v0, vs0, d0, ds0, p0, q0, hargs, rfl, rfl, h0, r0⟩ := trodAll_cons hA
  obtain ⟨v1, vs1, d1, ds1, p1, q1, rfl, rfl, rfl, h1, r1⟩ := trodAll_cons r0
  obtain ⟨rfl, rfl, rfl⟩ := trodAll_nil r1
  obtain rfl : args = #[v0, v1] := by cases args; simp_all
  obtain ⟨rfl, rfl⟩ := trodVars_none hV
  obtain ⟨a0, len0, cap0, rfl⟩ := okWide_slice Try.underlying23 (hval 0 23 v0 rfl rfl)
  have k0 := h0
  have lt0 : ∀ x ∈ p0, x.block < W.heap.size := by obtain ⟨m, hm⟩ := k0; exact DataW.trod_lt m _ _ _ hm
  obtain ⟨E, hE, hlen, hcells, hnil, hsizes⟩ := ents_of h0
  subst hE
  obtain ⟨a1, rfl, rfl, rfl, w1⟩ := open_int Try.underlying3 (hval 1 3 v1 rfl rfl) h1
  clear hA0 hval0 hsz0
  refine (Rf.five_walk a0 cap0 E a1 W hcells hnil (by simpa [maxLen] using hlen) hsizes w1).mono fun e W' ⟨he, bel⟩ => ?_
  subst he
  exact ⟨_, rfl, _, _, _, [], _, [], hW', trodAll_mk1 (shut_bool Try.underlying4 _), (trodAll_cons_mk (Below.trod laidOut (by kernel_rfl) (of_decide_eq_true (by kernel_rfl)) k0 bel lt0) (trodAll_cons_mk (shut_int Try.underlying3 w1) trodAll_mk0)), rfl, bel.frame _, fun h => by cases h⟩
theorem over : Rows.refsFiveRow.holds Try.pinned (OpenSpec.ofChange Rows.refsFiveSpec) :=
  OpenClaim.holds_of_wide 4 Try.f4 rfl rfl rfl rfl rfl rfl rfl ⟨rfl, rfl, rfl, rfl, rfl⟩ rfl rfl rfl rfl rfl (by kernel_rfl) Try.func4 (by kernel_rfl)
    (of_decide_eq_true (by kernel_rfl)) (by unfold Func.isWrapper; first | (rw [if_pos (by decide +kernel)]; kernel_rfl) | (rw [if_neg (by decide +kernel)]; exact ⟨rfl, rfl⟩))
    (fun os started H enc _ => lifted os started H enc)
theorem proved : Rows.RefsFiveSaid := over
#print axioms proved
end Go.Proofs.Ytiddhaakbcnbiaa.refsFive
namespace Go.Proofs.Ytiddhaakbcnbiaa
/-- The row, under a short name, for the claim. -/
theorem refsFive_holds : Rows.RefsFiveSaid := refsFive.proved
end Go.Proofs.Ytiddhaakbcnbiaa
