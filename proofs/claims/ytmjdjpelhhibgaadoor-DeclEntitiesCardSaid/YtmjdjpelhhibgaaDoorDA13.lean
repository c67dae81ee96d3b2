/- The contracts of the package of what stands ahead: an entity that is declared. The contracts of the package of what stands ahead: attributes that are declared. -/
import Derived.Test.YtmjdjpelhhibgaaDoorDA11
import Derived.Deep.RegionHeldLaw
import Derived.Deep.AppendLies
namespace Go.Proofs.YtmjdjpelhhibgaaDoor.DA
open Go.RowKit Go.Proofs.YtmjdjpelhhibgaaDoor.Ow Go.Proofs.YtmjdjpelhhibgaaDoor.DS Go.Proofs.YtmjdjpelhhibgaaDoor.Spec Go.Proofs.YtmjdjpelhhibgaaDoor.Giv
set_option linter.unusedVariables false
set_option linter.unusedSimpArgs false
theorem infoE : (Tryd.prog.info? TE).map (fun i => (i.zero, i.size, i.bytes)) = some (some (.agg #[.string ⟨#[]⟩, .string ⟨#[]⟩, .bool false]), 3, 40) := by kernel_rfl
theorem infoT : (Tryd.prog.info? TA).map (fun i => (i.zero, i.size, i.bytes)) = some (some (.agg #[.string ⟨#[]⟩, .string ⟨#[]⟩, .int .i64 0, .bool false, .string ⟨#[]⟩]), 5, 64) := by kernel_rfl
theorem cell_ad {w : World} {o : Obj} {b i : Nat} {v : Value} (h : b < w.heap.size) (hc : w.cell? ⟨b, i, none⟩ = some v) : (w.alloc o).drew.cell? ⟨b, i, none⟩ = some v :=
  (((Below.refl w.heap.size w).alloc (Nat.le_refl _) o).cell (p := ⟨b, i, none⟩) h).trans hc
theorem frozen_ad {w : World} {o : Obj} {b i : Nat} {v : Bool} (h : b < w.heap.size) (hc : w.frozen? ⟨b, i, none⟩ = v) : (w.alloc o).drew.frozen? ⟨b, i, none⟩ = v :=
  (((Below.refl w.heap.size w).alloc (Nat.le_refl _) o).frozen (p := ⟨b, i, none⟩) h).trans hc
theorem own_ne {w : World} {B T T' s n b : Nat} {v : Value} {xs : List Value} {cs : Array Value} {fz : Nat × Nat} (h : w.ownsRow B T s v n xs) (hb : w.heap[b]? = some (.cells cs T' fz)) (hT : T' ≠ T) : v.ownBlock ≠ some b := by
  intro e
  rcases h.2 with ⟨rfl, _⟩ | ⟨g, cap, cur, rfl, _, hg, _⟩
  · cases e
  · have : g = b := by simpa [Value.ownBlock] using e
    rw [this, hb] at hg
    simp at hg
    exact hT hg.2.1
theorem own_two {w : World} {B B' T T' s s' n n' : Nat} {v v' : Value} {xs xs' : List Value} (h : w.ownsRow B T s v n xs) (h' : w.ownsRow B' T' s' v' n' xs') (hT : T' ≠ T) : v.ownBlock = none ∨ v.ownBlock ≠ v'.ownBlock := by
  cases hv : v.ownBlock with
  | none => exact .inl rfl
  | some b =>
    right
    intro e
    rcases h'.2 with ⟨rfl, _⟩ | ⟨g, cap, cur, rfl, _, hg, _⟩
    · cases e
    · have : b = g := by simpa [Value.ownBlock] using e
      subst this
      exact own_ne h hg hT hv
theorem own_setCell {w : World} {B T s n p o : Nat} {v x : Value} {xs : List Value} (h : w.ownsRow B T s v n xs) (hp : v.ownBlock ≠ some p) : (w.setCell ⟨p, o, none⟩ x).ownsRow B T s v n xs := by
  refine ⟨h.1, ?_⟩
  rcases h.2 with h1 | ⟨g, cap, cur, h1, h2, hg, h3⟩
  · exact .inl h1
  · refine .inr ⟨g, cap, cur, h1, h2, ?_, h3⟩
    rw [Below.heap_setCell _ _ _ _ (by intro e; apply hp; rw [h1, e]; rfl)]
    exact hg
theorem own_tn2 {w w' : World} {B T s n p q : Nat} {v : Value} {xs : List Value} (h : w.ownsRow B T s v n xs) (ht : Tn2 p q w w') (hp : v.ownBlock ≠ some p) (hq : w.heap.size ≤ q) : w'.ownsRow B T s v n xs :=
  h.kept (row := some p) ⟨ht.os, ht.tape, ht.output, ht.size, fun k hk hkp => ht.block k hk (by intro e; apply hkp; rw [e]) (by omega)⟩ (.inr hp)
theorem Tn2.below {p q : Nat} {w w' : World} (h : Tn2 p q w w') (hp : p ≤ w.heap.size) (hq : p < q) : Below p w w' := ⟨h.os, h.tape, h.output, h.size, fun k hk => h.block k (by omega) (by omega) (by omega)⟩
theorem own_tn {w w' : World} {B T s n p : Nat} {v : Value} {xs : List Value} (h : w.ownsRow B T s v n xs) (ht : Tn p w w') (hp : v.ownBlock ≠ some p) : w'.ownsRow B T s v n xs :=
  h.kept (row := some p) ⟨ht.os, ht.tape, ht.output, ht.size, fun k hk hkp => ht.block k hk (by intro e; apply hkp; rw [e])⟩ (.inr hp)
/-- The reader, and what is declared so far. -/
def IsD (w : World) (p : Nat) (s : ByteArray) (x : St) (nm : ByteArray) (es : List Ent) (al : List Att) : Prop :=
  ∃ ve va, IsR w p s x nm ve va ∧ w.ownsRow p TE 3 ve es.length (cellsE es) ∧ w.ownsRow p TA 5 va al.length (cellsA al)
theorem IsR.heap {w : World} {p : Nat} {s : ByteArray} {x : St} {nm : ByteArray} {ve va : Value} (h : IsR w p s x nm ve va) : ∃ a : Nat, w.heap[p]? = some (.cells #[.string s, .int .i64 a, .bool x.bad, .string nm, ve, va] TR (0, 0)) := by
  obtain ⟨_, _, a, _, _, hc⟩ := h
  exact ⟨a, hc⟩
theorem IsR.rows {w : World} {p : Nat} {s : ByteArray} {x : St} {nm : ByteArray} {ve va : Value} (h : IsR w p s x nm ve va) : w.cell? ⟨p, 4, none⟩ = some ve ∧ w.cell? ⟨p, 5, none⟩ = some va ∧ w.frozen? ⟨p, 4, none⟩ = false ∧ w.frozen? ⟨p, 5, none⟩ = false := by
  obtain ⟨a, hc⟩ := h.heap
  exact ⟨cell_of hc 4, cell_of hc 5, frozen_of hc 4, frozen_of hc 5⟩
theorem IsR.setEnts {w : World} {p : Nat} {s : ByteArray} {x : St} {nm : ByteArray} {ve va : Value} (h : IsR w p s x nm ve va) (v : Value) : IsR (w.setCell ⟨p, 4, none⟩ v) p s x nm v va := by
  obtain ⟨hb0, h0, a, h1, h2, hc⟩ := h
  refine ⟨base_tn (Tn.set1 _ _) hb0, h0, a, h1, h2, ?_⟩
  simp only [World.setCell, Array.getElem?_modify, hc]
  simp
theorem IsR.setAtts {w : World} {p : Nat} {s : ByteArray} {x : St} {nm : ByteArray} {ve va : Value} (h : IsR w p s x nm ve va) (v : Value) : IsR (w.setCell ⟨p, 5, none⟩ v) p s x nm ve v := by
  obtain ⟨hb0, h0, a, h1, h2, hc⟩ := h
  refine ⟨base_tn (Tn.set1 _ _) hb0, h0, a, h1, h2, ?_⟩
  simp only [World.setCell, Array.getElem?_modify, hc]
  simp
theorem IsR.grown {w w' : World} {p : Nat} {s : ByteArray} {x : St} {nm : ByteArray} {ve va : Value} {row : Option Nat} (h : IsR w p s x nm ve va) (hg : w.grownBy w' row) (hr : row ≠ some p) (hb : ∀ k, row = some k → p ≤ k) : IsR w' p s x nm ve va := by
  have hl := h.lt
  obtain ⟨⟨W0, e1, e2, e3⟩, h0, a, h1, h2, hc⟩ := h
  refine ⟨⟨W0, e1, e2.trans ⟨hg.os, hg.tape, hg.output, hg.size, fun k hk => hg.block k (by have := e2.size; omega) (fun e => by have := hb k e.symm; omega)⟩, e3⟩, h0, a, h1, h2, ?_⟩
  rw [hg.block p hl (fun e => hr e.symm)]
  exact hc
theorem lits_len2 {w : World} {p : Nat} {s : ByteArray} {x : St} {nm : ByteArray} {ve va : Value} (h : IsR w p s x nm ve va) : (bs (litS x)).size < 4294967279 := by
  have hl := h.len
  have e1 : (bs (litS x)).size = (litS x).length := List.size_toArray
  rw [e1]
  unfold litS
  cases hl : lit x.r with
  | none => simp
  | some t =>
    have := lit_len hl
    simp only [Option.getD_some]
    omega
def StepD (p : Nat) (s : ByteArray) (x : St) (nm : ByteArray) (es : List Ent) (al : List Att) (w : World) (e : Ending) (w' : World) : Prop := e = .returned unitV ∧ IsD w' p s x nm es al ∧ Below p w w'
/-- Block q is an entity. -/
def IsE (w : World) (q : Nat) (e : Ent) : Prop := w.heap[q]? = some (.cells #[.string (bs e.nm), .string (bs e.vl), .bool e.ext] TE (0, 0))
theorem IsE.open_ {w : World} {q : Nat} {e : Ent} (h : IsE w q e) : w.cell? ⟨q, 0, none⟩ = some (.string (bs e.nm)) ∧ w.cell? ⟨q, 1, none⟩ = some (.string (bs e.vl)) ∧ w.cell? ⟨q, 2, none⟩ = some (.bool e.ext) ∧ w.frozen? ⟨q, 1, none⟩ = false ∧ w.frozen? ⟨q, 2, none⟩ = false ∧ q < w.heap.size :=
  ⟨cell_of h 0, cell_of h 1, cell_of h 2, frozen_of h 1, frozen_of h 2, (Array.getElem?_eq_some_iff.1 h).1⟩
theorem IsE.tn {w w' : World} {p q : Nat} {e : Ent} (h : IsE w q e) (ht : Tn p w w') (hq : p < q) : IsE w' q e := (ht.block q (Array.getElem?_eq_some_iff.1 h).1 (by omega)).trans h
theorem IsE.farp {w : World} {p q o : Nat} {e : Ent} {v : Value} (h : IsE w q e) (hq : p < q) : IsE (w.setCell ⟨p, o, none⟩ v) q e := (Below.heap_setCell _ _ _ _ (show q ≠ p by omega)).trans h
theorem IsE.set1 {w : World} {q : Nat} {e : Ent} (h : IsE w q e) (v : List UInt8) : IsE (w.setCell ⟨q, 1, none⟩ (.string (bs v))) q ⟨e.nm, v, e.ext⟩ := by
  unfold IsE at *
  simp only [World.setCell, Array.getElem?_modify, h]
  simp
theorem IsE.set2 {w : World} {q : Nat} {e : Ent} (h : IsE w q e) (b : Bool) : IsE (w.setCell ⟨q, 2, none⟩ (.bool b)) q ⟨e.nm, e.vl, b⟩ := by
  unfold IsE at *
  simp only [World.setCell, Array.getElem?_modify, h]
  simp
theorem alloc_drew_below (w : World) (o : Obj) : Below w.heap.size w (w.alloc o).drew := by
  have h := (Below.refl w.heap.size w).alloc (Nat.le_refl _) o
  exact ⟨h.os, h.tape, h.output, h.size, h.block⟩
theorem row_end {w w1 : World} {p i : Nat} {v v' : Value} {o : Obj} (hp : p < w.heap.size) (hvb : ∀ k, v.ownBlock = some k → p ≤ k) (hg : (w.alloc o).drew.grownBy w1 v.ownBlock) : Below p w (w1.setCell ⟨p, i, none⟩ v') := by
  have hb := alloc_drew_below w o
  refine ⟨hg.os.trans hb.os, hg.tape.trans hb.tape, hg.output.trans hb.output, ?_, fun k hk => ?_⟩
  · have h1 := hg.size
    have h2 := hb.size
    simp only [World.setCell, Array.size_modify]
    omega
  · rw [Below.heap_setCell _ _ _ _ (show k ≠ p by omega), hg.block k (by have := hb.size; omega) (fun e => by have := hvb k e.symm; omega)]
    exact hb.block k (by omega)
theorem ent_end {w w1 : World} {p : Nat} {s : ByteArray} {x : St} {nm : ByteArray} {v va : Value} {es : List Ent} {al : List Att} {o : Obj} {g n cap : Nat} (e : Ent) (hI : IsR w p s x nm v va) (hv : v.ownBlock ≠ some p) (hvb : ∀ k, v.ownBlock = some k → p ≤ k)
    (hoa : w.ownsRow p TA 5 va al.length (cellsA al)) (hpa : va.ownBlock ≠ some p) (hna : va.ownBlock = none ∨ va.ownBlock ≠ v.ownBlock) (hg : (w.alloc o).drew.grownBy w1 v.ownBlock)
    (ho : w1.ownsRow p TE 3 (.slice (some ⟨g, 0, none⟩) (n + 1) cap) (n + 1) (cellsE es ++ [.string (bs e.nm), .string (bs e.vl), .bool e.ext])) (hn : es.length = n) :
    IsD (w1.setCell ⟨p, 4, none⟩ (.slice (some ⟨g, 0, none⟩) (n + 1) cap)) p s x nm (es ++ [e]) al ∧ Below p w (w1.setCell ⟨p, 4, none⟩ (.slice (some ⟨g, 0, none⟩) (n + 1) cap)) := by
  have hb := alloc_drew_below w o
  have hI1 := (hI.below hb).grown hg hv hvb
  obtain ⟨a1, hc1⟩ := hI1.heap
  refine ⟨⟨_, va, hI1.setEnts _, ?_, ?_⟩, row_end hI.lt hvb hg⟩
  · rw [cellsE_app, List.length_append, hn]
    exact own_setCell ho (own_ne ho hc1 (by decide : (TR : Nat) ≠ TE))
  · have h1 := (own_kept_below hoa hb).kept hg hna
    exact own_setCell h1 (own_ne h1 hc1 (by decide : (TR : Nat) ≠ TA))
/-! ### entity -/
def entZ (y : St) : Bool × List UInt8 × St := if external y = true then (true, [], externalX y) else (false, (ent (litS y)).1, failIf (!(ent (litS y)).2) (litX y))
def entN (b : Bool) (z : St) : St := if (space z && (b && has ndataM (spaceX z))) = true then spaceX (wordX ncL (gapX (hasX ndataM (spaceX z)))) else spaceX z
theorem entX_eq (x : St) : entX x = (⟨entNm x, (entZ (entA x)).2.1, (entZ (entA x)).1⟩, mustX [62] (entN (entZ (entA x)).1 (entZ (entA x)).2.2)) := by
  unfold entX entZ
  cases h : external (entA x)
  · simp [entN, h]
  · simp [entN, h]
set_option maxRecDepth 100000 in
set_option maxHeartbeats 8000000 in
theorem entity_any (p : Nat) (s : ByteArray) (x : St) (nm : ByteArray) (es : List Ent) (al : List Att) (w : World) (h : IsD w p s x nm es al) (hle : es.length ≤ 4294967296) :
    Calls Tryd.prog 72 #[.pointer (some ⟨p, 0, none⟩)] w (StepD p s (entX x).2 nm (addEnt es (entX x).1) al w) := by
  obtain ⟨ve, va, hI, hoe, hoa⟩ := h
  obtain ⟨a0, hc0⟩ := hI.heap
  have hpe : ve.ownBlock ≠ some p := own_ne hoe hc0 (by decide : (TR : Nat) ≠ TE)
  have hpa : va.ownBlock ≠ some p := own_ne hoa hc0 (by decide : (TR : Nat) ≠ TA)
  have hpw := hI.lt
  obtain ⟨R2, hR2⟩ : ∃ z, (entX x).2 = z := ⟨_, rfl⟩
  obtain ⟨ES, hES⟩ : ∃ z, addEnt es (entX x).1 = z := ⟨_, rfl⟩
  rw [hR2, hES]
  have hX := entX_eq x
  rw [hX] at hR2 hES
  have HR2 := Lib.hid hR2
  have HES := Lib.hid hES
  have HOE := Lib.hid hoe
  have HOA := Lib.hid hoa
  have HPE := Lib.hid hpe
  have HPA := Lib.hid hpa
  have H1 := gap_any p s x nm ve va w hI
  clear hI hoe hoa hc0 hpe hpa hR2 hES hX
  go_enter Tryd.func72, Tryd.ntmps72
  go_wp2_with fail
  refine H1.mono ?_
  clear H1
  rintro e w1 ⟨rfl, hI1, hT1⟩
  have H2 := word_nc p s _ nm ve va w1 hI1 ncL DNames.nc_tells
  clear hI1
  go_wp2_with fail
  refine H2.mono ?_
  clear H2
  rintro e w2 ⟨rfl, hI2, hT2⟩
  go_upto_region 2 with (fail)
  obtain ⟨NM, hNM⟩ : ∃ z, word (gapX x) = z := ⟨_, rfl⟩
  have hNM2 : entNm x = NM := hNM
  obtain ⟨Y1, hY1⟩ : ∃ z, wordX ncL (gapX x) = z := ⟨_, rfl⟩
  have hYA : entA x = gapX Y1 := by rw [← hY1]; rfl
  have hI3 := hI2.alloc (.cells #[.string (bs NM), .string ⟨#[]⟩, .bool false] TE)
  have hT3 := (hT1.trans hT2).trans (Tn.of_below (p := p) ((Below.refl w2.heap.size w2).alloc (Nat.le_refl _) (.cells #[.string (bs NM), .string ⟨#[]⟩, .bool false] TE)))
  have hE3 : IsE (w2.alloc (.cells #[.string (bs NM), .string ⟨#[]⟩, .bool false] TE)) w2.heap.size ⟨NM, [], false⟩ := heap_alloc_new w2 _
  have hpq : p < w2.heap.size := hI2.lt
  have hqw : w.heap.size ≤ w2.heap.size := (hT1.trans hT2).size
  rw [hNM]
  rw [hY1] at hI3
  rw [hYA] at HR2 HES
  rw [hNM2] at HES
  obtain ⟨q, hq⟩ : ∃ q, w2.heap.size = q := ⟨_, rfl⟩
  obtain ⟨w3, hw3⟩ : ∃ z, w2.alloc (.cells #[.string (bs NM), .string ⟨#[]⟩, .bool false] TE) = z := ⟨_, rfl⟩
  rw [show w2.alloc (.cells #[.string (bs NM), .string (⟨#[]⟩ : ByteArray), .bool false] 52) = w3 from hw3]
  rw [hw3] at hI3 hT3 hE3
  rw [hq] at hE3 hpq hqw ⊢
  have HT3 := Lib.hid hT3
  have HE3 := Lib.hid hE3
  have HQW := Lib.hid hqw
  have HPQ := Lib.hid hpq
  clear hI2 hT1 hT2 hNM hNM2 hY1 hYA hw3 hq hT3 hE3 hqw hpq
  have H3 := gap_any p s Y1 nm ve va w3 hI3
  clear hI3
  generalize gapX Y1 = Y at H3 HR2 HES
  go_wp2_with fail
  refine H3.mono ?_
  clear H3
  rintro e w4 ⟨rfl, hI4, hT4⟩
  have H4 := external_any p s Y nm ve va w4 hI4
  obtain ⟨EX, hEX⟩ : ∃ z, external Y = z := ⟨_, rfl⟩
  rw [hEX] at H4
  have HT4 := Lib.hid (HT3.out.trans hT4)
  have HE4 := Lib.hid (HE3.out.tn hT4 HPQ.out)
  have HEX := Lib.hid hEX
  have hXI : EX = false → externalX Y = Y := by
    intro h; rw [← hEX] at h
    unfold external at h; rw [Bool.or_eq_false_iff] at h
    simp [externalX, h.1, h.2]
  have HXI := Lib.hid hXI
  clear hI4 hT4 HT3 HE3 hEX hXI
  go_wp2_with fail
  refine H4.mono ?_
  clear H4
  rintro e w5 ⟨rfl, hI5, hT5⟩
  have hE5 := HE4.out.tn hT5 HPQ.out
  obtain ⟨b0, b1, b2, f1, f2, hql⟩ := hE5.open_
  have HT6 := Lib.hid ((Tn2.of_tn (q := q) (HT4.out.trans hT5)).setq 2 (.bool EX))
  have HE6 := Lib.hid (hE5.set2 EX)
  have HI6 := Lib.hid (hI5.far HPQ.out 2 (.bool EX))
  clear hI5 hT5 hE5 HT4 HE4
  go_upto_region 4 with (fail)
  obtain ⟨w6, hw6⟩ : ∃ z, w5.setCell ⟨q, 2, none⟩ (.bool EX) = z := ⟨_, rfl⟩
  rw [hw6] at HT6 HE6 HI6 ⊢
  clear b0 b1 b2 f1 f2 hql hw6
  obtain ⟨b0, b1, b2, f1, f2, hql⟩ := HE6.out.open_
  obtain ⟨a6, _, _, _, c0, c1, c2, g1, g2, hpl⟩ := HI6.out.open_
  go_upto_if 17 with (fail)
  obtain ⟨Z, hZ⟩ : ∃ z, entZ Y = z := ⟨_, rfl⟩
  rw [hZ] at HR2 HES
  have HZ := Lib.hid hZ
  clear hZ
  go_cut [3, 4] from 18 to 36 (fun v k wx => Hid (IsR wx p s Z.2.2 nm ve va) ∧ Hid (IsE wx q ⟨NM, Z.2.1, Z.1⟩) ∧ Hid (Tn2 p q w wx))
  case first =>
    cases EX
    · have hZ2 : Hid (Z = (false, (ent (litS Y)).1, failIf (!(ent (litS Y)).2) (litX Y))) := by show _ = _; rw [← HZ.out]; unfold entZ; rw [HEX.out]; rfl
      have hI6 := HI6.out
      rw [HXI.out rfl] at hI6
      have hl6 := lits_len2 hI6
      have H7 := literal_any p s Y nm ve va w6 hI6
      have HL6 := Lib.hid hl6
      clear hI6 HI6 HEX HXI hl6
      go_wp2_with fail
      refine H7.mono ?_
      clear H7
      rintro e w7 ⟨rfl, hI7, hT7⟩
      have hE7 := HE6.out.tn hT7 HPQ.out
      have HT7 := Lib.hid (HT6.out.trans (.of_tn hT7))
      have H8 := Entity_any (bs (litS Y)) w7 HL6.out hI7.env
      rw [bs_data] at H8
      generalize ent (litS Y) = EN at H8 hZ2
      obtain ⟨vl, ok⟩ := EN
      have HI7 := Lib.hid hI7
      have HE7 := Lib.hid hE7
      clear hI7 hT7 hE7 HE6 HT6 b0 b1 b2 f1 f2 hql c0 c1 c2 g1 g2 hpl
      go_wp2_with fail
      refine H8.mono ?_
      clear H8
      rintro e w8 ⟨rfl, hb8⟩
      have hI8 := HI7.out.below hb8
      have hE8 := HE7.out.tn (Tn.of_below (p := p) hb8) HPQ.out
      obtain ⟨b0, b1, b2, f1, f2, hql⟩ := hE8.open_
      have hI9 := hI8.far HPQ.out 1 (.string (bs vl))
      have hE9 := hE8.set1 vl
      have hT9 := (HT7.out.trans (.of_tn (Tn.of_below hb8))).setq 1 (.string (bs vl))
      clear hb8 hI8 hE8 HI7 HE7 HT7
      go_upto_region 7 with (fail)
      obtain ⟨w9, hw9⟩ : ∃ z, w8.setCell ⟨q, 1, none⟩ (.string (bs vl)) = z := ⟨_, rfl⟩
      rw [hw9] at hI9 hE9 hT9 ⊢
      obtain ⟨a9, _, _, _, c0, c1, c2, g1, g2, hpl⟩ := hI9.open_
      have HI9 := Lib.hid hI9
      have HE9 := Lib.hid hE9
      have HT9 := Lib.hid hT9
      clear b0 b1 b2 f1 f2 hql hw9 hI9 hE9 hT9
      cases hb : (litX Y).bad
      · rw [hb] at c2
        have e7 : Hid (Z.2.2 = ⟨(litX Y).r, !ok⟩) := by show _ = _; rw [hZ2.out]; simp only [failIf]; rw [hb]; rfl
        have e8 : Hid (Z.2.1 = vl ∧ Z.1 = false) := by show _ ∧ _; rw [hZ2.out]; exact ⟨rfl, rfl⟩
        clear hb hZ2
        cases ok
        all_goals
          go_wp2_with fail
          go_meet
          rw [e7.out, e8.out.1, e8.out.2]
          exact ⟨HI9.out.setBad _, HE9.out.farp HPQ.out, HT9.out.setp _ _⟩
      · rw [hb] at c2
        have e7 : Hid (Z.2.2 = ⟨(litX Y).r, true⟩) := by show _ = _; rw [hZ2.out]; simp only [failIf]; rw [hb]; rfl
        have e8 : Hid (Z.2.1 = vl ∧ Z.1 = false) := by show _ ∧ _; rw [hZ2.out]; exact ⟨rfl, rfl⟩
        clear hb hZ2
        go_wp2_with fail
        go_meet
        rw [e7.out, e8.out.1, e8.out.2]
        exact ⟨HI9.out.setBad _, HE9.out.farp HPQ.out, HT9.out.setp _ _⟩
    · have hZ2 : Hid (Z = (true, [], externalX Y)) := by show _ = _; rw [← HZ.out]; unfold entZ; rw [HEX.out]; rfl
      go_wp2_with fail
      go_meet
      rw [hZ2.out]
      exact ⟨HI6.out, HE6.out, HT6.out⟩
  case rest =>
    obtain ⟨HI, HE, HT⟩ := hcut
    clear HI6 HE6 HT6 HEX HXI b0 b1 b2 f1 f2 hql c0 c1 c2 g1 g2 hpl HZ
    obtain ⟨ext, vl, z⟩ := Z
    simp only at HI HE HR2 HES
    obtain ⟨g, hg⟩ : ∃ v, space z = v := ⟨_, rfl⟩
    obtain ⟨z2, hz2⟩ : ∃ v, spaceX z = v := ⟨_, rfl⟩
    have H8 := space_any p s z nm ve va wc HI.out
    have hN : entN ext z = if (g && (ext && has ndataM z2)) = true then spaceX (wordX ncL (gapX (hasX ndataM z2))) else z2 := by unfold entN; rw [hg, hz2]
    obtain ⟨N, hN0⟩ : ∃ v, entN ext z = v := ⟨_, rfl⟩
    rw [hN0] at HR2 hN
    rw [hg, hz2] at H8
    obtain ⟨K, hK⟩ : ∃ v, (g && (ext && has ndataM z2)) = v := ⟨_, rfl⟩
    rw [hK] at hN
    have HN := Lib.hid hN
    have HK := Lib.hid hK
    have hndX : K = false → (g && ext) = true → hasX ndataM z2 = z2 := by
      intro h1 h2
      rw [← hK] at h1
      have : has ndataM z2 = false := by
        cases hh : has ndataM z2 with
        | false => rfl
        | true => rw [hh, Bool.and_true] at h1; rw [h1] at h2; cases h2
      simp [hasX, this]
    have HNX := Lib.hid hndX
    clear hg hz2 hN hN0 HI hK hndX
    go_upto_region 8 with (fail)
    go_cut [46] from 37 to 45 (fun c wx => c = .bool K ∧ Hid (IsR wx p s (if K = true then hasX ndataM z2 else z2) nm ve va) ∧ Hid (IsE wx q ⟨NM, vl, ext⟩) ∧ Hid (Tn2 p q w wx))
    case first =>
      go_wp2_with fail
      refine H8.mono ?_
      clear H8
      rintro e w8 ⟨rfl, hI8, hT8⟩
      have HE8 := Lib.hid (HE.out.tn hT8 HPQ.out)
      have HT8 := Lib.hid (HT.out.trans (.of_tn hT8))
      have HI8 := Lib.hid hI8
      clear hI8 hT8 HE HT
      obtain ⟨b0, b1, b2, f1, f2, hql⟩ := HE8.out.open_
      cases g
      · have hk : Hid (K = false) := HK.out.symm
        go_wp2_with fail
        go_meet
        rw [hk.out]
        exact ⟨rfl, HI8, HE8, HT8⟩
      · cases ext
        · have hk : Hid (K = false) := HK.out.symm
          go_wp2_with fail
          go_meet
          rw [hk.out]
          exact ⟨rfl, HI8, HE8, HT8⟩
        · have H9 := has_any p s z2 nm ve va ⟨#[78, 68, 65, 84, 65]⟩ w8 HI8.out
          rw [show (⟨#[78, 68, 65, 84, 65]⟩ : ByteArray).data.toList = ndataM from rfl] at H9
          have hk : has ndataM z2 = K := by rw [← HK.out]; rfl
          rw [hk] at H9
          have hx : hasX ndataM z2 = if K = true then hasX ndataM z2 else z2 := by
            cases K
            · rw [if_neg (by decide)]; exact HNX.out rfl rfl
            · rw [if_pos rfl]
          have HX := Lib.hid hx
          clear hk hx
          go_wp2_with fail
          refine H9.mono ?_
          clear H9
          rintro e w9 ⟨rfl, hI9, hT9⟩
          go_wp2_with fail
          go_meet
          refine ⟨rfl, ?_, HE8.out.tn hT9 HPQ.out, HT8.out.trans (.of_tn hT9)⟩
          rw [← HX.out]
          exact hI9
    case rest =>
      obtain ⟨rfl, HI8, HE8, HT8⟩ := hcut
      clear HE HT HK HNX H8
      go_upto_if 46 with (fail)
      go_cut [] from 47 to 52 (fun wx => Hid (IsR wx p s N nm ve va) ∧ Hid (IsE wx q ⟨NM, vl, ext⟩) ∧ Hid (Tn2 p q w wx))
      case first =>
        cases K
        · have hn : Hid (N = z2) := HN.out
          go_wp2_with fail
          go_meet
          rw [hn.out]
          exact ⟨HI8, HE8, HT8⟩
        · have hn : Hid (N = spaceX (wordX ncL (gapX (hasX ndataM z2)))) := HN.out
          have H9 := gap_any p s (hasX ndataM z2) nm ve va _ HI8.out
          generalize hasX ndataM z2 = Q at H9 hn
          clear HN HI8
          go_wp2_with fail
          refine H9.mono ?_
          clear H9
          rintro e w9 ⟨rfl, hI9, hT9⟩
          have HE9 := Lib.hid (HE8.out.tn hT9 HPQ.out)
          have HT9 := Lib.hid (HT8.out.trans (.of_tn hT9))
          have H10 := word_nc p s _ nm ve va w9 hI9 ncL DNames.nc_tells
          clear hI9 hT9 HE8 HT8
          go_wp2_with fail
          refine H10.mono ?_
          clear H10
          rintro e w10 ⟨rfl, hI10, hT10⟩
          have HE10 := Lib.hid (HE9.out.tn hT10 HPQ.out)
          have HT10 := Lib.hid (HT9.out.trans (.of_tn hT10))
          have H11 := space_any p s _ nm ve va w10 hI10
          clear hI10 hT10 HE9 HT9
          go_wp2_with fail
          refine H11.mono ?_
          clear H11
          rintro e w11 ⟨rfl, hI11, hT11⟩
          go_wp2_with fail
          go_meet
          rw [hn.out]
          exact ⟨hI11, HE10.out.tn hT11 HPQ.out, HT10.out.trans (.of_tn hT11)⟩
      case rest =>
        obtain ⟨HI, HE, HT⟩ := hcut
        clear HI8 HE8 HT8 HN
        have H12 := must_any p s N nm ve va ⟨#[62]⟩ _ HI.out
        rw [show mustX (⟨#[62]⟩ : ByteArray).data.toList N = R2 from HR2.out] at H12
        clear HI HR2
        go_wp2_with fail
        refine H12.mono ?_
        clear H12
        rintro e w12 ⟨rfl, hI12, hT12⟩
        have hE12 := HE.out.tn hT12 HPQ.out
        have hT := HT.out.trans (.of_tn hT12)
        have hoe := own_tn2 HOE.out hT HPE.out HQW.out
        have hoa := own_tn2 HOA.out hT HPA.out HQW.out
        obtain ⟨r4, r5, s4, s5⟩ := hI12.rows
        obtain ⟨b0, b1, b2, f1, f2, hql⟩ := hE12.open_
        obtain ⟨A, cap, rfl, hC⟩ := cellsAtE_of_own hoe rfl
        have HCF := containsE_any ⟨NM, vl, ext⟩ q A cap es w12 hC (by omega) b0 hql
        have hadd := addEnt_eq es ⟨NM, vl, ext⟩
        rw [HES.out] at hadd
        have HADD := Lib.hid hadd
        have HT12 := Lib.hid hT
        have HI12 := Lib.hid hI12
        have HE12 := Lib.hid hE12
        have HOE2 := Lib.hid hoe
        have HOA2 := Lib.hid hoa
        have hpl := hI12.lt
        generalize es.any (sameE ⟨NM, vl, ext⟩) = dup at HCF hadd
        have HADD := Lib.hid hadd
        clear hC hI12 hT12 hE12 hT hoe hoa HE HT HES hadd
        go_wp2_with fail
        refine HCF.mono ?_
        clear HCF
        rintro e w13 ⟨rfl, hb13⟩
        have HI13 := Lib.hid (HI12.out.below hb13)
        have hoe3 := own_kept_below HOE2.out hb13
        have HOA3 := Lib.hid (own_kept_below HOA2.out hb13)
        have HB13 := Lib.hid ((HT12.out.below (Nat.le_of_lt hpw) HPQ.out).trans (hb13.mono (Nat.le_of_lt hpl)))
        have k4 := (hb13.cell (p := ⟨p, 4, none⟩) hpl).trans r4
        have z4 := (hb13.frozen (p := ⟨p, 4, none⟩) hpl).trans s4
        have k0 := (hb13.cell (p := ⟨q, 0, none⟩) hql).trans b0
        have k1 := (hb13.cell (p := ⟨q, 1, none⟩) hql).trans b1
        have k2 := (hb13.cell (p := ⟨q, 2, none⟩) hql).trans b2
        have hpz : p < w13.heap.size := Nat.lt_of_lt_of_le hpl hb13.size
        have hqz : q < w13.heap.size := Nat.lt_of_lt_of_le hql hb13.size
        obtain ⟨a13, hc13⟩ := HI13.out.heap
        have hE13 : IsE w13 q ⟨NM, vl, ext⟩ := (hb13.block q hql).trans HE12.out
        have ap : (Value.slice A es.length cap).ownBlock ≠ some p := own_ne hoe3 hc13 (by decide : (TR : Nat) ≠ TE)
        have hpa := own_ne HOA3.out hc13 (by decide : (TR : Nat) ≠ TA)
        have hna := own_two HOA3.out hoe3 (by decide : (TE : Nat) ≠ TA)
        have aq : (Value.slice A es.length cap).ownBlock ≠ some q := by
          intro e
          have := HOE.out.lt q e
          have := HQW.out
          omega
        have HPA3 := Lib.hid hpa
        have HNA := Lib.hid hna
        clear r4 r5 s4 s5 b0 b1 b2 f1 f2 hb13 HI12 HE12 HOE2 HOA2 HT12 hc13 hpa hna hE13
        cases dup
        · have hadd : ES = es ++ [⟨NM, vl, ext⟩] := by rw [HADD.out, if_neg (by decide)]
          have HA := Lib.hid hadd
          clear HADD hadd
          obtain ⟨i0, hi0, hz0, hz1, hz2⟩ := info_parts infoE
          generalize hn : es.length = n at hoe3 k4 ap aq
          have hle' : n ≤ 4294967296 := by rw [← hn]; exact hle
          have HN := Lib.hid hn
          clear hn hle
          have h63 : n + 1 ≤ maxLen := by unfold maxLen; omega
          have hby : (n + 1) * 40 ≤ 140737488355328 := by omega
          go_upto_region 14 with (fail)
          go_region_law
            ((refine step_append_lies _ (by rfl) _ _ _ (by rfl) p TE i0 _ 3 40 Tryd.underlying45 hi0 hz0 hz1 hz2 rfl (by omega) (.slice A n cap) n (cellsE es) (by rfl) ((hoe3.alloc _).drew)
                ⟨w13.heap.size, 0, none⟩ 1 1 [.string (bs NM), .string (bs vl), .bool ext] (by rfl) (by rfl) (World.news_of_block (cs := #[.string (bs NM), .string (bs vl), .bool ext]) (t := TE) (fr := (0, 0)) (heap_alloc_new w13 _)) (by simp [Value.oneCell'])
                (by omega) h63 hby (by simp; omega) (w13.heap.size + 1) (by simp) ?_; intro gg cap' w14 hown1 hgrow hat hlt; have k5 := (hgrow.cell_far ⟨p, 4, none⟩ (by simp; omega) (Ne.symm ap)).trans (cell_ad hpz k4); have z5 := (hgrow.frozen_far ⟨p, 4, none⟩ (by simp; omega) (Ne.symm ap)).trans (frozen_ad hpz z4)))
          all_goals
            go_end0
            have hI := HI13.out
            rw [HN.out] at hI
            have hna := HNA.out
            rw [HN.out] at hna
            obtain ⟨h1, h2⟩ := ent_end ⟨NM, vl, ext⟩ hI ap (fun k hk => (hoe3.lt k hk).1) HOA3.out HPA3.out hna hgrow hown1 HN.out
            rw [HA.out]
            exact ⟨rfl, h1, HB13.out.trans h2⟩
        · have hadd : ES = es := by rw [HADD.out, if_pos rfl]
          have HA := Lib.hid hadd
          clear HADD hadd
          go_wp2_with fail
          go_end0
          rw [HA.out]
          exact ⟨rfl, ⟨_, _, HI13.out, hoe3, HOA3.out⟩, HB13.out⟩
end Go.Proofs.YtmjdjpelhhibgaaDoor.DA
namespace Go.Proofs.YtmjdjpelhhibgaaDoor.DA
open Go.RowKit Go.Proofs.YtmjdjpelhhibgaaDoor.Ow Go.Proofs.YtmjdjpelhhibgaaDoor.DS Go.Proofs.YtmjdjpelhhibgaaDoor.Spec Go.Proofs.YtmjdjpelhhibgaaDoor.Giv
set_option linter.unusedVariables false
set_option linter.unusedSimpArgs false
/-! ### no step makes a text longer, or a reader good -/
def Down (f : St → St) : Prop := ∀ x, (f x).r.length ≤ x.r.length ∧ (x.bad = true → (f x).bad = true)
theorem Down.comp {f g : St → St} (hf : Down f) (hg : Down g) : Down fun x => f (g x) := fun x => ⟨Nat.le_trans (hf _).1 (hg x).1, fun h => (hf _).2 ((hg x).2 h)⟩
theorem Down.ite {f g : St → St} (c : St → Bool) (hf : Down f) (hg : Down g) : Down fun x => if c x = true then f x else g x := fun x => by
  show (if c x = true then f x else g x).r.length ≤ _ ∧ (_ → (if c x = true then f x else g x).bad = true)
  split
  · exact hf x
  · exact hg x
theorem Down.id : Down fun x => x := fun x => ⟨Nat.le_refl _, fun h => h⟩
theorem down_has (m : List UInt8) : Down (hasX m) := fun x => ⟨has_le m x, fun h => by rw [has_bad]; exact h⟩
theorem down_must (m : List UInt8) : Down (mustX m) := fun x => by
  unfold mustX
  split
  · exact ⟨by simp, fun h => h⟩
  · exact ⟨Nat.le_refl _, fun _ => rfl⟩
theorem down_space : Down spaceX := fun x => ⟨space_le x, fun h => by rw [space_bad]; exact h⟩
theorem down_gap : Down gapX := fun x => by
  unfold gapX
  split
  · exact down_space x
  · exact ⟨space_le x, fun _ => rfl⟩
theorem down_word (g : List UInt8 → Bool) : Down (wordX g) := fun x => ⟨word_le g x, word_bad g x⟩
theorem down_lit : Down litX := fun x => by
  unfold litX
  split
  · split
    · exact ⟨Nat.le_refl _, fun h => h⟩
    · exact ⟨by simp, fun h => h⟩
  · exact ⟨Nat.le_refl _, fun _ => rfl⟩
theorem down_fail (b : Bool) : Down (failIf b) := fun x => ⟨Nat.le_refl _, fun h => by simp [failIf, h]⟩
theorem down_listR : ∀ b, Down (listR b)
  | 0 => Down.id
  | b + 1 => fun x => by
    unfold listR
    split
    · exact ⟨Nat.le_refl _, fun h => h⟩
    · have h1 := (down_space.comp ((down_word partL).comp down_space)) x
      simp only
      split
      · have h2 := ((down_listR b).comp (down_has [124])) (spaceX (wordX partL (spaceX x)))
        exact ⟨Nat.le_trans h2.1 h1.1, fun h => h2.2 (h1.2 h)⟩
      · exact h1
theorem down_list : Down listX := fun x => by
  have h1 := down_must [40] x
  have h2 := down_listR ((mustX [40] x).r.length + 2) (mustX [40] x)
  have h3 := down_must [41] (listR ((mustX [40] x).r.length + 2) (mustX [40] x))
  exact ⟨Nat.le_trans h3.1 (Nat.le_trans h2.1 h1.1), fun h => h3.2 (h2.2 (h1.2 h))⟩
theorem down_kind : Down kindX := fun x => by
  unfold kindX
  split
  · exact down_list x
  · have h1 := down_word partL x
    simp only
    split
    · exact h1
    · split
      · exact h1
      · split
        · have h2 := (down_list.comp down_gap) (wordX partL x)
          exact ⟨Nat.le_trans h2.1 h1.1, fun h => h2.2 (h1.2 h)⟩
        · exact ⟨h1.1, fun _ => rfl⟩
theorem down_valY : Down valY := Down.ite (fun x => has fixedM x) (down_gap.comp (down_has fixedM)) Down.id
theorem down_val : Down valX := fun x => by
  unfold valX
  split
  · exact down_has _ x
  · split
    · exact down_has _ x
    · have h1 := down_valY x
      have h2 := down_lit (valY x)
      have h3 := down_fail (Lib.contains (litS (valY x)) [60]) (litX (valY x))
      exact ⟨Nat.le_trans h3.1 (Nat.le_trans h2.1 h1.1), fun h => h3.2 (h2.2 (h1.2 h))⟩
theorem split_nil : splitL [] = false := by decide +kernel
theorem att_down (el : List UInt8) (x : St) : (attX el x).2.r.length ≤ x.r.length ∧ ((attX el x).2.bad = false → (attX el x).2.r.length < x.r.length) := by
  have h1 := down_word splitL x
  have h2 := (down_val.comp (down_gap.comp (down_kind.comp down_gap))) (wordX splitL x)
  refine ⟨Nat.le_trans h2.1 h1.1, fun h => ?_⟩
  have h3 : (wordX splitL x).bad = false := by
    cases hb : (wordX splitL x).bad with
    | false => rfl
    | true => have := h2.2 hb; rw [show (attX el x).2 = valX (gapX (kindX (gapX (wordX splitL x)))) from rfl] at h; rw [h] at this; cases this
  exact Nat.lt_of_le_of_lt h2.1 (word_len_lt split_nil h3)
theorem atts_step {el : List UInt8} {b : Nat} {x : St} {al : List Att} (hb : mu x < b) (hx : x.bad = false) : ∃ c, b = c + 1 ∧ attsR el b x al = (if has [62] (spaceX x) = true then (hasX [62] (spaceX x), al) else attsR el c (attX el (failIf (!space x) (spaceX x))).2 (addAtt al (attX el (failIf (!space x) (spaceX x))).1)) ∧
    mu (attX el (failIf (!space x) (spaceX x))).2 < mu x ∧ mu (attX el (failIf (!space x) (spaceX x))).2 < c := by
  obtain ⟨c, rfl⟩ : ∃ c, b = c + 1 := ⟨b - 1, by omega⟩
  have h1 := att_down el (failIf (!space x) (spaceX x))
  have h2 : (failIf (!space x) (spaceX x)).r.length ≤ x.r.length := space_le x
  refine ⟨c, rfl, by rw [attsR, hx]; rfl, ?_⟩
  generalize (attX el (failIf (!space x) (spaceX x))).2 = z at h1
  unfold mu at *
  rw [hx] at hb ⊢
  simp only [Bool.false_eq_true, if_false] at *
  cases hz : z.bad with
  | true => simp only [if_true]; omega
  | false => have := h1.2 hz; simp only [Bool.false_eq_true, if_false]; omega
theorem value_any (p q : Nat) (s : ByteArray) (x : St) (nm : ByteArray) (ve va : Value) (a : Att) (w : World) (h : IsR w p s x nm ve va) (hA : IsA w q a) (hpq : p < q) (h0 : a.has = false) (h1 : a.vl = []) :
    Calls Tryd.prog 93 #[.pointer (some ⟨p, 0, none⟩), .pointer (some ⟨q, 0, none⟩)] w (StepA p q s (valX x) nm ve va ⟨a.el, a.nm, a.ty, (valS x).1, (valS x).2⟩ unitV w) := by
  cases hn : valNone x with
  | true =>
    have := value_none p q s x nm ve va a w h hA hpq hn
    have e : (⟨a.el, a.nm, a.ty, (valS x).1, (valS x).2⟩ : Att) = a := by
      obtain ⟨el, nm', ty, hs, vl⟩ := a
      simp only at h0 h1
      subst h0; subst h1
      simp [valS, hn]
    rw [e]
    exact this
  | false =>
    have := value_some p q s x nm ve va a w h hA hpq hn
    have e : valS x = (true, litS (valY x)) := by simp [valS, hn]
    rw [e]
    exact this
theorem att_end {w w1 : World} {p : Nat} {s : ByteArray} {x : St} {nm : ByteArray} {v ve : Value} {es : List Ent} {al : List Att} {o : Obj} {g n cap : Nat} (e : Att) (hI : IsR w p s x nm ve v) (hv : v.ownBlock ≠ some p) (hvb : ∀ k, v.ownBlock = some k → p ≤ k)
    (hoe : w.ownsRow p TE 3 ve es.length (cellsE es)) (hna : ve.ownBlock = none ∨ ve.ownBlock ≠ v.ownBlock) (hg : (w.alloc o).drew.grownBy w1 v.ownBlock)
    (ho : w1.ownsRow p TA 5 (.slice (some ⟨g, 0, none⟩) (n + 1) cap) (n + 1) (cellsA al ++ [.string (bs e.el), .string (bs e.nm), .int .i64 e.ty, .bool e.has, .string (bs e.vl)])) (hn : al.length = n) :
    IsD (w1.setCell ⟨p, 5, none⟩ (.slice (some ⟨g, 0, none⟩) (n + 1) cap)) p s x nm es (al ++ [e]) ∧ Below p w (w1.setCell ⟨p, 5, none⟩ (.slice (some ⟨g, 0, none⟩) (n + 1) cap)) := by
  have hb := alloc_drew_below w o
  have hI1 := (hI.below hb).grown hg hv hvb
  obtain ⟨a1, hc1⟩ := hI1.heap
  refine ⟨⟨ve, _, hI1.setAtts _, ?_, ?_⟩, row_end hI.lt hvb hg⟩
  · have h1 := (own_kept_below hoe hb).kept hg hna
    exact own_setCell h1 (own_ne h1 hc1 (by decide : (TR : Nat) ≠ TE))
  · rw [cellsA_app, List.length_append, hn]
    exact own_setCell ho (own_ne ho hc1 (by decide : (TR : Nat) ≠ TA))
/-! ### atts -/
set_option maxRecDepth 100000 in
set_option maxHeartbeats 8000000 in
theorem atts_any (p : Nat) (s : ByteArray) (x : St) (nm : ByteArray) (es : List Ent) (al : List Att) (w : World) (h : IsD w p s x nm es al) (hle : al.length + mu x ≤ 4294967296) :
    Calls Tryd.prog 73 #[.pointer (some ⟨p, 0, none⟩)] w (StepD p s (attsX x al).1 nm es (attsX x al).2 w) := by
  obtain ⟨ve, va, hI, hoe, hoa⟩ := h
  obtain ⟨a0, hc0⟩ := hI.heap
  have hpe : ve.ownBlock ≠ some p := own_ne hoe hc0 (by decide : (TR : Nat) ≠ TE)
  have hpa : va.ownBlock ≠ some p := own_ne hoa hc0 (by decide : (TR : Nat) ≠ TA)
  have hpw := hI.lt
  obtain ⟨el, hel⟩ : ∃ z, word (gapX x) = z := ⟨_, rfl⟩
  obtain ⟨z, hz⟩ : ∃ z, wordX splitL (gapX x) = z := ⟨_, rfl⟩
  have hmz : mu z ≤ mu x := by
    have := ((down_word splitL).comp down_gap) x
    simp only [hz] at this
    unfold mu
    cases hx : x.bad with
    | true => rw [this.2 hx]; simpa using this.1
    | false => have h1 := this.1; split <;> simp <;> omega
  obtain ⟨R, hR⟩ : ∃ r, attsX x al = r := ⟨_, rfl⟩
  have hR2 : attsR el (z.r.length + 2) z al = R := by rw [← hR, ← hel, ← hz]; rfl
  rw [hR]
  have HR := Lib.hid hR2
  have H1 := gap_any p s x nm ve va w hI
  have HOE := Lib.hid hoe
  have HOA := Lib.hid hoa
  have HPE := Lib.hid hpe
  have HPA := Lib.hid hpa
  have HMZ := Lib.hid hmz
  have HLE := Lib.hid hle
  clear hI hoe hoa hc0 hpe hpa hR hR2 hmz hle
  go_enter Tryd.func73, Tryd.ntmps73
  go_wp2_with fail
  refine H1.mono ?_
  clear H1
  rintro e w1 ⟨rfl, hI1, hT1⟩
  have H2 := word_split p s _ nm ve va w1 hI1 splitL DNames.split_tells
  clear hI1
  rw [hel, hz] at H2
  clear hel hz
  go_wp2_with fail
  refine H2.mono ?_
  clear H2
  rintro e w2 ⟨rfl, hI2, hT2⟩
  have hT := hT1.trans hT2
  have hD : IsD w2 p s z nm es al := ⟨ve, va, hI2, own_tn HOE.out hT HPE.out, own_tn HOA.out hT HPA.out⟩
  have HD := Lib.hid hD
  have HB := Lib.hid (hT.below (Nat.le_of_lt hpw) (Nat.le_refl p))
  clear hI2 hT1 hT2 hT hD HOE HOA HPE HPA
  go_wp2_with fail
  go_loopw [] (fun wr => ∃ (y : St) (l : List Att) (b : Nat), Hid (IsD wr p s y nm es l) ∧ Hid (Below p w wr) ∧ Hid (attsR el b y l = R) ∧ Hid (mu y < b ∧ l.length + mu y ≤ 4294967296)) (fun wr => muW p s.size wr)
  case atStart => exact ⟨z, al, z.r.length + 2, HD, HB, HR, (⟨by unfold mu; split <;> omega, by have := HMZ.out; have := HLE.out; omega⟩ : _ ∧ _)⟩
  case round =>
    obtain ⟨y, l, b, HDr, HBr, HS, HM⟩ := hrel
    obtain ⟨ve, va, hI, hoe, hoa⟩ := HDr.out
    obtain ⟨a1, hs1, ha1, hr1, c0, c1, c2, f1, f2, hpl⟩ := hI.open_
    have hmw := hI.mu
    have HMW := Lib.hid hmw
    have HIy := Lib.hid hI
    clear hs1 ha1 hr1 HD HB HR HMZ HLE hmw
    cases hb : y.bad with
    | true =>
      have hR : R = (y, l) := by
        rw [← HS.out]
        cases b with
        | zero => have := HM.out.1; omega
        | succ b => rw [attsR, hb, if_pos rfl]
      rw [hb] at c2
      have HRE := Lib.hid hR
      clear hb HS hI hoe hoa hR
      go_wp2_with fail
      go_end0
      rw [HRE.out]
      exact ⟨rfl, HDr.out, HBr.out⟩
    | false =>
      obtain ⟨c, rfl, hst, hm1, hm2⟩ := atts_step (el := el) (al := l) HM.out.1 hb
      have hst2 := HS.out
      rw [hst] at hst2
      obtain ⟨g, hg⟩ : ∃ v, space y = v := ⟨_, rfl⟩
      obtain ⟨Y, hY⟩ : ∃ v, spaceX y = v := ⟨_, rfl⟩
      have hYb : Y.bad = false := by rw [← hY, space_bad, hb]
      rw [hg, hY] at hst2 hm1 hm2
      have H2 := space_any p s y nm ve va wr hI
      rw [hg, hY] at H2
      rw [hb] at c2
      have HOE := Lib.hid hoe
      have HOA := Lib.hid hoa
      obtain ⟨a2, hc2⟩ := hI.heap
      have HPE := Lib.hid (own_ne hoe hc2 (by decide : (TR : Nat) ≠ TE))
      have HPA := Lib.hid (own_ne hoa hc2 (by decide : (TR : Nat) ≠ TA))
      have HST := Lib.hid hst2
      have HM1 := Lib.hid hm1
      have HM2 := Lib.hid hm2
      have HYB := Lib.hid hYb
      clear hb hst hst2 hg hY hoe hoa hc2 hm1 hm2 hI HS hYb
      go_wp2_with fail
      refine H2.mono ?_
      clear H2
      rintro e w3 ⟨rfl, hI3, hT3⟩
      have H3 := has_any p s Y nm ve va ⟨#[62]⟩ w3 hI3
      rw [show (⟨#[62]⟩ : ByteArray).data.toList = [62] from rfl] at H3
      have HT3 := Lib.hid hT3
      clear hI3 hT3 c0 c1 c2 f1 f2
      cases hx : has [62] Y with
      | true =>
        have hR : R = (hasX [62] Y, l) := by have := HST.out; rw [hx, if_pos rfl] at this; exact this.symm
        rw [hx] at H3
        have HRE := Lib.hid hR
        clear hx HST hR
        go_wp2_with fail
        refine H3.mono ?_
        clear H3
        rintro e w4 ⟨rfl, hI4, hT4⟩
        have hT := HT3.out.trans hT4
        have h1 := own_tn HOE.out hT HPE.out
        have h2 := own_tn HOA.out hT HPA.out
        go_wp2_with fail
        refine bodyPost_ret (results_none rfl _ _ _) rfl ?_
        rw [HRE.out]
        exact ⟨rfl, ⟨ve, va, hI4, h1, h2⟩, HBr.out.trans (hT.below (Nat.le_of_lt hpl) (Nat.le_refl p))⟩
      | false =>
        have hst3 := HST.out
        rw [hx, if_neg (by decide)] at hst3
        have e0 : hasX [62] Y = Y := by simp [hasX, hx]
        rw [hx, e0] at H3
        have HS := Lib.hid hst3
        clear hx e0 hst3 HST
        go_wp2_with fail
        refine H3.mono ?_
        clear H3
        rintro e w4 ⟨rfl, hI4, hT4⟩
        obtain ⟨a4, _, _, _, c0, c1, c2, f1, f2, hp4⟩ := hI4.open_
        rw [HYB.out] at c2
        have hI5 := hI4.setBad (!g)
        have hZ : (⟨Y.r, !g⟩ : St) = failIf (!g) Y := by unfold failIf; rw [HYB.out]; rfl
        rw [hZ] at hI5
        have HT5 := Lib.hid ((HT3.out.trans hT4).set 2 (.bool !g))
        have HI5 := Lib.hid hI5
        clear hI4 hT4 HT3 hI5 hZ
        obtain ⟨Z, hZ⟩ : ∃ v, failIf (!g) Y = v := ⟨_, rfl⟩
        rw [hZ] at HI5 HS HM1 HM2
        clear hZ
        obtain ⟨w5, hw5⟩ : ∃ v, w4.setCell ⟨p, 2, none⟩ (.bool !g) = v := ⟨_, rfl⟩
        have HW5 := Lib.hid hw5
        rw [hw5] at HT5 HI5
        clear hw5
        go_upto_region 6 with (fail)
        rw [HW5.out]
        clear c0 c1 c2 f1 f2 HW5 hp4
        have H6 := word_split p s Z nm ve va w5 HI5.out splitL DNames.split_tells
        obtain ⟨NM, hNM⟩ : ∃ v, word Z = v := ⟨_, rfl⟩
        obtain ⟨Y1, hY1⟩ : ∃ v, wordX splitL Z = v := ⟨_, rfl⟩
        have hAX : attX el Z = (⟨el, NM, kind (gapX Y1), (valS (gapX (kindX (gapX Y1)))).1, (valS (gapX (kindX (gapX Y1)))).2⟩, valX (gapX (kindX (gapX Y1)))) := by rw [← hNM, ← hY1]; rfl
        rw [hNM, hY1] at H6
        rw [hAX] at HS HM1 HM2
        clear HI5 hNM hY1 hAX
        go_wp2_with fail
        refine H6.mono ?_
        clear H6
        rintro e w6 ⟨rfl, hI6, hT6⟩
        go_upto_region 7 with (fail)
        obtain ⟨o7, ho7⟩ : ∃ o : Obj, o = .cells #[.string (bs el), .string (bs NM), .int .i64 0, .bool false, .string ⟨#[]⟩] TA := ⟨_, rfl⟩
        have hI7 := hI6.alloc o7
        have hT7 := (HT5.out.trans hT6).trans (Tn.of_below (p := p) ((Below.refl w6.heap.size w6).alloc (Nat.le_refl _) o7))
        have hA7 : IsA (w6.alloc o7) w6.heap.size ⟨el, NM, 0, false, []⟩ := by rw [ho7]; exact heap_alloc_new w6 _
        have hpq : p < w6.heap.size := hI6.lt
        have hqw : wr.heap.size ≤ w6.heap.size := (HT5.out.trans hT6).size
        rw [← ho7]
        obtain ⟨q, hq⟩ : ∃ q, w6.heap.size = q := ⟨_, rfl⟩
        obtain ⟨w7, hw7⟩ : ∃ v, w6.alloc o7 = v := ⟨_, rfl⟩
        rw [hw7] at hI7 hT7 hA7 ⊢
        rw [hq] at hA7 hpq hqw ⊢
        have HT7 := Lib.hid hT7
        have HA7 := Lib.hid hA7
        have HQW := Lib.hid hqw
        have HPQ := Lib.hid hpq
        clear hI6 hT6 HT5 hT7 hA7 hqw hpq hw7 hq ho7
        have H7 := gap_any p s Y1 nm ve va w7 hI7
        generalize gapX Y1 = Y2 at H7 HS HM1 HM2
        clear hI7
        go_wp2_with fail
        refine H7.mono ?_
        clear H7
        rintro e w8 ⟨rfl, hI8, hT8⟩
        have H8 := kind_any p s Y2 nm ve va w8 hI8
        have HA8 := Lib.hid (HA7.out.tn hT8 HPQ.out)
        have HT8 := Lib.hid (HT7.out.trans hT8)
        obtain ⟨K, hK⟩ : ∃ v, kind Y2 = v := ⟨_, rfl⟩
        obtain ⟨Y3, hY3⟩ : ∃ v, kindX Y2 = v := ⟨_, rfl⟩
        rw [hK, hY3] at H8
        rw [hK, hY3] at HS
        rw [hY3] at HM1 HM2
        clear hI8 hT8 HA7 HT7 hK hY3
        go_wp2_with fail
        refine H8.mono ?_
        clear H8
        rintro e w9 ⟨rfl, hI9, hT9⟩
        have hA9 := HA8.out.tn hT9 HPQ.out
        obtain ⟨b0, b1, b2, b3, b4, z2, z3, z4, hql⟩ := hA9.open_
        have HA10 := Lib.hid (hA9.set2 K)
        have HI10 := Lib.hid (hI9.far HPQ.out 2 (.int .i64 K))
        have HT10 := Lib.hid ((Tn2.of_tn (q := q) (HT8.out.trans hT9)).setq 2 (.int .i64 K))
        clear hA9 hI9 hT9 HA8 HT8
        obtain ⟨w10, hw10⟩ : ∃ v, w9.setCell ⟨q, 2, none⟩ (.int .i64 K) = v := ⟨_, rfl⟩
        have HW10 := Lib.hid hw10
        rw [hw10] at HA10 HI10 HT10
        clear hw10
        go_upto_region 9 with (fail)
        rw [HW10.out]
        clear b0 b1 b2 b3 b4 z2 z3 z4 hql HW10
        have H9 := gap_any p s Y3 nm ve va w10 HI10.out
        generalize gapX Y3 = Y4 at H9 HS HM1 HM2
        clear HI10
        go_wp2_with fail
        refine H9.mono ?_
        clear H9
        rintro e w11 ⟨rfl, hI11, hT11⟩
        have hA11 := HA10.out.tn hT11 HPQ.out
        have HT11 := Lib.hid (HT10.out.trans (.of_tn hT11))
        have H10 := value_any p q s Y4 nm ve va ⟨el, NM, K, false, []⟩ w11 hI11 hA11 HPQ.out rfl rfl
        obtain ⟨HAS, hHAS⟩ : ∃ v, (valS Y4).1 = v := ⟨_, rfl⟩
        obtain ⟨VL, hVL⟩ : ∃ v, (valS Y4).2 = v := ⟨_, rfl⟩
        obtain ⟨Y5, hY5⟩ : ∃ v, valX Y4 = v := ⟨_, rfl⟩
        rw [hHAS, hVL, hY5] at H10
        rw [hHAS, hVL, hY5] at HS
        rw [hY5] at HM1 HM2
        simp only at H10
        clear hI11 hT11 hA11 HA10 HT10 hHAS hVL hY5
        go_wp2_with fail
        refine H10.mono ?_
        clear H10
        rintro e w12 ⟨rfl, hI12, hA12, hT12⟩
        have hT := HT11.out.trans hT12
        have hoe := own_tn2 HOE.out hT HPE.out HQW.out
        have hoa := own_tn2 HOA.out hT HPA.out HQW.out
        obtain ⟨r4, r5, s4, s5⟩ := hI12.rows
        obtain ⟨b0, b1, b2, b3, b4, _, _, _, hql⟩ := hA12.open_
        obtain ⟨A, cap, rfl, hC⟩ := cellsAtA_of_own hoa rfl
        have hll : l.length ≤ 4294967296 := by have := HM.out.2; omega
        have HCF := containsA_any ⟨el, NM, K, HAS, VL⟩ q A cap l w12 hC (by omega) b0 b1 hql
        have hadd := addAtt_eq l ⟨el, NM, K, HAS, VL⟩
        have HT12 := Lib.hid hT
        have HI12 := Lib.hid hI12
        have HA12 := Lib.hid hA12
        have HOE2 := Lib.hid hoe
        have HOA2 := Lib.hid hoa
        have hp12 := hI12.lt
        generalize l.any (sameA ⟨el, NM, K, HAS, VL⟩) = dup at HCF hadd
        rw [hadd] at HS
        clear hC hI12 hT12 hA12 hT hoe hoa hadd HT11
        go_wp2_with fail
        refine HCF.mono ?_
        clear HCF
        rintro e w13 ⟨rfl, hb13⟩
        have HI13 := Lib.hid (HI12.out.below hb13)
        have HOE3 := Lib.hid (own_kept_below HOE2.out hb13)
        have hoa3 := own_kept_below HOA2.out hb13
        have HB13 := Lib.hid (HBr.out.trans ((HT12.out.below (Nat.le_of_lt hpl) HPQ.out).trans (hb13.mono (Nat.le_of_lt hp12))))
        have k5 := (hb13.cell (p := ⟨p, 5, none⟩) hp12).trans r5
        have z5 := (hb13.frozen (p := ⟨p, 5, none⟩) hp12).trans s5
        have k0 := (hb13.cell (p := ⟨q, 0, none⟩) hql).trans b0
        have k1 := (hb13.cell (p := ⟨q, 1, none⟩) hql).trans b1
        have k2 := (hb13.cell (p := ⟨q, 2, none⟩) hql).trans b2
        have k3 := (hb13.cell (p := ⟨q, 3, none⟩) hql).trans b3
        have k4 := (hb13.cell (p := ⟨q, 4, none⟩) hql).trans b4
        have hpz : p < w13.heap.size := Nat.lt_of_lt_of_le hp12 hb13.size
        have hqz : q < w13.heap.size := Nat.lt_of_lt_of_le hql hb13.size
        obtain ⟨a13, hc13⟩ := HI13.out.heap
        have ap : (Value.slice A l.length cap).ownBlock ≠ some p := own_ne hoa3 hc13 (by decide : (TR : Nat) ≠ TA)
        have hpe := own_ne HOE3.out hc13 (by decide : (TR : Nat) ≠ TE)
        have hna := own_two HOE3.out hoa3 (by decide : (TA : Nat) ≠ TE)
        have HPE3 := Lib.hid hpe
        have HNA := Lib.hid hna
        clear r4 r5 s4 s5 b0 b1 b2 b3 b4 hb13 HI12 HA12 HOE2 HOA2 HT12 hc13 hpe hna
        cases dup
        · have HS2 : Hid (attsR el c Y5 (l ++ [⟨el, NM, K, HAS, VL⟩]) = R) := by have := HS.out; rw [if_neg (by decide)] at this; exact this
          obtain ⟨i0, hi0, hz0, hz1, hz2⟩ := info_parts infoT
          generalize hn : l.length = n at hoa3 k5 ap
          have hle' : n ≤ 4294967296 := by rw [← hn]; exact hll
          have HN := Lib.hid hn
          have h63 : n + 1 ≤ maxLen := by unfold maxLen; omega
          have hby : (n + 1) * 64 ≤ 140737488355328 := by omega
          clear hn hll HS
          go_upto_region 12 with (fail)
          go_region_law
            ((refine step_append_lies _ (by rfl) _ _ _ (by rfl) p TA i0 _ 5 64 Tryd.underlying46 hi0 hz0 hz1 hz2 rfl (by omega) (.slice A n cap) n (cellsA l) (by rfl) ((hoa3.alloc _).drew)
                ⟨w13.heap.size, 0, none⟩ 1 1 [.string (bs el), .string (bs NM), .int .i64 K, .bool HAS, .string (bs VL)] (by rfl) (by rfl) (World.news_of_block (cs := #[.string (bs el), .string (bs NM), .int .i64 K, .bool HAS, .string (bs VL)]) (t := TA) (fr := (0, 0)) (heap_alloc_new w13 _)) (by simp [Value.oneCell'])
                (by omega) h63 hby (by simp; omega) (w13.heap.size + 1) (by simp) ?_; intro gg cap' w14 hown1 hgrow hat hlt; have k6 := (hgrow.cell_far ⟨p, 5, none⟩ (by simp; omega) (Ne.symm ap)).trans (cell_ad hpz k5); have z6 := (hgrow.frozen_far ⟨p, 5, none⟩ (by simp; omega) (Ne.symm ap)).trans (frozen_ad hpz z5)))
          all_goals
            have hI := HI13.out
            rw [HN.out] at hI
            have hna := HNA.out
            rw [HN.out] at hna
            obtain ⟨h1, h2⟩ := att_end ⟨el, NM, K, HAS, VL⟩ hI ap (fun k hk => (hoa3.lt k hk).1) HOE3.out hna hgrow hown1 HN.out
            have hmu1 : muW p s.size (w14.setCell ⟨p, 5, none⟩ (.slice (some ⟨gg, 0, none⟩) (n + 1) cap')) = mu Y5 := by
              obtain ⟨_, _, hh, _, _⟩ := h1
              exact hh.mu
            have H1 := Lib.hid h1
            have H2 := Lib.hid h2
            have HMU := Lib.hid hmu1
            clear hI hna h1 h2 hmu1
            go_wp2_with fail
            refine ⟨⟨Y5, l ++ [⟨el, NM, K, HAS, VL⟩], c, H1, HB13.out.trans H2.out, HS2, ?_⟩, ?_⟩
            · have h1 := HM.out.2
              have h2 := HM1.out
              have h3 := HM2.out
              show mu Y5 < c ∧ (l ++ [(⟨el, NM, K, HAS, VL⟩ : Att)]).length + mu Y5 ≤ 4294967296
              rw [List.length_append, List.length_singleton]
              omega
            · rw [HMU.out, HMW.out]; exact HM1.out
        · have HS2 : Hid (attsR el c Y5 l = R) := by have := HS.out; rw [if_pos rfl] at this; exact this
          clear HS
          go_wp2_with fail
          go_roundw
          case rel => exact ⟨Y5, l, c, ⟨ve, _, HI13.out, HOE3.out, hoa3⟩, HB13, HS2, (⟨HM2.out, by have := HM.out.2; have := HM1.out; omega⟩ : _ ∧ _)⟩
          case measure => rw [HI13.out.mu, HMW.out]; exact HM1.out
end Go.Proofs.YtmjdjpelhhibgaaDoor.DA
