/- The contracts of the package of what stands ahead: what is declared, one behind the other. -/
import Derived.Test.YtmjdjpelhhibgaaDoorDA14
namespace Go.Proofs.YtmjdjpelhhibgaaDoor.DA
open Go.RowKit Go.Proofs.YtmjdjpelhhibgaaDoor.Ow Go.Proofs.YtmjdjpelhhibgaaDoor.DS Go.Proofs.YtmjdjpelhhibgaaDoor.Spec Go.Proofs.YtmjdjpelhhibgaaDoor.Giv
set_option linter.unusedVariables false
set_option linter.unusedSimpArgs false
theorem down_ext : Down externalX := fun x => by
  unfold externalX
  split
  · exact (down_lit.comp (down_gap.comp (down_has systemM))) x
  · split
    · exact (down_lit.comp (down_gap.comp (down_lit.comp (down_gap.comp (down_has publicM))))) x
    · exact ⟨Nat.le_refl _, fun h => h⟩
theorem down_entZ : Down fun y => (entZ y).2.2 := fun x => by
  show (entZ x).2.2.r.length ≤ _ ∧ (_ → (entZ x).2.2.bad = true)
  unfold entZ
  split
  · exact down_ext x
  · exact ((down_fail _).comp down_lit) x
theorem down_entN (b : Bool) : Down (entN b) := fun x => by
  unfold entN
  split
  · exact (down_space.comp ((down_word ncL).comp (down_gap.comp ((down_has ndataM).comp down_space)))) x
  · exact down_space x
theorem down_ent : Down fun x => (entX x).2 := fun x => by
  show (entX x).2.r.length ≤ _ ∧ (_ → (entX x).2.bad = true)
  rw [entX_eq]
  have h1 := (down_gap.comp ((down_word ncL).comp down_gap)) x
  have h2 := down_entZ (entA x)
  have h3 := ((down_must [62]).comp (down_entN (entZ (entA x)).1)) (entZ (entA x)).2.2
  exact ⟨Nat.le_trans h3.1 (Nat.le_trans h2.1 h1.1), fun h => h3.2 (h2.2 (h1.2 h))⟩
theorem down_attsR (el : List UInt8) : ∀ (b : Nat) (x : St) (al : List Att), (attsR el b x al).1.r.length ≤ x.r.length ∧ (x.bad = true → (attsR el b x al).1.bad = true)
  | 0, x, al => ⟨Nat.le_refl _, fun h => h⟩
  | b + 1, x, al => by
    unfold attsR
    split
    · exact ⟨Nat.le_refl _, fun h => h⟩
    · rename_i hx
      simp only
      split
      · exact ((down_has [62]).comp down_space) x
      · have h1 := down_attsR el b (attX el (failIf (!space x) (spaceX x))).2 (addAtt al (attX el (failIf (!space x) (spaceX x))).1)
        have h2 := att_down el (failIf (!space x) (spaceX x))
        have h3 : (failIf (!space x) (spaceX x)).r.length ≤ x.r.length := space_le x
        exact ⟨Nat.le_trans h1.1 (Nat.le_trans h2.1 h3), fun h => absurd h hx⟩
theorem down_atts (al : List Att) : Down fun x => (attsX x al).1 := fun x => by
  have h1 := ((down_word splitL).comp down_gap) x
  have h2 := down_attsR (word (gapX x)) ((wordX splitL (gapX x)).r.length + 2) (wordX splitL (gapX x)) al
  exact ⟨Nat.le_trans h2.1 h1.1, fun h => h2.2 (h1.2 h)⟩
theorem len_attsR (el : List UInt8) : ∀ (b : Nat) (x : St) (al : List Att), mu x < b → (attsR el b x al).2.length + mu (attsR el b x al).1 ≤ al.length + mu x
  | 0, x, al, h => by omega
  | b + 1, x, al, h => by
    cases hx : x.bad with
    | true => rw [attsR, hx, if_pos rfl]; exact Nat.le_refl _
    | false =>
      obtain ⟨c, hc, hst, h1, h2⟩ := atts_step (el := el) (al := al) h hx
      obtain rfl : c = b := by omega
      rw [hst]
      split
      · have := ((down_has [62]).comp down_space) x
        unfold mu
        rw [show (hasX [62] (spaceX x)).bad = false by rw [has_bad, space_bad, hx], hx]
        simp only [Bool.false_eq_true, if_false]
        have := this.1
        simp only at this
        omega
      · have h3 := len_attsR el c _ (addAtt al (attX el (failIf (!space x) (spaceX x))).1) h2
        have h4 : (addAtt al (attX el (failIf (!space x) (spaceX x))).1).length ≤ al.length + 1 := by unfold addAtt; split <;> simp
        omega
theorem len_atts (x : St) (al : List Att) : (attsX x al).2.length + mu (attsX x al).1 ≤ al.length + mu x := by
  have h1 := ((down_word splitL).comp down_gap) x
  have h2 := len_attsR (word (gapX x)) ((wordX splitL (gapX x)).r.length + 2) (wordX splitL (gapX x)) al (by unfold mu; split <;> omega)
  have h3 : mu (wordX splitL (gapX x)) ≤ mu x := by
    unfold mu
    cases hx : x.bad with
    | true => rw [h1.2 hx]; simpa using h1.1
    | false => have := h1.1; simp only at this; split <;> simp <;> omega
  exact Nat.le_trans h2 (by omega)
theorem mu_of {f : St → St} (hf : Down f) (x : St) : mu (f x) ≤ mu x := by
  have h := hf x
  unfold mu
  cases hx : x.bad with
  | true => rw [h.2 hx]; simpa using h.1
  | false => have := h.1; split <;> simp <;> omega
theorem mu_has {m : List UInt8} {x : St} (h : has m x = true) (hm : 0 < m.length) : mu (hasX m x) < mu x := by
  have h1 := has_lt h hm
  unfold mu
  rw [has_bad]
  omega
theorem D_of {F : Nat} {args : Array Value} {w : World} {p : Nat} {s : ByteArray} {x x' : St} {nm : ByteArray} {es : List Ent} {al : List Att} {v : Value} (h : IsD w p s x nm es al)
    (H : ∀ ve va, IsR w p s x nm ve va → Calls Tryd.prog F args w (Step p s x' nm ve va v w)) :
    Calls Tryd.prog F args w fun e w' => e = .returned v ∧ IsD w' p s x' nm es al ∧ Tn p w w' := by
  obtain ⟨ve, va, hI, hoe, hoa⟩ := h
  obtain ⟨a, hc⟩ := hI.heap
  refine (H ve va hI).mono ?_
  rintro e w' ⟨rfl, h1, hT⟩
  exact ⟨rfl, ⟨ve, va, h1, own_tn hoe hT (own_ne hoe hc (by decide : (TR : Nat) ≠ TE)), own_tn hoa hT (own_ne hoa hc (by decide : (TR : Nat) ≠ TA))⟩, hT⟩
theorem IsD.mu {w : World} {p : Nat} {s : ByteArray} {x : St} {nm : ByteArray} {es : List Ent} {al : List Att} (h : IsD w p s x nm es al) : muW p s.size w = DA.mu x := by
  obtain ⟨_, _, hI, _, _⟩ := h
  exact hI.mu
theorem IsD.lt {w : World} {p : Nat} {s : ByteArray} {x : St} {nm : ByteArray} {es : List Ent} {al : List Att} (h : IsD w p s x nm es al) : p < w.heap.size := by
  obtain ⟨_, _, hI, _, _⟩ := h
  exact hI.lt
theorem IsD.bad {w : World} {p : Nat} {s : ByteArray} {x : St} {nm : ByteArray} {es : List Ent} {al : List Att} (h : IsD w p s x nm es al) : w.cell? ⟨p, 2, none⟩ = some (.bool x.bad) := by
  obtain ⟨_, _, hI, _, _⟩ := h
  obtain ⟨a, _, _, _, c0, c1, c2, _⟩ := hI.open_
  exact c2
/-! ### subset -/
theorem sub_step {b : Nat} {y : St} {es : List Ent} {al : List Att} {R : St × List Ent × List Att} (h : subR (b + 1) y es al = some R) (hb : y.bad = false) :
    (has [93] (spaceX y) = true → R = (hasX [93] (spaceX y), es, al)) ∧
    (has [93] (spaceX y) = false → has entityM (spaceX y) = true → subR b (entX (hasX entityM (spaceX y))).2 (addEnt es (entX (hasX entityM (spaceX y))).1) al = some R) ∧
    (has [93] (spaceX y) = false → has entityM (spaceX y) = false → has attlistM (spaceX y) = true → subR b (attsX (hasX attlistM (spaceX y)) al).1 es (attsX (hasX attlistM (spaceX y)) al).2 = some R) ∧
    (has [93] (spaceX y) = false → has entityM (spaceX y) = false → has attlistM (spaceX y) = false → has elementM (spaceX y) = false ∧ has notnM (spaceX y) = false ∧ (spaceX y).r = pctM ∧ subR b ⟨(spaceX y).r, true⟩ es al = some R) := by
  rw [subR, hb, if_neg (by decide)] at h
  simp only at h
  cases h1 : has [93] (spaceX y) with
  | true => rw [h1, if_pos rfl] at h; exact ⟨fun _ => (Option.some.inj h).symm, fun h => (by cases h), fun h => (by cases h), fun h => (by cases h)⟩
  | false =>
    rw [h1, if_neg (by decide)] at h
    cases h2 : has entityM (spaceX y) with
    | true => rw [h2, if_pos rfl] at h; exact ⟨fun h => (by cases h), fun _ _ => h, fun _ h => (by cases h), fun _ h => (by cases h)⟩
    | false =>
      rw [h2, if_neg (by decide)] at h
      cases h3 : has attlistM (spaceX y) with
      | true => rw [h3, if_pos rfl] at h; exact ⟨fun h => (by cases h), fun _ h => (by cases h), fun _ _ _ => h, fun _ _ h => (by cases h)⟩
      | false =>
        rw [h3, if_neg (by decide)] at h
        refine ⟨fun h => (by cases h), fun _ h => (by cases h), fun _ _ h => (by cases h), fun _ _ _ => ?_⟩
        cases h4 : (has elementM (spaceX y) || has notnM (spaceX y)) with
        | true => rw [h4, if_pos rfl] at h; cases h
        | false =>
          rw [h4, if_neg (by decide)] at h
          rw [Bool.or_eq_false_iff] at h4
          split at h
          · rename_i h5
            exact ⟨h4.1, h4.2, by simpa using h5, h⟩
          · cases h
set_option maxRecDepth 100000 in
set_option maxHeartbeats 8000000 in
theorem subset_any (p : Nat) (s : ByteArray) (x : St) (nm : ByteArray) (es : List Ent) (al : List Att) (b0 : Nat) (R : St × List Ent × List Att) (w : World) (h : IsD w p s x nm es al) (hR : subR b0 x es al = some R) (hb0 : mu x < b0) (hle : es.length + al.length + mu x ≤ 4294967296) :
    Calls Tryd.prog 41 #[.pointer (some ⟨p, 0, none⟩)] w (StepD p s R.1 nm R.2.1 R.2.2 w) := by
  have hpw := h.lt
  have HD := Lib.hid h
  have HR := Lib.hid hR
  have HM := Lib.hid (And.intro hb0 hle)
  clear h hR hb0 hle
  go_enter Tryd.func41, Tryd.ntmps41
  go_wp2_with fail
  go_loopw [] (fun wr => ∃ (y : St) (e1 : List Ent) (l1 : List Att) (b : Nat), Hid (IsD wr p s y nm e1 l1) ∧ Hid (Below p w wr) ∧ Hid (subR b y e1 l1 = some R) ∧ Hid (mu y < b ∧ e1.length + l1.length + mu y ≤ 4294967296)) (fun wr => muW p s.size wr)
  case atStart => exact ⟨x, es, al, b0, HD, Below.refl _ _, HR, HM⟩
  case round =>
    obtain ⟨y, e1, l1, b, HDr, HBr, HS, HMr⟩ := hrel
    have c2 := HDr.out.bad
    have hmw := HDr.out.mu
    have HMW := Lib.hid hmw
    have hpl := HDr.out.lt
    clear hmw HD HR HM
    obtain ⟨b, rfl⟩ : ∃ c, b = c + 1 := ⟨b - 1, by have := HMr.out.1; omega⟩
    cases hb : y.bad with
    | true =>
      have hR : R = (y, e1, l1) := by have := HS.out; rw [subR, hb, if_pos rfl] at this; exact (Option.some.inj this).symm
      rw [hb] at c2
      have HRE := Lib.hid hR
      clear hb HS hR
      go_wp2_with fail
      go_end0
      rw [HRE.out]
      exact ⟨rfl, HDr.out, HBr.out⟩
    | false =>
      obtain ⟨t1, t2, t3, t4⟩ := sub_step HS.out hb
      rw [hb] at c2
      have hmY : mu (spaceX y) ≤ mu y := mu_of down_space y
      have hYb : (spaceX y).bad = false := by rw [space_bad, hb]
      have H2 := D_of HDr.out (fun ve va hI => space_any p s y nm ve va wr hI)
      generalize spaceX y = Y at H2 t1 t2 t3 t4 hmY hYb
      have T1 := Lib.hid t1
      have T2 := Lib.hid t2
      have T3 := Lib.hid t3
      have T4 := Lib.hid t4
      have HMY := Lib.hid hmY
      have HYB := Lib.hid hYb
      clear hb HS t1 t2 t3 t4 hmY hYb
      go_wp2_with fail
      refine H2.mono ?_
      clear H2
      rintro e w3 ⟨rfl, hD3, hT3⟩
      have H3 := D_of hD3 (fun ve va hI => has_any p s Y nm ve va ⟨#[93]⟩ w3 hI)
      rw [show (⟨#[93]⟩ : ByteArray).data.toList = [93] from rfl] at H3
      have HT3 := Lib.hid hT3
      clear hD3 hT3 c2
      cases k1 : has [93] Y with
      | true =>
        rw [k1] at H3
        have HRE := Lib.hid (T1.out k1)
        clear T1 T2 T3 T4 k1
        go_wp2_with fail
        refine H3.mono ?_
        clear H3
        rintro e w4 ⟨rfl, hD4, hT4⟩
        go_wp2_with fail
        refine bodyPost_ret (results_none rfl _ _ _) rfl ?_
        rw [HRE.out]
        exact ⟨rfl, hD4, HBr.out.trans ((HT3.out.trans hT4).below (Nat.le_of_lt hpl) (Nat.le_refl p))⟩
      | false =>
        have e0 : hasX [93] Y = Y := by simp [hasX, k1]
        rw [k1, e0] at H3
        have T2' := Lib.hid (T2.out k1)
        have T3' := Lib.hid (T3.out k1)
        have T4' := Lib.hid (T4.out k1)
        clear T1 T2 T3 T4 k1 e0
        go_wp2_with fail
        refine H3.mono ?_
        clear H3
        rintro e w4 ⟨rfl, hD4, hT4⟩
        have H4 := D_of hD4 (fun ve va hI => has_any p s Y nm ve va ⟨#[60, 33, 69, 78, 84, 73, 84, 89]⟩ w4 hI)
        rw [show (⟨#[60, 33, 69, 78, 84, 73, 84, 89]⟩ : ByteArray).data.toList = entityM from rfl] at H4
        have HT4 := Lib.hid (HT3.out.trans hT4)
        clear hD4 hT4 HT3
        cases k2 : has entityM Y with
        | true =>
          rw [k2] at H4
          have HS2 := Lib.hid (T2'.out k2)
          have hmu2 := mu_has k2 (by decide)
          have HMU2 := Lib.hid hmu2
          clear T2' T3' T4' k2 hmu2
          generalize hasX entityM Y = Q at H4 HS2 HMU2
          go_wp2_with fail
          refine H4.mono ?_
          clear H4
          rintro e w5 ⟨rfl, hD5, hT5⟩
          have H5 := entity_any p s Q nm e1 l1 w5 hD5 (by have := HMr.out.2; omega)
          have hmu3 : mu (entX Q).2 ≤ mu Q := mu_of down_ent Q
          have hln : (addEnt e1 (entX Q).1).length ≤ e1.length + 1 := by unfold addEnt; split <;> simp
          have HMU3 := Lib.hid hmu3
          have HLN := Lib.hid hln
          have HT5 := Lib.hid (HT4.out.trans hT5)
          clear hD5 hT5 HT4 hmu3 hln
          generalize (entX Q).2 = Q2 at H5 HS2 HMU3
          generalize addEnt e1 (entX Q).1 = e2 at H5 HS2 HLN
          go_wp2_with fail
          refine H5.mono ?_
          clear H5
          rintro e w6 ⟨rfl, hD6, hb6⟩
          have HD6 := Lib.hid hD6
          have HB6 := Lib.hid (HBr.out.trans ((HT5.out.below (Nat.le_of_lt hpl) (Nat.le_refl p)).trans hb6))
          clear hD6 hb6
          go_wp2_with fail
          go_roundw
          case rel => exact ⟨Q2, e2, l1, b, HD6, HB6, HS2, (⟨by have := HMr.out.1; have := HMU3.out; have := HMU2.out; have := HMY.out; omega, by have := HMr.out.2; have := HMU3.out; have := HMU2.out; have := HMY.out; have := HLN.out; omega⟩ : _ ∧ _)⟩
          case measure => rw [HD6.out.mu, HMW.out]; have := HMU3.out; have := HMU2.out; have := HMY.out; omega
        | false =>
          have e0 : hasX entityM Y = Y := by simp [hasX, k2]
          rw [k2, e0] at H4
          have T3 := Lib.hid (T3'.out k2)
          have T4 := Lib.hid (T4'.out k2)
          clear T2' T3' T4' k2 e0
          go_wp2_with fail
          refine H4.mono ?_
          clear H4
          rintro e w5 ⟨rfl, hD5, hT5⟩
          have H5 := D_of hD5 (fun ve va hI => has_any p s Y nm ve va ⟨#[60, 33, 65, 84, 84, 76, 73, 83, 84]⟩ w5 hI)
          rw [show (⟨#[60, 33, 65, 84, 84, 76, 73, 83, 84]⟩ : ByteArray).data.toList = attlistM from rfl] at H5
          have HT5 := Lib.hid (HT4.out.trans hT5)
          clear hD5 hT5 HT4
          cases k3 : has attlistM Y with
          | true =>
            rw [k3] at H5
            have HS2 := Lib.hid (T3.out k3)
            have hmu2 := mu_has k3 (by decide)
            have HMU2 := Lib.hid hmu2
            clear T3 T4 k3 hmu2
            generalize hasX attlistM Y = Q at H5 HS2 HMU2
            go_wp2_with fail
            refine H5.mono ?_
            clear H5
            rintro e w6 ⟨rfl, hD6, hT6⟩
            have H6 := atts_any p s Q nm e1 l1 w6 hD6 (by have := HMr.out.2; have := HMU2.out; have := HMY.out; omega)
            have hmu3 : mu (attsX Q l1).1 ≤ mu Q := mu_of (down_atts l1) Q
            have hln := len_atts Q l1
            have HMU3 := Lib.hid hmu3
            have HLN := Lib.hid hln
            have HT6 := Lib.hid (HT5.out.trans hT6)
            clear hD6 hT6 HT5 hmu3 hln
            generalize attsX Q l1 = A at H6 HS2 HMU3 HLN
            obtain ⟨Q2, l2⟩ := A
            simp only at H6 HS2 HMU3 HLN
            go_wp2_with fail
            refine H6.mono ?_
            clear H6
            rintro e w7 ⟨rfl, hD7, hb7⟩
            have HD7 := Lib.hid hD7
            have HB7 := Lib.hid (HBr.out.trans ((HT6.out.below (Nat.le_of_lt hpl) (Nat.le_refl p)).trans hb7))
            clear hD7 hb7
            go_wp2_with fail
            go_roundw
            case rel => exact ⟨Q2, e1, l2, b, HD7, HB7, HS2, (⟨by have := HMr.out.1; have := HMU3.out; have := HMU2.out; have := HMY.out; omega, by have := HMr.out.2; have := HLN.out; have := HMU2.out; have := HMY.out; omega⟩ : _ ∧ _)⟩
            case measure => rw [HD7.out.mu, HMW.out]; have := HMU3.out; have := HMU2.out; have := HMY.out; omega
          | false =>
            have e0 : hasX attlistM Y = Y := by simp [hasX, k3]
            rw [k3, e0] at H5
            obtain ⟨k4, k5, k6, k7⟩ := T4.out k3
            have e4 : hasX elementM Y = Y := by simp [hasX, k4]
            have e5 : hasX notnM Y = Y := by simp [hasX, k5]
            have HS2 := Lib.hid k7
            have HPC := Lib.hid k6
            clear T3 T4 k3 e0 k6 k7
            go_wp2_with fail
            refine H5.mono ?_
            clear H5
            rintro e w6 ⟨rfl, hD6, hT6⟩
            have H6 := D_of hD6 (fun ve va hI => has_any p s Y nm ve va ⟨#[60, 33, 69, 76, 69, 77, 69, 78, 84]⟩ w6 hI)
            rw [show (⟨#[60, 33, 69, 76, 69, 77, 69, 78, 84]⟩ : ByteArray).data.toList = elementM from rfl, k4, e4] at H6
            have HT6 := Lib.hid (HT5.out.trans hT6)
            clear hD6 hT6 HT5 k4 e4
            go_wp2_with fail
            refine H6.mono ?_
            clear H6
            rintro e w7 ⟨rfl, hD7, hT7⟩
            have H7 := D_of hD7 (fun ve va hI => has_any p s Y nm ve va ⟨#[60, 33, 78, 79, 84, 65, 84, 73, 79, 78]⟩ w7 hI)
            rw [show (⟨#[60, 33, 78, 79, 84, 65, 84, 73, 79, 78]⟩ : ByteArray).data.toList = notnM from rfl, k5, e5] at H7
            have HT7 := Lib.hid (HT6.out.trans hT7)
            clear hD7 hT7 HT6 k5 e5
            go_wp2_with fail
            refine H7.mono ?_
            clear H7
            rintro e w8 ⟨rfl, hD8, hT8⟩
            have H8 := D_of hD8 (fun ve va hI => piece_any p s Y nm ve va w8 hI HPC.out HYB.out)
            have HT8 := Lib.hid (HT7.out.trans hT8)
            clear hD8 hT8 HT7
            go_wp2_with fail
            refine H8.mono ?_
            clear H8
            rintro e w9 ⟨rfl, hD9, hT9⟩
            have HD9 := Lib.hid hD9
            have HB9 := Lib.hid (HBr.out.trans ((HT8.out.trans hT9).below (Nat.le_of_lt hpl) (Nat.le_refl p)))
            have hmu9 : mu ⟨Y.r, true⟩ < mu Y := by unfold mu; rw [HYB.out]; simp
            have HMU9 := Lib.hid hmu9
            clear hD9 hT9 hmu9
            go_wp2_with fail
            go_roundw
            case rel => exact ⟨⟨Y.r, true⟩, e1, l1, b, HD9, HB9, HS2, (⟨by have := HMr.out.1; have := HMU9.out; have := HMY.out; omega, by have := HMr.out.2; have := HMU9.out; have := HMY.out; omega⟩ : _ ∧ _)⟩
            case measure => rw [HD9.out.mu, HMW.out]; have := HMU9.out; have := HMY.out; omega
end Go.Proofs.YtmjdjpelhhibgaaDoor.DA
