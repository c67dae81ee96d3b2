/- The contracts of the package of what stands ahead: document types. -/
import Derived.Test.YtmjdjpelhhibgaaDoorDA15
namespace Go.Proofs.YtmjdjpelhhibgaaDoor.DA
open Go.RowKit Go.Proofs.YtmjdjpelhhibgaaDoor.Ow Go.Proofs.YtmjdjpelhhibgaaDoor.DS Go.Proofs.YtmjdjpelhhibgaaDoor.Spec Go.Proofs.YtmjdjpelhhibgaaDoor.Giv
set_option linter.unusedVariables false
set_option linter.unusedSimpArgs false
abbrev TD : TypeId := 48
theorem IsD.setName {w : World} {p : Nat} {s : ByteArray} {x : St} {nm : ByteArray} {es : List Ent} {al : List Att} (h : IsD w p s x nm es al) (n : ByteArray) : IsD (w.setCell ⟨p, 3, none⟩ (.string n)) p s x n es al := by
  obtain ⟨ve, va, hI, hoe, hoa⟩ := h
  obtain ⟨a1, hc1⟩ := hI.heap
  have hpe := own_ne hoe hc1 (by decide : (TR : Nat) ≠ TE)
  have hpa := own_ne hoa hc1 (by decide : (TR : Nat) ≠ TA)
  obtain ⟨hb0, h0, a, h1, h2, hc⟩ := hI
  refine ⟨ve, va, ⟨base_tn (Tn.set1 _ _) hb0, h0, a, h1, h2, ?_⟩, own_setCell hoe hpe, own_setCell hoa hpa⟩
  simp only [World.setCell, Array.getElem?_modify, hc]
  simp
theorem IsD.cells {w : World} {p : Nat} {s : ByteArray} {x : St} {nm : ByteArray} {es : List Ent} {al : List Att} (h : IsD w p s x nm es al) :
    ∃ (a : Nat) (A1 A2 : Option Addr) (c1 c2 : Nat), a = s.size - x.r.length ∧ x.r.length ≤ s.size ∧ w.heap[p]? = some (.cells #[.string s, .int .i64 a, .bool x.bad, .string nm, .slice A1 es.length c1, .slice A2 al.length c2] TR (0, 0)) ∧
      w.ownsRow p TE 3 (.slice A1 es.length c1) es.length (cellsE es) ∧ w.ownsRow p TA 5 (.slice A2 al.length c2) al.length (cellsA al) := by
  obtain ⟨ve, va, hI, hoe, hoa⟩ := h
  obtain ⟨A1, c1, rfl, _⟩ := cellsAtE_of_own hoe rfl
  obtain ⟨A2, c2, rfl, _⟩ := cellsAtA_of_own hoa rfl
  obtain ⟨_, h0, a, h1, h2, hc⟩ := hI
  have hl : x.r.length = s.size - a := by rw [h2]; simp
  exact ⟨a, A1, A2, c1, c2, by omega, by omega, hc, hoe, hoa⟩
theorem IsD.new {w : World} {p : Nat} {s : ByteArray} {x : St} {nm : ByteArray} (h : IsR w p s x nm (.slice none 0 0) (.slice none 0 0)) : IsD w p s x nm [] [] :=
  ⟨_, _, h, World.ownsRow_nil _ _ _ _, World.ownsRow_nil _ _ _ _⟩
def DPost (R : DocR) (w : World) (e : Ending) (w' : World) : Prop :=
  ∃ ve va, e = .returned (.tuple #[.agg #[.string (bs R.nm), ve, va], .int .i64 R.to, .int .i64 R.code]) ∧ w'.ownsRow w.heap.size TE 3 ve R.es.length (cellsE R.es) ∧ w'.ownsRow w.heap.size TA 5 va R.al.length (cellsA R.al) ∧ Below w.heap.size w w'
theorem own_weak {w : World} {B B' T s n : Nat} {v : Value} {xs : List Value} (h : w.ownsRow B T s v n xs) (hB : B' ≤ B) : w.ownsRow B' T s v n xs := by
  refine ⟨h.1, ?_⟩
  rcases h.2 with h1 | ⟨g, cap, cur, h1, h2, h3⟩
  · exact .inl h1
  · exact .inr ⟨g, cap, cur, h1, Nat.le_trans hB h2, h3⟩
theorem set3 {w : World} {b : Nat} {a0 a1 a2 u0 u1 u2 : Value} {T : TypeId} {fz : Nat × Nat} (h : w.heap[b]? = some (.cells #[a0, a1, a2] T fz)) :
    (((w.setCell ⟨b, 0, none⟩ u0).setCell ⟨b, 1, none⟩ u1).setCell ⟨b, 2, none⟩ u2).heap[b]? = some (.cells #[u0, u1, u2] T fz) := by
  simp only [World.setCell, Array.getElem?_modify, h]
  simp
theorem far3 {w : World} {b p i : Nat} {u0 u1 u2 v : Value} (hne : p ≠ b) (h : w.cell? ⟨p, i, none⟩ = some v) : (((w.setCell ⟨b, 0, none⟩ u0).setCell ⟨b, 1, none⟩ u1).setCell ⟨b, 2, none⟩ u2).cell? ⟨p, i, none⟩ = some v := by
  unfold World.cell? at *
  rw [Below.heap_setCell _ _ _ _ (show p ≠ b from hne), Below.heap_setCell _ _ _ _ (show p ≠ b from hne), Below.heap_setCell _ _ _ _ (show p ≠ b from hne)]
  exact h
theorem own_set3 {w : World} {B T s n b : Nat} {v u0 u1 u2 : Value} {xs : List Value} (h : w.ownsRow B T s v n xs) (hb : v.ownBlock ≠ some b) : (((w.setCell ⟨b, 0, none⟩ u0).setCell ⟨b, 1, none⟩ u1).setCell ⟨b, 2, none⟩ u2).ownsRow B T s v n xs :=
  own_setCell (own_setCell (own_setCell h hb) hb) hb
set_option maxRecDepth 100000 in
set_option maxHeartbeats 4000000 in
theorem doctype_no (s : ByteArray) (w : World) (hs : s.size < 4294967281) (h : doctypeM.isPrefixOf s.data.toList = false) :
    Calls Tryd.prog 21 #[.string s, .int .i64 0] w (DPost ⟨[], [], [], 0, 6⟩ w) := by
  have HP := fun W => hp_same s ⟨#[60, 33, 68, 79, 67, 84, 89, 80, 69]⟩ false W h
  go_enter Tryd.func21, Tryd.ntmps21
  go_wp2_with fail
  refine (HP _).mono ?_
  clear HP
  rintro e w1 ⟨rfl, rfl⟩
  go_wp2_with fail
  refine bodyPost_ret (v := .tuple #[.agg #[.string ⟨#[]⟩, .slice none 0 0, .slice none 0 0], .int .i64 0, .int .i64 6]) (by simp [results, Tryd.results21, go_sem]) rfl ?_
  exact ⟨_, _, rfl, World.ownsRow_nil _ _ _ _, World.ownsRow_nil _ _ _ _, (Below.refl _ _).alloc (Nat.le_refl _) _⟩
set_option maxRecDepth 100000 in
set_option maxHeartbeats 8000000 in
theorem doctype_yes (s : ByteArray) (R : DocR) (w : World) (hs : s.size < 4294967281) (hE : Env w) (h : doctypeM.isPrefixOf s.data.toList = true) (hR : doc s.data.toList = some R) :
    Calls Tryd.prog 21 #[.string s, .int .i64 0] w (DPost R w) := by
  have HP := fun W => hp_same s ⟨#[60, 33, 68, 79, 67, 84, 89, 80, 69]⟩ true W h
  have h9 : 9 ≤ s.size := by
    have : doctypeM <+: s.data.toList := List.isPrefixOf_iff_prefix.1 h
    have := this.length_le
    simpa [doctypeM] using this
  rw [doc, if_pos h] at hR
  simp only at hR
  obtain ⟨w1, hw1⟩ : ∃ v, w.alloc (.cells #[.string emptyS, .slice none 0 0, .slice none 0 0] TD) = v := ⟨_, rfl⟩
  obtain ⟨p, hp⟩ : ∃ v, w1.heap.size = v := ⟨_, rfl⟩
  have hpw : p = w.heap.size + 1 := by rw [← hp, ← hw1]; simp
  have hE1 : Env w1 := by rw [← hw1]; exact hE.below ((Below.refl _ _).alloc (Nat.le_refl _) _)
  have hb1 : Below w.heap.size w w1 := by rw [← hw1]; exact (Below.refl _ _).alloc (Nat.le_refl _) _
  have hr1 : w1.heap[w.heap.size]? = some (.cells #[.string emptyS, .slice none 0 0, .slice none 0 0] TD (0, 0)) := by rw [← hw1]; exact heap_alloc_new w _
  have hI := IsR.new w1 s 9 hs h9 hE1
  obtain ⟨w2, hw2⟩ : ∃ v, w1.alloc (.cells #[.string s, .int .i64 (9 : Nat), .bool false, .string emptyS, .slice none 0 0, .slice none 0 0] TR) = v := ⟨_, rfl⟩
  have hb2 : Below p w1 w2 := by rw [← hw2, ← hp]; exact (Below.refl _ _).alloc (Nat.le_refl _) _
  rw [hw2, hp] at hI
  have hD := IsD.new hI
  have H1 := D_of hD (fun ve va hI => gap_any p s _ emptyS ve va w2 hI)
  have HB1 := Lib.hid hb1
  have HB2 := Lib.hid hb2
  have HR1 := Lib.hid hr1
  have HW1 := Lib.hid hw1
  have HW2 := Lib.hid hw2
  have HPW := Lib.hid hpw
  have HP1 := Lib.hid hp
  generalize gapX ⟨s.data.toList.drop 9, false⟩ = X1 at H1 hR
  have HR := Lib.hid hR
  clear h hR hw1 hp hpw hE hE1 hb1 hr1 hI hw2 hb2 hD h9
  go_enter Tryd.func21, Tryd.ntmps21
  go_wp2_with fail
  refine (HP _).mono ?_
  clear HP
  rintro e w1' ⟨rfl, rfl⟩
  go_upto_region 4 with (fail)
  have hw12 : (w.alloc (.cells #[.string ⟨#[]⟩, .slice none 0 0, .slice none 0 0] 48)).alloc (.cells #[.string s, .int .i64 9, .bool false, .string ⟨#[]⟩, .slice none 0 0, .slice none 0 0] 73) = w2 := by
    have := HW2.out
    rw [← HW1.out] at this
    exact this
  rw [hw12, ← HPW.out]
  clear hw12 HW1 HW2
  go_wp2_with fail
  refine H1.mono ?_
  clear H1
  rintro e w3 ⟨rfl, hD3, hT3⟩
  have H2 := D_of hD3 (fun ve va hI => word_split p s X1 emptyS ve va w3 hI splitL DNames.split_tells)
  have hpl2 : p ≤ w2.heap.size := by have := HP1.out; have := HB2.out.size; omega
  have P2 := Lib.hid hpl2
  have HB3 := Lib.hid (hT3.below hpl2 (Nat.le_refl p))
  obtain ⟨NM, hNM⟩ : ∃ v, word X1 = v := ⟨_, rfl⟩
  obtain ⟨X2, hX2⟩ : ∃ v, wordX splitL X1 = v := ⟨_, rfl⟩
  rw [hNM, hX2] at H2 HR
  clear hD3 hT3 hNM hX2 hpl2
  go_wp2_with fail
  refine H2.mono ?_
  clear H2
  rintro e w4 ⟨rfl, hD4, hT4⟩
  obtain ⟨a4, A1, A2, n1, n2, _, _, hc4, _, _⟩ := hD4.cells
  have c3 := cell_of hc4 3
  have f3 := frozen_of hc4 3
  have hpl4 := hD4.lt
  have HD5 := Lib.hid (hD4.setName (bs NM))
  have HB5 := Lib.hid (HB3.out.trans ((hT4.set 3 (.string (bs NM))).below (Nat.le_trans P2.out HB3.out.size) (Nat.le_refl p)))
  clear hD4 hT4 hc4 HB3
  go_upto_region 6 with (fail)
  obtain ⟨w5, hw5⟩ : ∃ v, w4.setCell ⟨p, 3, none⟩ (.string (bs NM)) = v := ⟨_, rfl⟩
  rw [hw5] at HD5 HB5 ⊢
  clear c3 f3 hpl4 hw5
  obtain ⟨g, hg⟩ : ∃ v, space X2 = v := ⟨_, rfl⟩
  obtain ⟨Y, hY⟩ : ∃ v, spaceX X2 = v := ⟨_, rfl⟩
  obtain ⟨K, hK⟩ : ∃ v, (g && external Y) = v := ⟨_, rfl⟩
  obtain ⟨U, hU⟩ : ∃ v, doc1 X2 = v := ⟨_, rfl⟩
  have hU2 : U = if K = true then spaceX (externalX Y) else Y := by rw [← hU, ← hK, ← hg, ← hY]; rfl
  rw [hU] at HR
  have H6 := D_of HD5.out (fun ve va hI => space_any p s X2 (bs NM) ve va w5 hI)
  rw [hg, hY] at H6
  have HK := Lib.hid hK
  have HU := Lib.hid hU2
  clear hg hY hK hU hU2
  go_cut [43] from 38 to 42 (fun c wx => c = .bool K ∧ Hid (IsD wx p s (if K = true then externalX Y else Y) (bs NM) [] []) ∧ Hid (Below p w2 wx))
  case first =>
    go_wp2_with fail
    refine H6.mono ?_
    clear H6
    rintro e w6 ⟨rfl, hD6, hT6⟩
    have HB6 := Lib.hid (HB5.out.trans (hT6.below (Nat.le_trans P2.out HB5.out.size) (Nat.le_refl p)))
    have HD6 := Lib.hid hD6
    clear hD6 hT6
    cases g
    · have hk : Hid (K = false) := HK.out.symm
      go_wp2_with fail
      go_meet
      rw [hk.out]
      exact ⟨rfl, HD6, HB6⟩
    · have H7 := D_of HD6.out (fun ve va hI => external_any p s Y (bs NM) ve va w6 hI)
      have hk : external Y = K := by rw [← HK.out]; rfl
      have hx : externalX Y = if K = true then externalX Y else Y := by
        rw [← hk]
        cases hh : external Y with
        | true => rw [if_pos rfl]
        | false =>
          rw [if_neg (by decide)]
          unfold external at hh; rw [Bool.or_eq_false_iff] at hh
          simp [externalX, hh.1, hh.2]
      rw [hk] at H7
      have HX := Lib.hid hx
      clear hk hx
      go_wp2_with fail
      refine H7.mono ?_
      clear H7
      rintro e w7 ⟨rfl, hD7, hT7⟩
      go_wp2_with fail
      go_meet
      refine ⟨rfl, ?_, HB6.out.trans (hT7.below (Nat.le_trans P2.out HB6.out.size) (Nat.le_refl p))⟩
      rw [← HX.out]
      exact hD7
  case rest =>
    obtain ⟨rfl, HD6, HB6⟩ := hcut
    clear HD5 HB5 H6 HK
    go_upto_if 43 with (fail)
    go_cut [] from 44 to 45 (fun wx => Hid (IsD wx p s U (bs NM) [] []) ∧ Hid (Below p w2 wx))
    case first =>
      cases K
      · have hu : Hid (U = Y) := HU.out
        go_wp2_with fail
        go_meet
        rw [hu.out]
        exact ⟨HD6, HB6⟩
      · have hu : Hid (U = spaceX (externalX Y)) := HU.out
        have H7 := D_of HD6.out (fun ve va hI => space_any p s (externalX Y) (bs NM) ve va _ hI)
        go_wp2_with fail
        refine H7.mono ?_
        clear H7
        rintro e w7 ⟨rfl, hD7, hT7⟩
        go_wp2_with fail
        go_meet
        rw [hu.out]
        exact ⟨hD7, HB6.out.trans (hT7.below (Nat.le_trans P2.out HB6.out.size) (Nat.le_refl p))⟩
    case rest =>
      obtain ⟨HD7, HB7⟩ := hcut
      clear HD6 HB6 HU
      obtain ⟨V, hV, hVR⟩ : ∃ V, doc2 U = some V ∧ doc3 s.data.toList.length NM V = R := by
        have := HR.out
        cases hd : doc2 U with
        | none => rw [hd] at this; cases this
        | some V => rw [hd] at this; exact ⟨V, rfl, Option.some.inj this⟩
      have H8 := D_of HD7.out (fun ve va hI => has_any p s U (bs NM) ve va ⟨#[91]⟩ _ hI)
      rw [show (⟨#[91]⟩ : ByteArray).data.toList = [91] from rfl] at H8
      have HVR := Lib.hid hVR
      clear HR hVR
      rw [doc2] at hV
      obtain ⟨k, hk⟩ : ∃ v, has [91] U = v := ⟨_, rfl⟩
      rw [hk] at H8 hV
      have HV := Lib.hid hV
      have HK := Lib.hid hk
      clear hV hk
      go_wp2_with fail
      refine H8.mono ?_
      clear H8
      rintro e w8 ⟨rfl, hD8, hT8⟩
      have HB8 := Lib.hid (HB7.out.trans (hT8.below (Nat.le_trans P2.out HB7.out.size) (Nat.le_refl p)))
      have HD8 := Lib.hid hD8
      clear hD8 hT8 HB7 HD7
      go_upto_if 47 with (fail)
      go_cut [] from 48 to 51 (fun wx => Hid (IsD wx p s V.1 (bs NM) V.2.1 V.2.2) ∧ Hid (Below p w2 wx))
      case first =>
        cases k
        · have hv : Hid (V = (U, [], [])) := by have := HV.out; rw [if_neg (by decide)] at this; exact (Option.some.inj this).symm
          have e0 : hasX [91] U = U := by have := HK.out; simp [hasX, this]
          have HE0 := Lib.hid e0
          clear HV HK e0
          go_wp2_with fail
          go_meet
          rw [hv.out]
          have := HD8.out
          rw [HE0.out] at this
          exact ⟨this, HB8⟩
        · obtain ⟨T, hT, hTV⟩ : ∃ T, subR (U.r.length + 3) (hasX [91] U) [] [] = some T ∧ (spaceX T.1, T.2) = V := by
            have := HV.out
            rw [if_pos rfl] at this
            cases hd : subR (U.r.length + 3) (hasX [91] U) [] [] with
            | none => rw [hd] at this; cases this
            | some T => rw [hd] at this; exact ⟨T, rfl, Option.some.inj this⟩
          have hlU : U.r.length ≤ 4294967290 := by
            obtain ⟨_, _, _, _, _, _, hl, _⟩ := HD8.out.cells
            have hd : (hasX [91] U).r.length = U.r.length - 1 := by unfold hasX; rw [if_pos HK.out]; simp
            omega
          have hmu : mu (hasX [91] U) ≤ U.r.length + 1 := by
            have := has_le [91] U
            unfold mu; split <;> omega
          have H9 := subset_any p s (hasX [91] U) (bs NM) [] [] (U.r.length + 3) T w8 HD8.out hT (by omega) (by simp; omega)
          have HTV := Lib.hid hTV
          obtain ⟨T1, T2, T3⟩ := T
          clear hT hTV hlU hmu HV HK HD8
          go_wp2_with fail
          refine H9.mono ?_
          clear H9
          rintro e w9 ⟨rfl, hD9, hb9⟩
          have HB9 := Lib.hid (HB8.out.trans hb9)
          have H10 := D_of hD9 (fun ve va hI => space_any p s T1 (bs NM) ve va w9 hI)
          clear hD9 hb9
          go_wp2_with fail
          refine H10.mono ?_
          clear H10
          rintro e w10 ⟨rfl, hD10, hT10⟩
          go_wp2_with fail
          go_meet
          rw [← HTV.out]
          exact ⟨hD10, HB9.out.trans (hT10.below (Nat.le_trans P2.out HB9.out.size) (Nat.le_refl p))⟩
      case rest =>
        obtain ⟨HD9, HB9⟩ := hcut
        clear HD8 HB8 HV HK
        obtain ⟨V1, es, al⟩ := V
        have H11 := D_of HD9.out (fun ve va hI => must_any p s V1 (bs NM) ve va ⟨#[62]⟩ _ hI)
        rw [show (⟨#[62]⟩ : ByteArray).data.toList = [62] from rfl] at H11
        have hR3 := HVR.out
        rw [doc3] at hR3
        simp only at hR3
        generalize mustX [62] V1 = M at H11 hR3
        have HR3 := Lib.hid hR3
        clear hR3 HVR
        go_wp2_with fail
        refine H11.mono ?_
        clear H11
        rintro e w11 ⟨rfl, hD11, hT11⟩
        have hB11 := HB2.out.trans (HB9.out.trans (hT11.below (Nat.le_trans P2.out HB9.out.size) (Nat.le_refl p)))
        have hr11 := (hB11.block w.heap.size (by have := HPW.out; omega)).trans HR1.out
        obtain ⟨a11, A1, A2, n1, n2, ha11, hal, hc11, hoe, hoa⟩ := hD11.cells
        have c1 := cell_of hc11 1
        have c2 := cell_of hc11 2
        have c3 := cell_of hc11 3
        have c4 := cell_of hc11 4
        have c5 := cell_of hc11 5
        have r0 := cell_of hr11 0
        have r1 := cell_of hr11 1
        have r2 := cell_of hr11 2
        have z0 := frozen_of hr11 0
        have z1 := frozen_of hr11 1
        have z2 := frozen_of hr11 2
        have hpl := hD11.lt
        have hrl := (Array.getElem?_eq_some_iff.1 hr11).1
        have HAA := Lib.hid (And.intro ha11 hal)
        have HHR := Lib.hid hr11
        have HOE := Lib.hid hoe
        have HOA := Lib.hid hoa
        have HB11 := Lib.hid (HB1.out.trans (hB11.mono (by have := HPW.out; omega)))
        clear hD11 hT11 hB11 hr11 hc11 ha11 hal hoe hoa
        cases hb : M.bad
        · have hr : R = ⟨NM, es, al, (s.data.toList.length : Int) - (M.r.length : Int), 0⟩ := by have := HR3.out; rw [hb, if_neg (by decide)] at this; exact this.symm
          have hto : (s.data.toList.length : Int) - (M.r.length : Int) = (a11 : Int) := by have := HAA.out; simp; omega
          rw [hto] at hr
          have HRE := Lib.hid hr
          rw [hb] at c2
          clear hb HR3 hr hto
          have hne : p ≠ w.heap.size := by have := HPW.out; omega
          have q1 := far3 (u0 := .string (bs NM)) (u1 := .slice A1 es.length n1) (u2 := .slice A2 al.length n2) hne c1
          have hs3 := set3 (u0 := .string (bs NM)) (u1 := .slice A1 es.length n1) (u2 := .slice A2 al.length n2) HHR.out
          have hoe3 := own_set3 (u0 := .string (bs NM)) (u1 := .slice A1 es.length n1) (u2 := .slice A2 al.length n2) HOE.out (own_ne HOE.out HHR.out (by decide : (TD : Nat) ≠ TE))
          have hoa3 := own_set3 (u0 := .string (bs NM)) (u1 := .slice A1 es.length n1) (u2 := .slice A2 al.length n2) HOA.out (own_ne HOA.out HHR.out (by decide : (TD : Nat) ≠ TA))
          have hb3 := ((HB11.out.setCell (p := ⟨w.heap.size, 0, none⟩) (Nat.le_refl _) (.string (bs NM))).setCell (p := ⟨w.heap.size, 1, none⟩) (Nat.le_refl _) (.slice A1 es.length n1)).setCell (p := ⟨w.heap.size, 2, none⟩) (Nat.le_refl _) (.slice A2 al.length n2)
          obtain ⟨W, hW⟩ : ∃ v, ((w11.setCell ⟨w.heap.size, 0, none⟩ (.string (bs NM))).setCell ⟨w.heap.size, 1, none⟩ (.slice A1 es.length n1)).setCell ⟨w.heap.size, 2, none⟩ (.slice A2 al.length n2) = v := ⟨_, rfl⟩
          have HS3 := Lib.hid hs3
          have HE3 := Lib.hid hoe3
          have HA3 := Lib.hid hoa3
          have HB3 := Lib.hid hb3
          have HW := Lib.hid hW
          clear hs3 hoe3 hoa3 hb3 hW hne
          go_upto_region 14 with (fail)
          go_region
          all_goals
            go_wp2_with fail
            have hs3 := HS3.out
            have hoe3 := HE3.out
            have hoa3 := HA3.out
            have hb3 := HB3.out
            rw [HW.out] at hs3 hoe3 hoa3 hb3
            first
              | rw [show (((w11.setCell ⟨w.heap.size, 0, none⟩ (.string (bs NM))).setCell ⟨w.heap.size, 1, none⟩ (.slice A1 es.length n1)).setCell ⟨w.heap.size, 2, none⟩ (.slice A2 al.length n2)).drew = W.drew from by rw [HW.out]]
              | rw [HW.out]
            have k0 : W.drew.cell? ⟨w.heap.size, 0, none⟩ = _ := cell_of (w := W.drew) hs3 0
            have k1 : W.drew.cell? ⟨w.heap.size, 1, none⟩ = _ := cell_of (w := W.drew) hs3 1
            have k2 : W.drew.cell? ⟨w.heap.size, 2, none⟩ = _ := cell_of (w := W.drew) hs3 2
            refine bodyPost_ret (v := .tuple #[.agg #[.string (bs NM), .slice A1 es.length n1, .slice A2 al.length n2], .int .i64 a11, .int .i64 0]) (by simp [results, Tryd.results21, go_sem, k0, k1, k2]) rfl ?_
            rw [HRE.out]
            have hpp : w.heap.size ≤ p := by have := HPW.out; omega
            exact ⟨_, _, rfl, own_weak (hoe3.drew) hpp, own_weak (hoa3.drew) hpp, ⟨hb3.os, hb3.tape, hb3.output, hb3.size, hb3.block⟩⟩
        · have hr : R = ⟨[], [], [], 0, 2⟩ := by have := HR3.out; rw [hb, if_pos rfl] at this; exact this.symm
          have HRE := Lib.hid hr
          rw [hb] at c2
          clear hb HR3 hr
          go_wp2_with fail
          have hs3 := set3 (u0 := .string ⟨#[]⟩) (u1 := .slice none 0 0) (u2 := .slice none 0 0) HHR.out
          have hb3 := ((HB11.out.setCell (p := ⟨w.heap.size, 0, none⟩) (Nat.le_refl _) (.string ⟨#[]⟩)).setCell (p := ⟨w.heap.size, 1, none⟩) (Nat.le_refl _) (.slice none 0 0)).setCell (p := ⟨w.heap.size, 2, none⟩) (Nat.le_refl _) (.slice none 0 0)
          obtain ⟨W, hW⟩ : ∃ v, ((w11.setCell ⟨w.heap.size, 0, none⟩ (.string ⟨#[]⟩)).setCell ⟨w.heap.size, 1, none⟩ (.slice none 0 0)).setCell ⟨w.heap.size, 2, none⟩ (.slice none 0 0) = v := ⟨_, rfl⟩
          rw [hW] at hs3 hb3 ⊢
          have k0 := cell_of hs3 0
          have k1 := cell_of hs3 1
          have k2 := cell_of hs3 2
          refine bodyPost_ret (v := .tuple #[.agg #[.string ⟨#[]⟩, .slice none 0 0, .slice none 0 0], .int .i64 0, .int .i64 2]) (by simp [results, Tryd.results21, go_sem, k0, k1, k2]) rfl ?_
          rw [HRE.out]
          exact ⟨_, _, rfl, World.ownsRow_nil _ _ _ _, World.ownsRow_nil _ _ _ _, hb3⟩
theorem Doctype_any (s : ByteArray) (R : DocR) (w : World) (hs : s.size < 4294967281) (hE : Env w) (hR : doc s.data.toList = some R) :
    Calls Tryd.prog 21 #[.string s, .int .i64 0] w (DPost R w) := by
  cases h : doctypeM.isPrefixOf s.data.toList with
  | true => exact doctype_yes s R w hs hE h hR
  | false =>
    rw [doc, h, if_neg (by decide)] at hR
    obtain rfl := Option.some.inj hR
    exact doctype_no s w hs h
end Go.Proofs.YtmjdjpelhhibgaaDoor.DA
