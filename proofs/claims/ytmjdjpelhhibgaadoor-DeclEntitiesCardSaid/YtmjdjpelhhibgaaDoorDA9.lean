/- The contracts of the package of what stands ahead: XML declarations. -/
import Derived.Test.YtmjdjpelhhibgaaDoorDA8
namespace Go.Proofs.YtmjdjpelhhibgaaDoor.DA
open Go.RowKit Go.Proofs.YtmjdjpelhhibgaaDoor.Ow Go.Proofs.YtmjdjpelhhibgaaDoor.DS Go.Proofs.YtmjdjpelhhibgaaDoor.Spec Go.Proofs.YtmjdjpelhhibgaaDoor.Giv
set_option linter.unusedVariables false
set_option linter.unusedSimpArgs false
abbrev emptyS : ByteArray := ⟨#[]⟩
theorem IsR.new (w : World) (s : ByteArray) (a : Nat) (hs : s.size < 4294967281) (ha : a ≤ s.size) (hE : Env w) :
    IsR (w.alloc (.cells #[.string s, .int .i64 a, .bool false, .string emptyS, .slice none 0 0, .slice none 0 0] TR)) w.heap.size s ⟨s.data.toList.drop a, false⟩ emptyS (.slice none 0 0) (.slice none 0 0) :=
  ⟨⟨w, hE, (Below.refl _ _).alloc (Nat.le_refl _) _, Nat.le_refl _⟩, hs, a, ha, rfl, heap_alloc_new w _⟩
def ascL (l : List UInt8) : Bool := l.all fun b => decide (b.toNat < 128)
theorem asc_lit {x : St} (h : ascL x.r = true) : ascL (litS x) = true := by
  unfold litS
  cases hl : lit x.r with
  | none => rfl
  | some t =>
    rw [Option.getD_some]
    cases hr : x.r with
    | nil => rw [hr] at hl; cases hl
    | cons c l =>
      rw [hr, lit] at hl
      split at hl
      · split at hl
        · obtain rfl := Option.some.inj hl
          rw [hr, ascL, List.all_cons, Bool.and_eq_true] at h
          unfold Lib.cut
          split
          · unfold ascL
            rw [List.all_eq_true] at h ⊢
            exact fun b hb => h.2 b (List.mem_of_mem_take hb)
          · exact h.2
        · cases hl
      · cases hl
theorem asc_drop {l : List UInt8} (n : Nat) (h : ascL l = true) : ascL (l.drop n) = true := by
  unfold ascL at *
  rw [List.all_eq_true] at *
  exact fun b hb => h b (List.mem_of_mem_drop hb)
theorem IsR.asc {w : World} {p : Nat} {s : ByteArray} {x : St} {nm : ByteArray} {ve va : Value} (h : IsR w p s x nm ve va) (ha : ascL s.data.toList = true) : ascL x.r = true := by
  obtain ⟨a, _, _, hr, _⟩ := h.open_
  rw [hr]
  exact asc_drop a ha
theorem lits_len {w : World} {p : Nat} {s : ByteArray} {x : St} {nm : ByteArray} {ve va : Value} (h : IsR w p s x nm ve va) : (bs (litS x)).size < 4294967281 := by
  have hl := h.len
  have e1 : (bs (litS x)).size = (litS x).length := List.size_toArray
  rw [e1]
  unfold litS
  cases hl : lit x.r with
  | none => simp
  | some t =>
    have := lit_len hl
    simp only [Option.getD_some]
    omega
theorem fold_any (l : List UInt8) (w : World) (hs : (bs l).size < 4294967281) (ha : ascL l = true) (b : Bool) (hb : Lib.equalFold l utf8M = b) :
    Calls Tryd.prog 46 #[.string (bs l), .string ⟨#[117, 116, 102, 45, 56]⟩] w fun e w' => e = .returned (.bool b) ∧ w' = w := by
  subst hb
  refine Tryd.strings_EqualFold (bs l) ⟨#[117, 116, 102, 45, 56]⟩ w hs ?_ ?_
  · intro j b hj
    rw [bs_data] at hj
    unfold ascL at ha
    rw [List.all_eq_true] at ha
    exact of_decide_eq_true (ha b (List.mem_of_getElem? hj))
  · intro j b hj
    have : b ∈ utf8M := List.mem_of_getElem? hj
    revert this
    revert b
    intro b hj hm
    simp [utf8M] at hm
    rcases hm with rfl | rfl | rfl | rfl | rfl <;> decide
def XPost (s : List UInt8) (w : World) (e : Ending) (w' : World) : Prop := e = .returned (.tuple #[.int .i64 (xml s).1, .int .i64 (xml s).2]) ∧ Below w.heap.size w w'
set_option maxRecDepth 100000 in
set_option maxHeartbeats 4000000 in
theorem xml_no (s : ByteArray) (w : World) (hs : s.size < 4294967281) (hE : Env w) (h : has xmlM ⟨s.data.toList, false⟩ = false) :
    Calls Tryd.prog 23 #[.string s] w (XPost s.data.toList w) := by
  have e : xml s.data.toList = (0, 0) := by unfold xml; simp [h]
  unfold XPost
  rw [e]
  have hI := IsR.new w s 0 hs (by omega) hE
  have H1 := has_any _ s _ _ _ _ ⟨#[60, 63, 120, 109, 108]⟩ _ hI
  rw [show (⟨#[60, 63, 120, 109, 108]⟩ : ByteArray).data.toList = xmlM from rfl] at H1
  simp only [List.drop_zero] at H1
  rw [h] at H1
  clear h e hI hE
  go_enter Tryd.func23, Tryd.ntmps23
  go_wp2_with fail
  refine H1.mono ?_
  clear H1
  rintro e w1 ⟨rfl, hI1, hT1⟩
  go_wp2_with fail
  go_ret2
  exact ⟨rfl, (((Below.refl _ _).alloc (Nat.le_refl _) _).trans (hT1.below (by simp) (Nat.le_refl _)))⟩
set_option maxRecDepth 100000 in
set_option maxHeartbeats 8000000 in
theorem xml_yes (s : ByteArray) (w : World) (hs : s.size < 4294967281) (hE : Env w) (hasc : ascL s.data.toList = true) (h : has xmlM ⟨s.data.toList, false⟩ = true) :
    Calls Tryd.prog 23 #[.string s] w (XPost s.data.toList w) := by
  obtain ⟨x, hx⟩ : ∃ x, hasX xmlM ⟨s.data.toList, false⟩ = x := ⟨_, rfl⟩
  have e : xml s.data.toList = if space x = true then (let z := xmlEnd (spaceX x); if z.bad = true then (0, 2) else ((s.data.toList.length : Int) - (z.r.length : Int), 0)) else (0, 0) := by
    unfold xml; rw [h, hx]; simp
  have hI := IsR.new w s 0 hs (by omega) hE
  have H1 := has_any _ s _ _ _ _ ⟨#[60, 63, 120, 109, 108]⟩ _ hI
  rw [show (⟨#[60, 63, 120, 109, 108]⟩ : ByteArray).data.toList = xmlM from rfl] at H1
  simp only [List.drop_zero] at H1
  rw [h, hx] at H1
  obtain ⟨V1, hV1⟩ : ∃ v, (xml s.data.toList).1 = v := ⟨_, rfl⟩
  obtain ⟨V2, hV2⟩ : ∃ v, (xml s.data.toList).2 = v := ⟨_, rfl⟩
  unfold XPost
  rw [hV1, hV2]
  rw [Prod.ext_iff, hV1, hV2] at e
  have HV := Lib.hid e
  have HAS := Lib.hid hasc
  obtain ⟨p, hp0⟩ : ∃ p, w.heap.size = p := ⟨_, rfl⟩
  have HP := Lib.hid hp0
  clear h hI hE hx hV1 hV2 e hasc
  go_enter Tryd.func23, Tryd.ntmps23
  go_wp2_with fail
  try rw [hp0] at H1
  refine H1.mono ?_
  clear H1
  rintro e w1 ⟨rfl, hI1, hT1⟩
  have hb1 : Below w.heap.size w w1 := ((Below.refl _ _).alloc (Nat.le_refl _) _).trans (hT1.below (by simp) (by omega))
  have HB1 := Lib.hid hb1
  have H2 := space_any p s x _ _ _ w1 hI1
  clear hI1 hT1 hb1 hp0
  cases hsp : space x with
  | false =>
    have h1 : Hid (V1 = 0 ∧ V2 = 0) := by
      have := HV.out
      rw [hsp, if_neg (by decide)] at this
      exact this
    rw [hsp] at H2
    clear hsp
    go_wp2_with fail
    refine H2.mono ?_
    clear H2
    rintro e w2 ⟨rfl, hI2, hT2⟩
    go_wp2_with fail
    go_ret2
    obtain ⟨rfl, rfl⟩ := h1.out
    exact ⟨rfl, HB1.out.trans (hT2.below HB1.out.size (by have := HP.out; omega))⟩
  | true =>
    have h1 : Hid (V1 = (let z := xmlEnd (spaceX x); if z.bad = true then (0, 2) else ((s.data.toList.length : Int) - (z.r.length : Int), (0 : Int))).1 ∧ V2 = (let z := xmlEnd (spaceX x); if z.bad = true then ((0 : Int), (2 : Int)) else ((s.data.toList.length : Int) - (z.r.length : Int), 0)).2) := by
      have := HV.out
      rw [hsp, if_pos rfl] at this
      exact this
    rw [hsp] at H2
    obtain ⟨X, hX⟩ : ∃ y, spaceX x = y := ⟨_, rfl⟩
    rw [hX] at H2 h1
    clear hsp hX HV
    go_wp2_with fail
    refine H2.mono ?_
    clear H2
    rintro e w2 ⟨rfl, hI2, hT2⟩
    have hb2 : Below w.heap.size w w2 := HB1.out.trans (hT2.below HB1.out.size (by have := HP.out; omega))
    have HI2 := Lib.hid hI2
    have HB2 := Lib.hid hb2
    have hps := hI2.lt
    clear hI2 hT2 HB1 hb2
    go_wp2_with fail
    refine (must_any p s X _ _ _ ⟨#[118, 101, 114, 115, 105, 111, 110]⟩ w2 HI2.out).mono ?_
    rintro e w3 ⟨rfl, hI3, hT3⟩
    rw [show (⟨#[118, 101, 114, 115, 105, 111, 110]⟩ : ByteArray).data.toList = versionM from rfl] at hI3
    have HB3 := Lib.hid (HB2.out.trans (hT3.below HB2.out.size (by have := HP.out; omega)))
    have HI3 := Lib.hid hI3
    clear hI3 hT3 HI2 HB2 hps
    go_wp2_with fail
    refine (eq_any p s _ _ _ _ w3 HI3.out).mono ?_
    rintro e w4 ⟨rfl, hI4, hT4⟩
    have HB4 := Lib.hid (HB3.out.trans (hT4.below HB3.out.size (by have := HP.out; omega)))
    have HI4 := Lib.hid hI4
    clear hI4 hT4 HI3 HB3
    go_wp2_with fail
    refine (literal_any p s _ _ _ _ w4 HI4.out).mono ?_
    rintro e w5 ⟨rfl, hI5, hT5⟩
    have HB5 := Lib.hid (HB4.out.trans (hT5.below HB4.out.size (by have := HP.out; omega)))
    have HI5 := Lib.hid hI5
    have hsl := lits_len HI4.out
    obtain ⟨Y, hY⟩ : ∃ y, eqX (mustX versionM X) = y := ⟨_, rfl⟩
    rw [hY] at HI4 HI5 hsl ⊢
    have HY := Lib.hid hY
    have HSL := Lib.hid hsl
    clear hI5 hT5 HI4 HB4 hY hsl
    go_upto_region 7 with (fail)
    go_cut [] from 24 to 35 (fun wx => Hid (IsR wx p s (failIf (!verB (litS Y)) (litX Y)) emptyS (.slice none 0 0) (.slice none 0 0)) ∧ Hid (Below w.heap.size w wx))
    case first =>
      obtain ⟨a5, hs5, ha5, hr5, c0, c1, c2, f1, f2, hp5⟩ := HI5.out.open_
      have HV5 : ∀ W, Calls Tryd.prog 45 #[.string (bs (litS Y))] W fun e w' => e = .returned (.bool (verB (litS Y))) ∧ Below W.heap.size W w' := fun W => version_any (bs (litS Y)) W HSL.out
      clear hs5 ha5 hr5
      cases hb : (litX Y).bad
      · rw [hb] at c2
        obtain ⟨vb, hvb⟩ : ∃ v, verB (litS Y) = v := ⟨_, rfl⟩
        have e7 : Hid (failIf (!verB (litS Y)) (litX Y) = ⟨(litX Y).r, !vb⟩) := by show _ = _; rw [← hvb]; unfold failIf; rw [hb]; rfl
        rw [hvb] at HV5
        clear hb hvb
        go_wp2_with fail
        refine (HV5 _).mono ?_
        clear HV5
        rintro e w6 ⟨rfl, hb6⟩
        have q2 := (hb6.frozen (p := ⟨p, 2, none⟩) hp5).trans f2
        have q1 := (hb6.cell (p := ⟨p, 2, none⟩) hp5).trans c2
        go_wp2_with fail
        go_meet
        rw [e7.out]
        exact ⟨(HI5.out.below hb6).setBad _, HB5.out.trans (((Tn.of_below hb6).set 2 _).below (p := p) HB5.out.size (by have := HP.out; omega))⟩
      · rw [hb] at c2
        have e7 : Hid (failIf (!verB (litS Y)) (litX Y) = ⟨(litX Y).r, true⟩) := by show _ = _; unfold failIf; rw [hb]; rfl
        clear hb HV5
        go_wp2_with fail
        go_meet
        rw [e7.out]
        exact ⟨HI5.out.setBad _, HB5.out.trans ((Tn.refl.set 2 _).below (p := p) HB5.out.size (by have := HP.out; omega))⟩
    case rest =>
      obtain ⟨HI6, HB6⟩ := hcut
      have hX1 : failIf (!verB (litS Y)) (litX Y) = xml1 X := by rw [← HY.out]; rfl
      rw [hX1] at HI6
      clear HI5 HB5 HY HSL hX1
      go_wp2_with fail
      refine (space_any p s _ _ _ _ wc HI6.out).mono ?_
      rintro e w7 ⟨rfl, hI7, hT7⟩
      have HB7 := Lib.hid (HB6.out.trans (hT7.below HB6.out.size (by have := HP.out; omega)))
      obtain ⟨g, hg⟩ : ∃ g, space (xml1 X) = g := ⟨_, rfl⟩
      obtain ⟨Y2, hY⟩ : ∃ y, spaceX (xml1 X) = y := ⟨_, rfl⟩
      have hE : xmlEnd X = mustX [63, 62] (xml3 (xml2 g Y2).1 (xml2 g Y2).2) := by rw [← hg, ← hY]; rfl
      rw [hg]
      rw [hY] at hI7
      have HE := Lib.hid hE
      have HI7 := Lib.hid hI7
      clear hI7 hT7 HI6 HB6 hg hY hE
      go_upto_region 9 with (fail)
      go_cut [42] from 38 to 41 (fun c wx => c = .bool (g && has encodingM Y2) ∧ Hid (IsR wx p s (if (g && has encodingM Y2) = true then hasX encodingM Y2 else Y2) emptyS (.slice none 0 0) (.slice none 0 0)) ∧ Hid (Below w.heap.size w wx))
      case first =>
        cases g
        · go_wp2_with fail
          go_meet
          exact ⟨rfl, HI7, HB7⟩
        · have H := has_any p s Y2 _ _ _ ⟨#[101, 110, 99, 111, 100, 105, 110, 103]⟩ w7 HI7.out
          rw [show (⟨#[101, 110, 99, 111, 100, 105, 110, 103]⟩ : ByteArray).data.toList = encodingM from rfl] at H
          obtain ⟨k, hk⟩ : ∃ k, has encodingM Y2 = k := ⟨_, rfl⟩
          have hZ : (if (true && has encodingM Y2) = true then hasX encodingM Y2 else Y2) = hasX encodingM Y2 := by rw [Bool.true_and]; unfold hasX; split <;> rfl
          have HZ := Lib.hid hZ
          have HK := Lib.hid hk
          rw [hk] at H
          clear hZ hk
          go_wp2_with fail
          refine H.mono ?_
          clear H
          rintro e w8 ⟨rfl, hI8, hT8⟩
          go_wp2_with fail
          go_meet
          refine ⟨by rw [HK.out]; rfl, ?_, (HB7.out.trans (hT8.below HB7.out.size (by have := HP.out; omega)))⟩
          rw [HZ.out]
          exact hI8
      case rest =>
        obtain ⟨rfl, HI9, HB9⟩ := hcut
        obtain ⟨k, hk⟩ : ∃ k, (g && has encodingM Y2) = k := ⟨_, rfl⟩
        obtain ⟨Z, hZ⟩ : ∃ z, xml2 g Y2 = z := ⟨_, rfl⟩
        have hZ2 : Z = if k = true then (space (xmlEnc (hasX encodingM Y2)), spaceX (xmlEnc (hasX encodingM Y2))) else (g, Y2) := by rw [← hZ, ← hk]; rfl
        rw [hk] at HI9 ⊢
        rw [hZ] at HE
        have HZ := Lib.hid hZ2
        clear HI7 HB7 hk hZ hZ2
        go_upto_if 42 with (fail)
        go_cut [5, 6] from 43 to 60 (fun v g' wx => ∃ t, v = .string t ∧ g' = .bool Z.1 ∧ Hid (IsR wx p s Z.2 emptyS (.slice none 0 0) (.slice none 0 0)) ∧ Hid (Below w.heap.size w wx))
        case first =>
          cases k
          · have HZ2 : Hid (Z = (g, Y2)) := HZ.out
            go_wp2_with fail
            go_meet
            rw [HZ2.out]
            exact ⟨_, rfl, rfl, HI9, HB9⟩
          · have HZ2 : Hid (Z = (space (xmlEnc (hasX encodingM Y2)), spaceX (xmlEnc (hasX encodingM Y2)))) := HZ.out
            have HI9' : Hid (IsR wc p s (hasX encodingM Y2) emptyS (.slice none 0 0) (.slice none 0 0)) := HI9
            clear HZ HI9
            generalize hasX encodingM Y2 = Q at HZ2 HI9'
            go_wp2_with fail
            refine (eq_any p s _ _ _ _ _ HI9'.out).mono ?_
            rintro e w4 ⟨rfl, hI4, hT4⟩
            have HB4 := Lib.hid (HB9.out.trans (hT4.below HB9.out.size (by have := HP.out; omega)))
            have HI4 := Lib.hid hI4
            clear hI4 hT4 HI9' HB9
            go_wp2_with fail
            refine (literal_any p s _ _ _ _ w4 HI4.out).mono ?_
            rintro e w5 ⟨rfl, hI5, hT5⟩
            have HB5 := Lib.hid (HB4.out.trans (hT5.below HB4.out.size (by have := HP.out; omega)))
            have HI5 := Lib.hid hI5
            have hsl := lits_len HI4.out
            have hasc := asc_lit (HI4.out.asc HAS.out)
            obtain ⟨Y, hY⟩ : ∃ y, eqX Q = y := ⟨_, rfl⟩
            rw [hY] at HI4 HI5 hsl hasc ⊢
            have HY := Lib.hid hY
            have HSL := Lib.hid hsl
            have HASL := Lib.hid hasc
            clear hI5 hT5 HI4 HB4 hY hsl hasc
            go_upto_region 12 with (fail)
            go_cut [] from 47 to 58 (fun wx => Hid (IsR wx p s (failIf (!Lib.equalFold (litS Y) utf8M) (litX Y)) emptyS (.slice none 0 0) (.slice none 0 0)) ∧ Hid (Below w.heap.size w wx))
            case first =>
              obtain ⟨a5, hs5, ha5, hr5, c0, c1, c2, f1, f2, hp5⟩ := HI5.out.open_
              have HV5 : ∀ W, Calls Tryd.prog 46 #[.string (bs (litS Y)), .string ⟨#[117, 116, 102, 45, 56]⟩] W fun e w' => e = .returned (.bool (Lib.equalFold (litS Y) utf8M)) ∧ Below W.heap.size W w' := fun W => (fold_any (litS Y) W HSL.out HASL.out _ rfl).mono fun e w' h => ⟨h.1, by rw [h.2]; exact Below.refl _ _⟩
              clear hs5 ha5 hr5
              cases hb : (litX Y).bad
              · rw [hb] at c2
                obtain ⟨vb, hvb⟩ : ∃ v, Lib.equalFold (litS Y) utf8M = v := ⟨_, rfl⟩
                have e7 : Hid (failIf (!Lib.equalFold (litS Y) utf8M) (litX Y) = ⟨(litX Y).r, !vb⟩) := by show _ = _; rw [← hvb]; unfold failIf; rw [hb]; rfl
                rw [hvb] at HV5
                clear hb hvb
                go_wp2_with fail
                refine (HV5 _).mono ?_
                clear HV5
                rintro e w6 ⟨rfl, hb6⟩
                have q2 := (hb6.frozen (p := ⟨p, 2, none⟩) hp5).trans f2
                have q1 := (hb6.cell (p := ⟨p, 2, none⟩) hp5).trans c2
                go_wp2_with fail
                go_meet
                rw [e7.out]
                exact ⟨(HI5.out.below hb6).setBad _, HB5.out.trans (((Tn.of_below hb6).set 2 _).below (p := p) HB5.out.size (by have := HP.out; omega))⟩
              · rw [hb] at c2
                have e7 : Hid (failIf (!Lib.equalFold (litS Y) utf8M) (litX Y) = ⟨(litX Y).r, true⟩) := by show _ = _; unfold failIf; rw [hb]; rfl
                clear hb HV5
                go_wp2_with fail
                go_meet
                rw [e7.out]
                exact ⟨HI5.out.setBad _, HB5.out.trans ((Tn.refl.set 2 _).below (p := p) HB5.out.size (by have := HP.out; omega))⟩
            case rest =>
              obtain ⟨HI6, HB6⟩ := hcut
              have hX1 : failIf (!Lib.equalFold (litS Y) utf8M) (litX Y) = xmlEnc Q := by rw [← HY.out]; rfl
              rw [hX1] at HI6
              clear HI5 HB5 HY HSL HASL hX1
              go_wp2_with fail
              refine (space_any p s _ _ _ _ _ HI6.out).mono ?_
              rintro e w8 ⟨rfl, hI8, hT8⟩
              go_wp2_with fail
              go_meet
              rw [HZ2.out]
              exact ⟨_, rfl, rfl, hI8, (HB6.out.trans (hT8.below HB6.out.size (by have := HP.out; omega)))⟩
        case rest =>
          obtain ⟨t5, rfl, rfl, HIa, HBa⟩ := hcut
          obtain ⟨g2, Y3⟩ := Z
          clear HI9 HB9 HZ
          go_upto_region 14 with (fail)
          go_cut [65] from 61 to 64 (fun c wx => c = .bool (g2 && has standaloneM Y3) ∧ Hid (IsR wx p s (if (g2 && has standaloneM Y3) = true then hasX standaloneM Y3 else Y3) emptyS (.slice none 0 0) (.slice none 0 0)) ∧ Hid (Below w.heap.size w wx))
          case first =>
            cases g2
            · go_wp2_with fail
              go_meet
              exact ⟨rfl, HIa, HBa⟩
            · have H := has_any p s Y3 _ _ _ ⟨#[115, 116, 97, 110, 100, 97, 108, 111, 110, 101]⟩ _ HIa.out
              rw [show (⟨#[115, 116, 97, 110, 100, 97, 108, 111, 110, 101]⟩ : ByteArray).data.toList = standaloneM from rfl] at H
              obtain ⟨k, hk⟩ : ∃ k, has standaloneM Y3 = k := ⟨_, rfl⟩
              have hZ : (if (true && has standaloneM Y3) = true then hasX standaloneM Y3 else Y3) = hasX standaloneM Y3 := by rw [Bool.true_and]; unfold hasX; split <;> rfl
              have HZ := Lib.hid hZ
              have HK := Lib.hid hk
              rw [hk] at H
              clear hZ hk
              go_wp2_with fail
              refine H.mono ?_
              clear H
              rintro e w8 ⟨rfl, hI8, hT8⟩
              go_wp2_with fail
              go_meet
              refine ⟨by rw [HK.out]; rfl, ?_, (HBa.out.trans (hT8.below HBa.out.size (by have := HP.out; omega)))⟩
              rw [HZ.out]
              exact hI8
          case rest =>
            obtain ⟨rfl, HI9, HB9⟩ := hcut
            obtain ⟨k, hk⟩ : ∃ k, (g2 && has standaloneM Y3) = k := ⟨_, rfl⟩
            obtain ⟨Z, hZ⟩ : ∃ z, xml3 g2 Y3 = z := ⟨_, rfl⟩
            have hZ2 : Z = if k = true then spaceX (xmlSta (hasX standaloneM Y3)) else Y3 := by rw [← hZ, ← hk]; rfl
            rw [hk] at HI9 ⊢
            have HE2 : Hid (xmlEnd X = mustX [63, 62] Z) := by show _ = _; rw [HE.out, ← hZ]
            have HZ := Lib.hid hZ2
            clear HIa HBa hk hZ hZ2 HE
            go_upto_if 65 with (fail)
            go_cut [5] from 66 to 86 (fun v wx => ∃ t, v = .string t ∧ Hid (IsR wx p s Z emptyS (.slice none 0 0) (.slice none 0 0)) ∧ Hid (Below w.heap.size w wx))
            case first =>
              cases k
              · have HZ2 : Hid (Z = Y3) := HZ.out
                go_wp2_with fail
                go_meet
                rw [HZ2.out]
                exact ⟨_, rfl, HI9, HB9⟩
              · have HZ2 : Hid (Z = spaceX (xmlSta (hasX standaloneM Y3))) := HZ.out
                have HI9' : Hid (IsR wc p s (hasX standaloneM Y3) emptyS (.slice none 0 0) (.slice none 0 0)) := HI9
                clear HZ HI9
                generalize hasX standaloneM Y3 = Q at HZ2 HI9'
                go_wp2_with fail
                refine (eq_any p s _ _ _ _ _ HI9'.out).mono ?_
                rintro e w4 ⟨rfl, hI4, hT4⟩
                have HB4 := Lib.hid (HB9.out.trans (hT4.below HB9.out.size (by have := HP.out; omega)))
                have HI4 := Lib.hid hI4
                clear hI4 hT4 HI9' HB9
                go_wp2_with fail
                refine (literal_any p s _ _ _ _ w4 HI4.out).mono ?_
                rintro e w5 ⟨rfl, hI5, hT5⟩
                have HB5 := Lib.hid (HB4.out.trans (hT5.below HB4.out.size (by have := HP.out; omega)))
                have HI5 := Lib.hid hI5
                obtain ⟨Y, hY⟩ : ∃ y, eqX Q = y := ⟨_, rfl⟩
                rw [hY] at HI4 HI5 ⊢
                have HY := Lib.hid hY
                clear hI5 hT5 HI4 HB4 hY
                obtain ⟨B, hB⟩ : ∃ B, bs (litS Y) = B := ⟨_, rfl⟩
                rw [hB]
                have hBl : B.toList = litS Y := by rw [← hB]; exact bs_toList _
                obtain ⟨vb, hvb⟩ : ∃ v, (!(litS Y == yesM) && !(litS Y == noM)) = v := ⟨_, rfl⟩
                have HVB : Hid ((!(B.toList == [121, 101, 115]) && !(B.toList == [110, 111])) = vb) := by show _ = _; rw [hBl]; exact hvb
                have HVB2 := Lib.hid hvb
                clear hB hBl hvb
                go_upto_region 17 with (fail)
                go_cut [] from 70 to 84 (fun wx => Hid (IsR wx p s (failIf vb (litX Y)) emptyS (.slice none 0 0) (.slice none 0 0)) ∧ Hid (Below w.heap.size w wx))
                case first =>
                  obtain ⟨a5, hs5, ha5, hr5, c0, c1, c2, f1, f2, hp5⟩ := HI5.out.open_
                  clear hs5 ha5 hr5
                  cases hb : (litX Y).bad
                  · rw [hb] at c2
                    have e7 : Hid (failIf vb (litX Y) = ⟨(litX Y).r, vb⟩) := by show _ = _; unfold failIf; rw [hb]; rfl
                    clear hb
                    cases k1 : (B.toList == [121, 101, 115]) <;> cases k2 : (B.toList == [110, 111])
                    all_goals
                      have hv : Hid (vb = _) := HVB.out.symm
                      simp only [k1, k2, Bool.not_true, Bool.not_false, Bool.and_true, Bool.and_false, Bool.and_self] at hv
                      have k1' : (B.toList != [121, 101, 115]) = !(B.toList == [121, 101, 115]) := rfl
                      have k2' : (B.toList != [110, 111]) = !(B.toList == [110, 111]) := rfl
                      rw [k1] at k1'
                      rw [k2] at k2'
                      simp only [Bool.not_true, Bool.not_false] at k1' k2'
                      go_wp2_with fail
                      go_meet
                      rw [e7.out, hv.out]
                      exact ⟨HI5.out.setBad _, HB5.out.trans ((Tn.refl.set 2 _).below (p := p) HB5.out.size (by have := HP.out; omega))⟩
                  · rw [hb] at c2
                    have e7 : Hid (failIf vb (litX Y) = ⟨(litX Y).r, true⟩) := by show _ = _; unfold failIf; rw [hb]; rfl
                    clear hb
                    go_wp2_with fail
                    go_meet
                    rw [e7.out]
                    exact ⟨HI5.out.setBad _, HB5.out.trans ((Tn.refl.set 2 _).below (p := p) HB5.out.size (by have := HP.out; omega))⟩
                case rest =>
                  obtain ⟨HI6, HB6⟩ := hcut
                  have hX1 : failIf vb (litX Y) = xmlSta Q := by rw [← HVB2.out, ← HY.out]; rfl
                  rw [hX1] at HI6
                  clear HI5 HB5 HY HVB HVB2 hX1
                  go_wp2_with fail
                  refine (space_any p s _ _ _ _ _ HI6.out).mono ?_
                  rintro e w8 ⟨rfl, hI8, hT8⟩
                  go_wp2_with fail
                  go_meet
                  rw [HZ2.out]
                  exact ⟨_, rfl, hI8, (HB6.out.trans (hT8.below HB6.out.size (by have := HP.out; omega)))⟩
            case rest =>
              obtain ⟨t6, rfl, HIb, HBb⟩ := hcut
              clear HI9 HB9 HZ
              go_wp2_with fail
              refine (must_any p s Z _ _ _ ⟨#[63, 62]⟩ _ HIb.out).mono ?_
              rintro e w8 ⟨rfl, hI8, hT8⟩
              rw [show mustX (⟨#[63, 62]⟩ : ByteArray).data.toList Z = xmlEnd X from HE2.out.symm] at hI8
              have HB8 := Lib.hid (HBb.out.trans (hT8.below HBb.out.size (by have := HP.out; omega)))
              obtain ⟨a8, hs8, ha8, hr8, c0, c1, c2, f1, f2, hp8⟩ := hI8.open_
              have hlen : ((s.data.toList.length : Int) - ((xmlEnd X).r.length : Int)) = (a8 : Int) := by rw [hr8]; simp; omega
              have h2 := h1.out
              rw [hlen] at h2
              cases hb : (xmlEnd X).bad
              all_goals
                rw [hb] at h2 c2
                simp only [Bool.false_eq_true, if_true, if_false] at h2
                have H2 := Lib.hid h2
                clear h2 hb hlen hI8 hT8 HIb HBb hr8 h1
                go_wp2_with fail
                go_ret2
                obtain ⟨e1, e2⟩ := H2.out
                rw [e1, e2]
                exact ⟨rfl, HB8.out⟩
theorem XML_any (s : ByteArray) (w : World) (hs : s.size < 4294967281) (hE : Env w) (hasc : ascL s.data.toList = true) :
    Calls Tryd.prog 23 #[.string s] w (XPost s.data.toList w) := by
  cases h : has xmlM ⟨s.data.toList, false⟩ with
  | false => exact xml_no s w hs hE h
  | true => exact xml_yes s w hs hE hasc h
end Go.Proofs.YtmjdjpelhhibgaaDoor.DA
