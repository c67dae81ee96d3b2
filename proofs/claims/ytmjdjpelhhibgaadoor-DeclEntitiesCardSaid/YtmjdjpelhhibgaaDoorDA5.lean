/- The contracts of the package of what stands ahead: where a text stands, lists of words, kinds. -/
import Derived.Test.YtmjdjpelhhibgaaDoorDA4
namespace Go.Proofs.YtmjdjpelhhibgaaDoor.DA
open Go.RowKit Go.Proofs.YtmjdjpelhhibgaaDoor.Ow Go.Proofs.YtmjdjpelhhibgaaDoor.DS Go.Proofs.YtmjdjpelhhibgaaDoor.Spec Go.Proofs.YtmjdjpelhhibgaaDoor.Giv
set_option linter.unusedVariables false
set_option linter.unusedSimpArgs false
/-! ### where a text stands -/
set_option maxRecDepth 100000 in
set_option maxHeartbeats 1000000 in
theorem external_any (p : Nat) (s : ByteArray) (x : St) (nm : ByteArray) (ve va : Value) (w : World) (h : IsR w p s x nm ve va) :
    Calls Tryd.prog 39 #[.pointer (some ⟨p, 0, none⟩)] w (Step p s (externalX x) nm ve va (.bool (external x)) w) := by
  have H1 := has_any p s x nm ve va ⟨#[83, 89, 83, 84, 69, 77]⟩ w h
  have em : (⟨#[83, 89, 83, 84, 69, 77]⟩ : ByteArray).data.toList = systemM := rfl
  have em2 : (⟨#[80, 85, 66, 76, 73, 67]⟩ : ByteArray).data.toList = publicM := rfl
  rw [em] at H1
  clear h
  cases hx : has systemM x with
  | true =>
    have e1 : external x = true := by simp [external, hx]
    have e2 : externalX x = litX (gapX (hasX systemM x)) := by simp [externalX, hx]
    rw [e1, e2]
    rw [hx] at H1
    clear hx e1 e2
    go_enter Tryd.func39, Tryd.ntmps39
    go_wp2_with fail
    refine H1.mono ?_
    clear H1
    rintro e w1 ⟨rfl, hI1, hT1⟩
    have H2 := gap_any p s _ nm ve va w1 hI1
    clear hI1
    go_wp2_with fail
    refine H2.mono ?_
    clear H2
    rintro e w2 ⟨rfl, hI2, hT2⟩
    have H3 := literal_any p s _ nm ve va w2 hI2
    clear hI2
    go_wp2_with fail
    refine H3.mono ?_
    clear H3
    rintro e w3 ⟨rfl, hI3, hT3⟩
    go_wp2_with fail
    go_ret
    exact ⟨rfl, hI3, (hT1.trans hT2).trans hT3⟩
  | false =>
    have e0 : hasX systemM x = x := by simp [hasX, hx]
    have e1 : external x = has publicM x := by simp [external, hx]
    have e2 : externalX x = if has publicM x = true then litX (gapX (litX (gapX (hasX publicM x)))) else x := by simp [externalX, hx]
    rw [e1, e2]
    rw [hx, e0] at H1
    clear hx e1 e2 e0
    cases hx : has publicM x with
    | true =>
      rw [if_pos rfl]
      go_enter Tryd.func39, Tryd.ntmps39
      go_wp2_with fail
      refine H1.mono ?_
      clear H1
      rintro e w1 ⟨rfl, hI1, hT1⟩
      have H2 := has_any p s x nm ve va ⟨#[80, 85, 66, 76, 73, 67]⟩ w1 hI1
      rw [em2, hx] at H2
      clear hI1 hx
      go_wp2_with fail
      refine H2.mono ?_
      clear H2
      rintro e w2 ⟨rfl, hI2, hT2⟩
      have H3 := gap_any p s _ nm ve va w2 hI2
      clear hI2
      go_wp2_with fail
      refine H3.mono ?_
      clear H3
      rintro e w3 ⟨rfl, hI3, hT3⟩
      have H4 := literal_any p s _ nm ve va w3 hI3
      clear hI3
      go_wp2_with fail
      refine H4.mono ?_
      clear H4
      rintro e w4 ⟨rfl, hI4, hT4⟩
      have H5 := gap_any p s _ nm ve va w4 hI4
      clear hI4
      go_wp2_with fail
      refine H5.mono ?_
      clear H5
      rintro e w5 ⟨rfl, hI5, hT5⟩
      have H6 := literal_any p s _ nm ve va w5 hI5
      clear hI5
      go_wp2_with fail
      refine H6.mono ?_
      clear H6
      rintro e w6 ⟨rfl, hI6, hT6⟩
      go_wp2_with fail
      go_ret
      exact ⟨rfl, hI6, ((((hT1.trans hT2).trans hT3).trans hT4).trans hT5).trans hT6⟩
    | false =>
      have e0 : hasX publicM x = x := by simp [hasX, hx]
      rw [if_neg (by decide)]
      go_enter Tryd.func39, Tryd.ntmps39
      go_wp2_with fail
      refine H1.mono ?_
      clear H1
      rintro e w1 ⟨rfl, hI1, hT1⟩
      have H2 := has_any p s x nm ve va ⟨#[80, 85, 66, 76, 73, 67]⟩ w1 hI1
      rw [em2, hx, e0] at H2
      clear hI1 hx e0
      go_wp2_with fail
      refine H2.mono ?_
      clear H2
      rintro e w2 ⟨rfl, hI2, hT2⟩
      go_wp2_with fail
      go_ret
      exact ⟨rfl, hI2, hT1.trans hT2⟩
/-! ### a list of words -/
def mu (x : St) : Nat := x.r.length + if x.bad = true then 0 else 1
theorem word_len_lt {good : List UInt8 → Bool} {x : St} (h0 : good [] = false) (h : (wordX good x).bad = false) : (wordX good x).r.length < x.r.length := by
  simp only [wordX, Bool.or_eq_false_iff, Bool.not_eq_false'] at h
  simp only [wordX, h.1, Bool.false_eq_true, if_false]
  have hw : word x = x.r.take (wl x.r) := by simp [word, h.1]
  rw [hw] at h
  have hne : x.r.take (wl x.r) ≠ [] := by intro e; rw [e, h0] at h; cases h.2
  have h1 : wl x.r ≠ 0 := by intro e; apply hne; rw [e]; rfl
  have h2 : x.r ≠ [] := by intro e; apply hne; rw [e]; rfl
  have h3 : 0 < x.r.length := List.length_pos_iff.2 h2
  rw [List.length_drop]
  omega
theorem word_le (good : List UInt8 → Bool) (x : St) : (wordX good x).r.length ≤ x.r.length := by
  simp only [wordX]
  split
  · exact Nat.le_refl _
  · simp
theorem space_le (x : St) : (spaceX x).r.length ≤ x.r.length := by
  unfold spaceX; split
  · exact Nat.le_refl _
  · simp
theorem space_bad (x : St) : (spaceX x).bad = x.bad := by unfold spaceX; split <;> rfl
theorem word_bad (good : List UInt8 → Bool) (x : St) (h : x.bad = true) : (wordX good x).bad = true := by simp [wordX, h]
theorem has_le (m : List UInt8) (x : St) : (hasX m x).r.length ≤ x.r.length := by
  unfold hasX; split
  · simp
  · exact Nat.le_refl _
theorem has_bad (m : List UInt8) (x : St) : (hasX m x).bad = x.bad := by unfold hasX; split <;> rfl
theorem has_lt {m : List UInt8} {x : St} (h : has m x = true) (hm : 0 < m.length) : (hasX m x).r.length < x.r.length := by
  have : m <+: x.r := by simp [has] at h; exact h.2
  have := this.length_le
  unfold hasX
  rw [if_pos h, List.length_drop]
  omega
/-- What a loop over a reader counts: what is left of the text, and whether it is good, as they lie in memory. -/
def muW (p n : Nat) (w : World) : Nat := (n - (match w.cell? ⟨p, 1, none⟩ with | some (.int _ a) => a.toNat | _ => 0)) + (match w.cell? ⟨p, 2, none⟩ with | some (.bool true) => 0 | _ => 1)
theorem IsR.mu {w : World} {p : Nat} {s : ByteArray} {x : St} {nm : ByteArray} {ve va : Value} (h : IsR w p s x nm ve va) : muW p s.size w = mu x := by
  obtain ⟨a, hs, ha, hr, c0, c1, c2, f1, f2, hp⟩ := h.open_
  unfold muW DA.mu
  rw [c1, c2, hr]
  cases x.bad <;> simp
def listB (x : St) : St := spaceX (wordX partL (spaceX x))
theorem list_mu (x : St) : mu (listB x) ≤ mu x := by
  have h4 : (listB x).r.length ≤ x.r.length := Nat.le_trans (space_le _) (Nat.le_trans (word_le _ _) (space_le _))
  unfold mu
  cases hx : x.bad with
  | false => split <;> simp <;> omega
  | true =>
    have : (listB x).bad = true := by unfold listB; rw [space_bad]; exact word_bad _ _ (by rw [space_bad, hx])
    rw [this]; simp; exact h4
theorem list_step {b : Nat} {x : St} (hb : mu x < b) : ∃ c, b = c + 1 ∧ listR b x = (if x.bad = true then x else if has [124] (listB x) = true then listR c (hasX [124] (listB x)) else listB x) ∧ (has [124] (listB x) = true → mu (hasX [124] (listB x)) < mu x ∧ mu (hasX [124] (listB x)) < c) := by
  obtain ⟨c, rfl⟩ : ∃ c, b = c + 1 := ⟨b - 1, by omega⟩
  refine ⟨c, rfl, rfl, fun h => ?_⟩
  have h1 := has_lt h (by decide)
  have h2 := has_bad [124] (listB x)
  have h3 : (listB x).bad = false := by simp [has] at h; exact h.1
  have h4 : (listB x).r.length ≤ x.r.length := Nat.le_trans (space_le _) (Nat.le_trans (word_le _ _) (space_le _))
  have h5 : x.bad = false := by
    cases hx : x.bad with
    | false => rfl
    | true =>
      have : (listB x).bad = true := by unfold listB; rw [space_bad]; exact word_bad _ _ (by rw [space_bad, hx])
      rw [h3] at this; cases this
  unfold mu at *
  rw [h2, h3]
  rw [h5] at hb ⊢
  simp only [Bool.false_eq_true, if_false] at *
  omega
set_option maxRecDepth 100000 in
set_option maxHeartbeats 1000000 in
theorem list_any (p : Nat) (s : ByteArray) (x : St) (nm : ByteArray) (ve va : Value) (w : World) (h : IsR w p s x nm ve va) :
    Calls Tryd.prog 111 #[.pointer (some ⟨p, 0, none⟩)] w (Step p s (listX x) nm ve va unitV w) := by
  have H1 := must_any p s x nm ve va ⟨#[40]⟩ w h
  obtain ⟨R, hR⟩ : ∃ R, listR ((mustX [40] x).r.length + 2) (mustX [40] x) = R := ⟨_, rfl⟩
  have e1 : listX x = mustX [41] R := by rw [← hR]; rfl
  rw [e1]
  have HR := Lib.hid hR
  clear h e1 hR
  go_enter Tryd.func111, Tryd.ntmps111
  go_wp2_with fail
  refine H1.mono ?_
  clear H1
  rintro e w1 ⟨rfl, hI1, hT1⟩
  go_wp2_with fail
  go_loopw [2] (fun m wr => ∃ (q : Bool) (b : Nat) (y : St), m = .bool q ∧ IsR wr p s y nm ve va ∧ Tn p w wr ∧ Hid ((q = true → mu y < b ∧ listR b y = R) ∧ (q = false → y = R))) (fun m wr => muW p s.size wr + (match m with | .bool true => 1 | _ => 0))
  case atStart => exact ⟨true, _, _, rfl, hI1, hT1, (⟨fun _ => ⟨by unfold mu; split <;> omega, HR.out⟩, fun h => by cases h⟩ : _ ∧ _)⟩
  case round =>
    obtain ⟨q, b, y, rfl, hI, hT, HQ⟩ := hrel
    cases q with
    | false =>
      have := HQ.out.2 rfl
      subst this
      have H2 := must_any p s y nm ve va ⟨#[41]⟩ wr hI
      clear HQ HR hI
      go_wp2_with fail
      refine H2.mono ?_
      clear H2
      rintro e w2 ⟨rfl, hI2, hT2⟩
      go_wp2_with fail
      go_end0
      exact ⟨rfl, hI2, hT.trans hT2⟩
    | true =>
      obtain ⟨hmu, hRb⟩ := HQ.out.1 rfl
      obtain ⟨c, rfl, hst, hlt⟩ := list_step hmu
      rw [hst] at hRb
      obtain ⟨a, hs, ha, hr, c0, c1, c2, f1, f2, hp⟩ := hI.open_
      have hmw := hI.mu
      cases hb : y.bad with
      | true =>
        rw [hb, if_pos rfl] at hRb
        subst hRb
        rw [hb] at c2
        have H2 := must_any p s y nm ve va ⟨#[41]⟩ wr hI
        clear HQ HR hI hst hlt hmu hb hr c0 c1 f1 f2 hmw
        go_wp2_with fail
        refine H2.mono ?_
        clear H2
        rintro e w2 ⟨rfl, hI2, hT2⟩
        go_wp2_with fail
        go_end0
        exact ⟨rfl, hI2, hT.trans hT2⟩
      | false =>
        rw [hb, if_neg (by decide)] at hRb
        rw [hb] at c2
        have H2 := space_any p s y nm ve va wr hI
        have HRb := Lib.hid hRb
        have HLT := Lib.hid hlt
        have HMW := Lib.hid hmw
        clear HQ HR hI hst hlt hmu hb hr c0 c1 f1 f2 hmw hRb
        go_wp2_with fail
        refine H2.mono ?_
        clear H2
        rintro e w2 ⟨rfl, hI2, hT2⟩
        have H3 := word_part p s _ nm ve va w2 hI2 partL part_tells
        clear hI2 c2
        go_wp2_with fail
        refine H3.mono ?_
        clear H3
        rintro e w3 ⟨rfl, hI3, hT3⟩
        have H4 := space_any p s _ nm ve va w3 hI3
        clear hI3
        go_wp2_with fail
        refine H4.mono ?_
        clear H4
        rintro e w4 ⟨rfl, hI4, hT4⟩
        have H5 := has_any p s _ nm ve va ⟨#[124]⟩ w4 hI4
        clear hI4
        go_wp2_with fail
        refine H5.mono ?_
        clear H5
        rintro e w5 ⟨rfl, hI5, hT5⟩
        have hT' := (((hT.trans hT2).trans hT3).trans hT4).trans hT5
        go_wp2_with fail
        go_roundw
        case rel =>
          refine ⟨has [124] (listB y), c, hasX [124] (listB y), rfl, hI5, hT', ?_⟩
          refine And.intro (fun h => ⟨(HLT.out h).2, ?_⟩) (fun h => ?_)
          · have := HRb.out; rw [if_pos h] at this; exact this
          · have hh : ¬ has [124] (listB y) = true := by rw [h]; decide
            have := HRb.out; rw [if_neg hh] at this
            rw [hasX, if_neg hh]; exact this
        case measure =>
          rw [hI5.mu, HMW.out]
          show mu (hasX [124] (listB y)) + (match Value.bool (has [124] (listB y)) with | .bool true => 1 | _ => 0) < mu y + 1
          cases hh : has [124] (listB y) with
          | true => have := (HLT.out hh).1; simp only; omega
          | false =>
            rw [hasX, hh, if_neg (by decide)]
            have := list_mu y
            simp only
            omega
end Go.Proofs.YtmjdjpelhhibgaaDoor.DA
