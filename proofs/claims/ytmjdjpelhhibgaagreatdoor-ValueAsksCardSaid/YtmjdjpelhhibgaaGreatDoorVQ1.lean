/- The document's own references: characters, and one in a text. -/
import Derived.Test.YtmjdjpelhhibgaaGreatDoorVNormR
import Derived.Test.YtmjdjpelhhibgaaGreatDoorVRef
import Derived.Test.YtmjdjpelhhibgaaGreatDoorVRoom
namespace Go.Proofs.YtmjdjpelhhibgaaGreatDoor.Val
open Go Go.RowKit Go.Proofs.YtmjdjpelhhibgaaGreatDoor.Rf Go.Proofs.YtmjdjpelhhibgaaGreatDoor.Spec Go.Proofs.YtmjdjpelhhibgaaGreatDoor.Giv
set_option linter.unusedVariables false
set_option linter.unusedSimpArgs false
/-! ### The document's own references, the small functions -/
/-! ### Five -/
set_option maxRecDepth 100000 in
set_option maxHeartbeats 4000000 in
theorem fiveQ_any (s : ByteArray) (w : World) : Calls Tryz.prog 47 #[.string s] w fun e w' => e = .returned (.string (fiveR s).1) ∧ w = w' := by
  obtain ⟨R, hR⟩ : ∃ R, fiveR s = R := ⟨_, rfl⟩
  rw [hR]
  have HR := Lib.hid hR
  clear hR
  go_enter Tryz.func47, Tryz.ntmps47
  go_wp2
  all_goals
    go_ret
    refine ⟨?_, rfl⟩
    rw [← HR.out]
    clear HR
    simp_all [fiveR]
/-! ### digit -/
def dgQ (c b : Int) : Int := if b ≤ digitV c then -1 else digitV c
set_option maxRecDepth 100000 in
set_option maxHeartbeats 4000000 in
theorem digitQ_any (c : UInt8) (b : Int) (hb : 0 ≤ b) (hb2 : b ≤ 16) (w : World) : Calls Tryz.prog 93 #[.int .u8 (c.toNat : Int), .int .i64 b] w fun e w' => e = .returned (.int .i64 (dgQ (c.toNat : Int) b)) ∧ w = w' := by
  obtain ⟨R, hR⟩ : ∃ R, dgQ (c.toNat : Int) b = R := ⟨_, rfl⟩
  rw [hR]
  have HR := Lib.hid hR
  clear hR
  have hc : c.toNat < 256 := c.toNat_lt
  go_enter Tryz.func93, Tryz.ntmps93
  go_wp2
  all_goals
    go_ret
    refine ⟨?_, rfl⟩
    rw [← HR.out]
    clear HR
    unfold dgQ digitV
    apply ret_int
    repeat' split
    all_goals omega
/-! ### starts -/
set_option maxRecDepth 100000 in
set_option maxHeartbeats 4000000 in
theorem startsQ_any (s : ByteArray) (at_ : Nat) (w : World) (hs : s.size ≤ 1000000000) (ha : at_ ≤ s.size) : Calls Tryz.prog 66 #[.string s, .int .i64 (at_ : Int), .string ⟨#[38, 35]⟩] w fun e w' => e = .returned (.bool (Lib.hasPrefix (s.data.toList.drop at_) [38, 35])) ∧ w = w' := by
  by_cases h : at_ + 2 ≤ s.size
  · go_enter Tryz.func66, Tryz.ntmps66
    go_wp2
    go_ret
    refine ⟨?_, rfl⟩
    apply ret_bool
    rw [Lib.extract_toList]
    have hz : s.toList.length = s.size := by rw [Lib.toList_data]; rfl
    rw [← Lib.toList_data]
    generalize s.toList = l at hz ⊢
    rw [show at_ + 2 - at_ = 2 by omega]
    have hl : 2 ≤ (l.drop at_).length := by simp; omega
    match hm : l.drop at_, hl with
    | a :: b :: t, _ =>
      show (a == 38 && (b == 35 && true)) = ((38 == a) && ((35 == b) && true))
      rw [Bool.beq_comm (a := a), Bool.beq_comm (a := b)]
  · have hf : Lib.hasPrefix (s.data.toList.drop at_) [38, 35] = false := by
      cases hp : Lib.hasPrefix (s.data.toList.drop at_) [38, 35] with
      | false => rfl
      | true =>
        exfalso
        obtain ⟨t, ht⟩ := List.isPrefixOf_iff_prefix.1 hp
        have := congrArg List.length ht
        have hz : s.data.toList.length = s.size := rfl
        simp at this
        omega
    rw [hf]
    go_enter Tryz.func66, Tryz.ntmps66
    go_wp2
    go_ret
    exact ⟨rfl, rfl⟩
/-! ### find -/
/-- Where the next ';' stands from a place on; else -1. -/
def findV (l : List UInt8) (at_ : Nat) : Int := if cutIs (l.drop at_) = true then ((at_ + (cutA (l.drop at_)).length : Nat) : Int) else -1
set_option maxRecDepth 100000 in
set_option maxHeartbeats 4000000 in
theorem findQ_any (s : ByteArray) (at_ : Nat) (w : World) (hs : s.size ≤ 1000000000) (ha : at_ ≤ s.size) : Calls Tryz.prog 65 #[.string s, .int .i64 (at_ : Int), .string ⟨#[59]⟩] w fun e w' => e = .returned (.int .i64 (findV s.data.toList at_)) ∧ w = w' := by
  obtain ⟨R, hR⟩ : ∃ R, findV s.data.toList at_ = R := ⟨_, rfl⟩
  rw [hR]
  have HR := Lib.hid hR
  clear hR
  go_enter Tryz.func65, Tryz.ntmps65
  go_wp2
  go_loop [7] (fun x => ∃ i : Nat, x = .int .i64 i ∧ i ≤ s.size ∧ Hid (findV s.data.toList i = R)) (fun x => s.size - (intOf x).toNat)
  case atStart => exact ⟨at_, rfl, ha, HR⟩
  case round =>
    obtain ⟨i, rfl, hi, HI⟩ := hrel
    by_cases hlt : i < s.size
    · by_cases hc : s[i]'hlt = 59
      · have hq : (s.extract i (i + 1)).toList == [59] := by
          rw [Lib.toList_data, ext_one' s i hlt, hc]; rfl
        have hv : R = (i : Int) := by
          rw [← HI.out]
          unfold findV
          rw [drop_at s i hlt, hc]
          unfold cutIs cutA
          rw [cut_semi0]
          simp
        have HV := Lib.hid hv
        clear hv HI
        go_wp2
        go_ret
        exact ⟨by rw [HV.out]; rfl, rfl⟩
      · have hq : ((s.extract i (i + 1)).toList == [59]) = false := by
          rw [Lib.toList_data, ext_one' s i hlt]
          simpa using hc
        have hv : findV s.data.toList (i + 1) = R := by
          rw [← HI.out]
          unfold findV
          have hd := drop_at s i hlt
          have h1 := cut_semi1 (s[i]'hlt) (s.data.toList.drop (i + 1)) hc
          have e1 : cutIs (s.data.toList.drop i) = cutIs (s.data.toList.drop (i + 1)) := by rw [hd]; unfold cutIs; rw [h1]; rfl
          have e2 : (cutA (s.data.toList.drop i)).length = (cutA (s.data.toList.drop (i + 1))).length + 1 := by rw [hd]; unfold cutA; rw [h1]; rfl
          rw [e1, e2]
          split
          · congr 1; omega
          · rfl
        have HV := Lib.hid hv
        clear hv HI
        go_wp2
        go_round
        case rel => exact ⟨i + 1, by go_num, by omega, HV⟩
        case measure => simp [intOf]; omega
    · have hv : R = -1 := by
        rw [← HI.out]
        unfold findV
        rw [List.drop_eq_nil_of_le (by have : s.data.toList.length = s.size := rfl; omega), if_neg (by decide)]
      have HV := Lib.hid hv
      have hno : ¬ (i : Int) + 1 ≤ (s.size : Int) := by omega
      clear hv HI
      go_wp2
      go_ret
      exact ⟨by rw [HV.out]; rfl, rfl⟩
/-! ### The document's own references to characters -/
/-! ### CharRef -/
theorem crNot {s : ByteArray} (h : crGood s = false) : charRefV s = (0, false) := by
  unfold charRefV
  split
  · rfl
  · rw [h, Bool.false_and, if_neg (by decide)]
theorem crShort {s : ByteArray} (h : s.size < 4) : crGood s = false := by
  cases hg : crGood s with
  | false => rfl
  | true =>
    exfalso
    unfold crGood at hg
    simp only [Bool.and_eq_true, Bool.not_eq_true', beq_eq_false_iff_ne] at hg
    obtain ⟨h1, h2, h3⟩ := hg
    have hz : s.data.toList.length = s.size := rfl
    obtain ⟨m, hm⟩ := List.isPrefixOf_iff_prefix.1 h1
    have hm2 : s.data.toList = [38, 35] ++ m := hm.symm
    have ht : Lib.trimPrefix s.data.toList [38, 35] = m := by unfold Lib.trimPrefix; rw [h1]; simp [hm2]
    rw [ht] at h2
    obtain ⟨b, hb⟩ := List.isSuffixOf_iff_suffix.1 h2
    have hbody : crBody s = b := by
      unfold crBody Lib.trimSuffix
      rw [ht, h2]
      simp [← hb]
    have hlen := congrArg List.length hm2
    rw [← hb] at hlen
    simp at hlen
    have hb0 : b = [] := List.length_eq_zero_iff.1 (by omega)
    apply h3
    unfold crText crS
    rw [hbody, hb0, Lib.toList_data]
    rfl
theorem crLast {s : ByteArray} (h : 0 < s.size) (hl : (s[s.size - 1]'(by omega)) ≠ 59) : crGood s = false := by
  cases hg : crGood s with
  | false => rfl
  | true =>
    exfalso
    unfold crGood at hg
    simp only [Bool.and_eq_true] at hg
    obtain ⟨h1, h2, _⟩ := hg
    obtain ⟨m, hm⟩ := List.isPrefixOf_iff_prefix.1 h1
    have hm2 : s.data.toList = [38, 35] ++ m := hm.symm
    have ht : Lib.trimPrefix s.data.toList [38, 35] = m := by unfold Lib.trimPrefix; rw [h1]; simp [hm2]
    rw [ht] at h2
    obtain ⟨b, hb⟩ := List.isSuffixOf_iff_suffix.1 h2
    have hz : s.data.toList.length = s.size := rfl
    have hall : s.data.toList = ([38, 35] ++ b) ++ [59] := by rw [hm2, ← hb, List.append_assoc]
    have h5 : s.data.toList[s.size - 1]? = some 59 := by
      have hn := congrArg List.length hall
      simp at hn
      rw [hall, List.getElem?_append_right (by simp; omega)]
      have e : s.size - 1 - ([38, 35] ++ b).length = 0 := by simp; omega
      rw [e]
      rfl
    rw [Lib.data_getElem? s (s.size - 1) (by omega)] at h5
    exact hl (Option.some.inj h5)
/-- What stands between the signs. -/
theorem cr_body {s : ByteArray} (h4 : 4 ≤ s.size) (hp : Lib.hasPrefix s.data.toList [38, 35] = true) (hl : (s[s.size - 1]'(by omega)) = 59) : crBody s = (s.extract 2 (s.size - 1)).data.toList ∧ crGood s = !((crText s).toList == []) := by
  obtain ⟨m, hm⟩ := List.isPrefixOf_iff_prefix.1 hp
  have hm2 : s.data.toList = [38, 35] ++ m := hm.symm
  have ht : Lib.trimPrefix s.data.toList [38, 35] = m := by unfold Lib.trimPrefix; rw [hp]; simp [hm2]
  have hz : s.data.toList.length = s.size := rfl
  have hn := congrArg List.length hm2
  simp only [List.length_append, List.length_cons, List.length_nil] at hn
  have h5 : s.data.toList[s.size - 1]? = some 59 := by rw [Lib.data_getElem? s (s.size - 1) (by omega), hl]
  have h6 : m[m.length - 1]? = some 59 := by
    rw [hm2, List.getElem?_append_right (by simp; omega)] at h5
    rw [← h5]; congr 1; simp; omega
  have hsuf : m = m.take (m.length - 1) ++ [59] := by
    have h7 := List.take_append_drop (m.length - 1) m
    have hlt : m.length - 1 < m.length := by omega
    rw [List.drop_eq_getElem_cons hlt, List.drop_eq_nil_of_le (by omega)] at h7
    rw [List.getElem?_eq_getElem hlt] at h6
    rw [Option.some.inj h6] at h7
    exact h7.symm
  have h2 : Lib.hasSuffix m [59] = true := List.isSuffixOf_iff_suffix.2 ⟨_, hsuf.symm⟩
  constructor
  · unfold crBody
    rw [ht]
    unfold Lib.trimSuffix
    rw [h2, if_pos rfl]
    simp only [ByteArray.data_extract, Array.toList_extract, List.extract_eq_take_drop]
    rw [hm2]
    simp
    omega
  · unfold crGood
    rw [hp, ht, h2]
    rfl
/-- The byte on which a number goes on, or not. -/
theorem dig_at (t : ByteArray) (i : Nat) (hi : i < t.size) : digitV ((Utf8.decode t i).1 : Int) = digitV ((t[i]'hi).toNat : Int) ∧ (0 ≤ digitV ((t[i]'hi).toNat : Int) → (Utf8.decode t i).2 = 1) := by
  by_cases ha : (t[i]'hi).toNat < 128
  · rw [decode_ascii t i hi ha]
    exact ⟨rfl, fun _ => rfl⟩
  · have h1 := decode_high t i hi (by omega)
    have h2 : ∀ x : Nat, 128 ≤ x → digitV (x : Int) = -1 := fun x hx => by
      unfold digitV
      rw [if_neg (by omega), if_neg (by omega), if_neg (by omega)]
    rw [h2 _ h1.1, h2 _ (by omega)]
    exact ⟨rfl, fun h => absurd h (by decide)⟩
theorem digV_le (c : Int) : -1 ≤ digitV c ∧ digitV c ≤ 15 := by
  unfold digitV
  repeat' split
  all_goals omega
theorem min_step (r x b : Int) (hb : b = 10 ∨ b = 16) (hr : 0 ≤ r) (hx : 0 ≤ x) : min (min (r * b + x) 1073741824) 1114112 = min (min r 1114112 * b + x) 1114112 := by
  rcases hb with rfl | rfl <;> omega
theorem char_min (r : Int) (h0 : 0 ≤ r) : charB (min r 1114112) = charB r := by
  by_cases h : r ≤ 1114112
  · rw [show min r 1114112 = r by omega]
  · rw [show min r 1114112 = 1114112 by omega]
    unfold charB
    rw [decide_eq_false (by omega), decide_eq_false (by omega)]
set_option maxRecDepth 100000 in
set_option maxHeartbeats 4000000 in
theorem charRefQ_any (s : ByteArray) (w : World) (hs : s.size ≤ 1000000000) : Calls Tryz.prog 67 #[.string s] w fun e w' => e = .returned (.tuple #[.int .i32 (charRefV s).1, .bool (charRefV s).2]) ∧ Below w.heap.size w w' := by
  by_cases h4 : s.size < 4
  · rw [crNot (crShort h4)]
    go_enter Tryz.func67, Tryz.ntmps67
    go_wp2
    go_ret2
    exact ⟨rfl, Below.refl _ _⟩
  · have hst := startsQ_any s 0
    rw [List.drop_zero] at hst
    cases hp : Lib.hasPrefix s.data.toList [38, 35] with
    | false =>
      have hg : crGood s = false := by unfold crGood; rw [hp, Bool.false_and]
      rw [crNot hg]
      have cS := fun W => hst W hs (by omega)
      rw [hp] at cS
      clear hst hp hg
      go_enter Tryz.func67, Tryz.ntmps67
      go_wp2_with (go_at_call 66; refine (cS _).mono ?_; rintro e w1 ⟨rfl, rfl⟩)
      go_ret2
      exact ⟨rfl, Below.refl _ _⟩
    | true =>
      have cS := fun W => hst W hs (by omega)
      rw [hp] at cS
      clear hst
      by_cases hl : (s[s.size - 1]'(by omega)) = 59
      · obtain ⟨hb, hg⟩ := cr_body (by omega) hp hl
        obtain ⟨D, hD⟩ : ∃ D : ByteArray, s.extract 2 (s.size - 1) = D := ⟨_, rfl⟩
        have hDa : D.size + 3 ≤ s.size := by rw [← hD]; simp; omega
        have hDb : s.size ≤ D.size + 3 := by rw [← hD]; simp; omega
        rw [hD] at hb
        have hlz : (((s[s.size - 1]'(by omega)).toNat : Int) != 59) = false := by rw [hl]; rfl
        obtain ⟨c, g, hcg⟩ : ∃ c g, charRefV s = (c, g) := ⟨_, _, rfl⟩
        rw [hcg]
        go_enter Tryz.func67, Tryz.ntmps67
        go_wp2_with (go_at_call 66; refine (cS _).mono ?_; rintro e w1 ⟨rfl, rfl⟩)
        --CR--
        go_region
        have hDpos : 0 < D.size := by omega
        by_cases hx : D[0]'hDpos = 120
        · have hhp : Lib.hasPrefix (crBody s) [120] = true := by
            rw [hb]
            have h1 := drop_at D 0 hDpos
            rw [List.drop_zero] at h1
            rw [h1, hx]
            simp [Lib.hasPrefix]
          have hDt : ∃ T : ByteArray, D.extract 1 D.size = T := ⟨_, rfl⟩
          obtain ⟨T, hT⟩ := hDt
          have hTz : T.size = D.size - 1 := by rw [← hT]; simp
          have hct : crText s = T := by
            unfold crText Lib.trimPrefix
            rw [hhp, if_pos rfl, hb]
            rw [← hT]
            apply ByteArray.ext
            apply Array.toList_inj.mp
            rw [ext_list]
            rfl
          have hnum : crNum s = crAll 16 T T.size 0 0 := by unfold crNum crBase crHex; rw [hhp, hct, if_pos rfl]
          rw [hct] at hg
          have HN := Lib.hid hnum
          have HG := Lib.hid hg
          have hx1 : (((D[0]'hDpos).toNat : Int) == 120) = true := by rw [hx]; rfl
          have hT0 : T.size ≤ 1000000000 := by omega
          have hTs := hT0
          clear hhp hct hnum hg hx
          go_wp2_with fail
          go_region
          go_wp2_with fail
          clear hp hb hD hlz hT0
          go_loop [6, 7] (fun x y => ∃ (i : Nat) (r : Int), y = .int .i64 i ∧ x = .int .i64 r ∧ i ≤ T.size ∧ 0 ≤ r ∧ r ≤ 1073741824 ∧ Hid (crAll 16 T (T.size - i) i (min r 1114112) = crNum s)) (fun _ y => T.size - (intOf y).toNat)
          case atStart => exact ⟨0, 0, rfl, rfl, by omega, by omega, by omega, by show _ = _; rw [HN.out]; rfl⟩
          case round =>
            obtain ⟨i, r, rfl, rfl, hi, hr0, hr1, HR⟩ := hrel
            by_cases hlt : i < T.size
            · have hstep := crAll_step 16 T (T.size - i) i (min r 1114112) (by omega) hlt
              obtain ⟨hd1, hd2⟩ := dig_at T i hlt
              have hdl := digV_le ((T[i]'hlt).toNat : Int)
              have hcr := HR.out
              rw [hstep.1, hd1] at hcr
              have cD := digitQ_any (T[i]'hlt) 16 (by decide) (by decide)
              obtain ⟨X, hX⟩ : ∃ X, digitV ((T[i]'hlt).toNat : Int) = X := ⟨_, rfl⟩
              unfold dgQ at cD
              rw [hX] at hcr hd2 hdl cD
              by_cases hbad : X < 0 ∨ 16 ≤ X
              · rw [if_pos hbad] at hcr
                have hv : (c, g) = ((0 : Int), false) := by rw [← hcg]; exact cr_none hcr.symm
                obtain ⟨hv1, hv2⟩ := Prod.mk.inj hv
                have HV1 := Lib.hid hv1
                have HV2 := Lib.hid hv2
                obtain ⟨Y, hY⟩ : ∃ Y : Int, (if 16 ≤ X then -1 else X) = Y := ⟨_, rfl⟩
                have hY0 : Y < 0 := by rw [← hY]; split <;> omega
                rw [hY] at cD
                clear hY hbad hcr hstep hd1 hd2 hX HR hdl hv hv1 hv2
                go_wp2_with (go_at_call 93; refine (cD _).mono ?_; rintro e w1 ⟨rfl, rfl⟩)
                go_ret2
                exact ⟨by rw [HV1.out, HV2.out]; rfl, Below.drew (Below.drew (Below.refl _ _))⟩
              · have hge : ¬ 16 ≤ X := fun h => hbad (.inr h)
                have hx0 : 0 ≤ X := by omega
                rw [if_neg hbad, hd2 hx0, ← min_step r X 16 (by decide) hr0 hx0] at hcr
                rw [if_neg hge] at cD
                have hnn : T.size - i - 1 = T.size - (i + 1) := by omega
                rw [hnn] at hcr
                have HC := Lib.hid hcr
                have hm0 : 0 ≤ min (r * 16 + X) 1073741824 := by omega
                have hm1 : min (r * 16 + X) 1073741824 ≤ 1073741824 := by omega
                have hxl : X < 16 := by omega
                clear hcr hstep hd1 hd2 hX HR hbad hge hnn hdl
                go_wp2_with (go_at_call 93; refine (cD _).mono ?_; rintro e w1 ⟨rfl, rfl⟩)
                go_round
                case rel => exact ⟨i + 1, _, by go_num, rfl, by omega, hm0, hm1, HC⟩
                case measure => simp [intOf]; omega
            · obtain rfl : i = T.size := by omega
              have hcr := HR.out
              rw [crAll_end 16 T _ _ _ hlt] at hcr
              have hcv := cr_some hcr.symm
              have hch := char_min r hr0
              by_cases hT0 : T.size = 0
              · have hgf : crGood s = false := by rw [HG.out, Lib.toList_data]; have : T.data.toList = [] := List.length_eq_zero_iff.1 hT0; rw [this]; rfl
                obtain ⟨hv1, hv2⟩ := Prod.mk.inj (hcg.symm.trans (crNot hgf))
                have HV1 := Lib.hid hv1
                have HV2 := Lib.hid hv2
                have he : T.toList.isEmpty = true := by rw [toList_isEmpty]; simpa using hT0
                clear hcr hcv hch HR HG HN hgf hv1 hv2
                go_wp2_with fail
                go_ret2
                exact ⟨by rw [HV1.out, HV2.out]; rfl, Below.drew (Below.drew (Below.refl _ _))⟩
              · have hgt : crGood s = true := by
                  rw [HG.out, Lib.toList_data]
                  have : T.data.toList ≠ [] := fun h => hT0 (by rw [show T.size = T.data.toList.length from rfl, h]; rfl)
                  simpa using this
                have he : T.toList.isEmpty = false := by rw [toList_isEmpty]; simpa using hT0
                rw [hgt, Bool.true_and, hch] at hcv
                have cC := fun W => brackenref1_Char.calls r (charB r) W rfl
                cases hb : charB r with
                | false =>
                  rw [hb, if_neg (by decide)] at hcv
                  obtain ⟨hv1, hv2⟩ := Prod.mk.inj (hcg.symm.trans hcv)
                  have HV1 := Lib.hid hv1
                  have HV2 := Lib.hid hv2
                  rw [hb] at cC
                  clear hcr hcv hch HR HG HN hgt hT0 hb hv1 hv2
                  go_wp2_with (go_at_call 26; refine (cC _).mono ?_; rintro e w1 ⟨rfl, hb1⟩)
                  go_ret2
                  exact ⟨by rw [HV1.out, HV2.out]; rfl, (Below.drew (Below.drew (Below.refl _ _))).trans (hb1.below)⟩
                | true =>
                  have hmr : min r 1114112 = r := by
                    have : r ≤ 1114111 := by unfold charB at hb; rw [decide_eq_true_eq] at hb; omega
                    omega
                  rw [hb, if_pos rfl, hmr] at hcv
                  obtain ⟨hv1, hv2⟩ := Prod.mk.inj (hcg.symm.trans hcv)
                  have HV1 := Lib.hid hv1
                  have HV2 := Lib.hid hv2
                  rw [hb] at cC
                  clear hcr hcv hch HR HG HN hgt hT0 hb hmr hv1 hv2
                  go_wp2_with (go_at_call 26; refine (cC _).mono ?_; rintro e w1 ⟨rfl, hb1⟩)
                  go_ret2
                  exact ⟨by rw [HV1.out, HV2.out]; rfl, (Below.drew (Below.drew (Below.refl _ _))).trans (hb1.below)⟩
        · have hhp : Lib.hasPrefix (crBody s) [120] = false := by
            rw [hb]
            have h1 := drop_at D 0 hDpos
            rw [List.drop_zero] at h1
            rw [h1]
            show (((120 : UInt8) == D[0]'hDpos) && true) = false
            rw [Bool.and_true, beq_eq_false_iff_ne]
            exact fun e => hx e.symm
          have hct : crText s = D := by
            unfold crText Lib.trimPrefix
            rw [hhp, if_neg (by decide), hb]
            exact Lib.mk_data D
          have hnum : crNum s = crAll 10 D D.size 0 0 := by unfold crNum crBase crHex; rw [hhp, hct, if_neg (by decide)]
          rw [hct] at hg
          have hx1 : (((D[0]'hDpos).toNat : Int) == 120) = false := by rw [beq_eq_false_iff_ne]; intro e; exact hx (UInt8.toNat_inj.1 (by show _ = 120; omega))
          obtain ⟨T, hT⟩ : ∃ T, T = D := ⟨_, rfl⟩
          have hT0 : T.size ≤ 1000000000 := by rw [hT]; omega
          have hTs := hT0
          subst hT
          have HN := Lib.hid hnum
          have HG := Lib.hid hg
          clear hhp hct hnum hg hx
          go_wp2_with fail
          clear hp hb hD hlz hT0
          go_loop [6, 7] (fun x y => ∃ (i : Nat) (r : Int), y = .int .i64 i ∧ x = .int .i64 r ∧ i ≤ T.size ∧ 0 ≤ r ∧ r ≤ 1073741824 ∧ Hid (crAll 10 T (T.size - i) i (min r 1114112) = crNum s)) (fun _ y => T.size - (intOf y).toNat)
          case atStart => exact ⟨0, 0, rfl, rfl, by omega, by omega, by omega, by show _ = _; rw [HN.out]; rfl⟩
          case round =>
            obtain ⟨i, r, rfl, rfl, hi, hr0, hr1, HR⟩ := hrel
            by_cases hlt : i < T.size
            · have hstep := crAll_step 10 T (T.size - i) i (min r 1114112) (by omega) hlt
              obtain ⟨hd1, hd2⟩ := dig_at T i hlt
              have hdl := digV_le ((T[i]'hlt).toNat : Int)
              have hcr := HR.out
              rw [hstep.1, hd1] at hcr
              have cD := digitQ_any (T[i]'hlt) 10 (by decide) (by decide)
              obtain ⟨X, hX⟩ : ∃ X, digitV ((T[i]'hlt).toNat : Int) = X := ⟨_, rfl⟩
              unfold dgQ at cD
              rw [hX] at hcr hd2 hdl cD
              by_cases hbad : X < 0 ∨ 10 ≤ X
              · rw [if_pos hbad] at hcr
                have hv : (c, g) = ((0 : Int), false) := by rw [← hcg]; exact cr_none hcr.symm
                obtain ⟨hv1, hv2⟩ := Prod.mk.inj hv
                have HV1 := Lib.hid hv1
                have HV2 := Lib.hid hv2
                obtain ⟨Y, hY⟩ : ∃ Y : Int, (if 10 ≤ X then -1 else X) = Y := ⟨_, rfl⟩
                have hY0 : Y < 0 := by rw [← hY]; split <;> omega
                rw [hY] at cD
                clear hY hbad hcr hstep hd1 hd2 hX HR hdl hv hv1 hv2
                go_wp2_with (go_at_call 93; refine (cD _).mono ?_; rintro e w1 ⟨rfl, rfl⟩)
                go_ret2
                exact ⟨by rw [HV1.out, HV2.out]; rfl, Below.drew (Below.refl _ _)⟩
              · have hge : ¬ 10 ≤ X := fun h => hbad (.inr h)
                have hx0 : 0 ≤ X := by omega
                rw [if_neg hbad, hd2 hx0, ← min_step r X 10 (by decide) hr0 hx0] at hcr
                rw [if_neg hge] at cD
                have hnn : T.size - i - 1 = T.size - (i + 1) := by omega
                rw [hnn] at hcr
                have HC := Lib.hid hcr
                have hm0 : 0 ≤ min (r * 10 + X) 1073741824 := by omega
                have hm1 : min (r * 10 + X) 1073741824 ≤ 1073741824 := by omega
                have hxl : X < 10 := by omega
                clear hcr hstep hd1 hd2 hX HR hbad hge hnn hdl
                go_wp2_with (go_at_call 93; refine (cD _).mono ?_; rintro e w1 ⟨rfl, rfl⟩)
                go_round
                case rel => exact ⟨i + 1, _, by go_num, rfl, by omega, hm0, hm1, HC⟩
                case measure => simp [intOf]; omega
            · obtain rfl : i = T.size := by omega
              have hcr := HR.out
              rw [crAll_end 10 T _ _ _ hlt] at hcr
              have hcv := cr_some hcr.symm
              have hch := char_min r hr0
              by_cases hT0 : T.size = 0
              · have hgf : crGood s = false := by rw [HG.out, Lib.toList_data]; have : T.data.toList = [] := List.length_eq_zero_iff.1 hT0; rw [this]; rfl
                obtain ⟨hv1, hv2⟩ := Prod.mk.inj (hcg.symm.trans (crNot hgf))
                have HV1 := Lib.hid hv1
                have HV2 := Lib.hid hv2
                have he : T.toList.isEmpty = true := by rw [toList_isEmpty]; simpa using hT0
                clear hcr hcv hch HR HG HN hgf hv1 hv2
                go_wp2_with fail
                go_ret2
                exact ⟨by rw [HV1.out, HV2.out]; rfl, Below.drew (Below.refl _ _)⟩
              · have hgt : crGood s = true := by
                  rw [HG.out, Lib.toList_data]
                  have : T.data.toList ≠ [] := fun h => hT0 (by rw [show T.size = T.data.toList.length from rfl, h]; rfl)
                  simpa using this
                have he : T.toList.isEmpty = false := by rw [toList_isEmpty]; simpa using hT0
                rw [hgt, Bool.true_and, hch] at hcv
                have cC := fun W => brackenref1_Char.calls r (charB r) W rfl
                cases hb : charB r with
                | false =>
                  rw [hb, if_neg (by decide)] at hcv
                  obtain ⟨hv1, hv2⟩ := Prod.mk.inj (hcg.symm.trans hcv)
                  have HV1 := Lib.hid hv1
                  have HV2 := Lib.hid hv2
                  rw [hb] at cC
                  clear hcr hcv hch HR HG HN hgt hT0 hb hv1 hv2
                  go_wp2_with (go_at_call 26; refine (cC _).mono ?_; rintro e w1 ⟨rfl, hb1⟩)
                  go_ret2
                  exact ⟨by rw [HV1.out, HV2.out]; rfl, (Below.drew (Below.refl _ _)).trans (hb1.below)⟩
                | true =>
                  have hmr : min r 1114112 = r := by
                    have : r ≤ 1114111 := by unfold charB at hb; rw [decide_eq_true_eq] at hb; omega
                    omega
                  rw [hb, if_pos rfl, hmr] at hcv
                  obtain ⟨hv1, hv2⟩ := Prod.mk.inj (hcg.symm.trans hcv)
                  have HV1 := Lib.hid hv1
                  have HV2 := Lib.hid hv2
                  rw [hb] at cC
                  clear hcr hcv hch HR HG HN hgt hT0 hb hmr hv1 hv2
                  go_wp2_with (go_at_call 26; refine (cC _).mono ?_; rintro e w1 ⟨rfl, hb1⟩)
                  go_ret2
                  exact ⟨by rw [HV1.out, HV2.out]; rfl, (Below.drew (Below.refl _ _)).trans (hb1.below)⟩
      · have hlz : (((s[s.size - 1]'(by omega)).toNat : Int) != 59) = true := by rw [bne_iff_ne]; intro e; exact hl (UInt8.toNat_inj.1 (by show _ = 59; omega))
        rw [crNot (crLast (by omega) hl)]
        go_enter Tryz.func67, Tryz.ntmps67
        go_wp2_with (go_at_call 66; refine (cS _).mono ?_; rintro e w1 ⟨rfl, rfl⟩)
        go_ret2
        exact ⟨rfl, Below.refl _ _⟩
/-! ### The document's own references: one in a text -/
/-! ### which references are to characters -/
theorem pre_cut (l : List UInt8) (hc : cutIs l = true) : Lib.hasPrefix (cutA l ++ [59]) [38, 35] = Lib.hasPrefix l [38, 35] := by
  have h := cut_is l hc
  generalize cutA l = A at *
  generalize cutB l = B at *
  subst h
  match A with
  | [] => rfl
  | [a] => show ((38 == a) && ((35 == (59 : UInt8)) && _)) = ((38 == a) && ((35 == (59 : UInt8)) && _)); simp
  | a :: b :: t => rfl
theorem ref_no (l : List UInt8) (hc : cutIs l = true) (hp : Lib.hasPrefix l [38, 35] = false) : refV l = (0, false) := by
  unfold refV
  apply crNot
  unfold crGood
  have e : (crS (cutA l ++ [59])).data.toList = cutA l ++ [59] := rfl
  rw [e, pre_cut l hc, hp, Bool.false_and]
theorem nm_hash (l : List UInt8) (hc : cutIs l = true) (hp : Lib.hasPrefix l [38, 35] = true) : ∃ t, refNm l = crS (35 :: t) := by
  rw [← pre_cut l hc] at hp
  unfold refNm
  generalize cutA l = A at *
  match A with
  | [] => cases hp
  | [a] => have : ((38 == a) && ((35 == (59 : UInt8)) && true)) = true := hp; simp at this
  | a :: b :: t =>
    have : ((38 == a) && ((35 == b) && true)) = true := hp
    simp only [Bool.and_true, Bool.and_eq_true, beq_iff_eq] at this
    exact ⟨t, by rw [← this.2]; rfl⟩
theorem nc_hash (t : List UInt8) : ncB (crS (35 :: t)) = false := by
  have h0 : 0 < (crS (35 :: t)).size := by rw [crS_size]; simp
  have h1 : Utf8.decode (crS (35 :: t)) 0 = (35, 1) := decode_ascii (crS (35 :: t)) 0 h0 (by show (35 : UInt8).toNat < 128; decide)
  have h2 : nameB (crS (35 :: t)) = false := by
    unfold nameB
    have : runesAll nameP (crS (35 :: t)) (crS (35 :: t)).size 0 = false := by
      obtain ⟨n, hn⟩ : ∃ n, (crS (35 :: t)).size = n + 1 := ⟨_, (Nat.succ_pred_eq_of_pos h0).symm⟩
      rw [hn]
      unfold runesAll
      rw [if_pos h0, h1]
      have : nameP 0 ((35 : Nat) : Int) = false := by decide
      rw [this]; rfl
    rw [this]; rfl
  unfold ncB
  rw [h2]; rfl
theorem five_hash (t : List UInt8) : fiveR (crS (35 :: t)) = (⟨#[]⟩, false) := by
  have e : (crS (35 :: t)).toList = 35 :: t := by rw [ByteArray.toList_eq]; rfl
  unfold fiveR
  rw [e]
  repeat rw [if_neg (by intro h; cases h)]
theorem five_nc (nm : ByteArray) (h : (fiveR nm).2 = true) : ncB nm = true := by
  have hm : ∀ l : List UInt8, nm.toList = l → nm = ⟨l.toArray⟩ := by
    intro l hl
    rw [ByteArray.toList_eq] at hl
    apply ByteArray.ext
    rw [← hl]
  unfold fiveR at h
  split at h
  · rename_i h1; rw [hm _ h1]; decide +kernel
  · split at h
    · rename_i h1; rw [hm _ h1]; decide +kernel
    · split at h
      · rename_i h1; rw [hm _ h1]; decide +kernel
      · split at h
        · rename_i h1; rw [hm _ h1]; decide +kernel
        · split at h
          · rename_i h1; rw [hm _ h1]; decide +kernel
          · cases h
theorem five_empty (nm : ByteArray) : (fiveR nm).2 = false → (fiveR nm).1 = ⟨#[]⟩ := by
  unfold fiveR
  split
  · intro h; cases h
  · split
    · intro h; cases h
    · split
      · intro h; cases h
      · split
        · intro h; cases h
        · split
          · intro h; cases h
          · intro _; rfl
theorem contains_58 : ∀ (l : List UInt8), Lib.contains l [58] = l.contains 58
  | [] => rfl
  | c :: t => by
    have ih := contains_58 t
    have hge := Lib.index_ge t [58]
    unfold Lib.contains at ih ⊢
    rw [List.contains_cons, ← ih, Lib.index]
    by_cases h : c = 58
    · subst h
      rw [if_pos (by rfl)]
      rfl
    · have h1 : ([58] : List UInt8).isPrefixOf (c :: t) = false := by
        have : ((58 : UInt8) == c) = false := by rw [beq_eq_false_iff_ne]; exact fun e => h e.symm
        rw [List.isPrefixOf_cons_cons, this]; rfl
      have h2 : ((58 : UInt8) == c) = false := by rw [beq_eq_false_iff_ne]; exact fun e => h e.symm
      rw [h1, h2, Bool.false_or]
      by_cases hz : Lib.index t [58] = -1
      · rw [hz]; rfl
      · have : (Lib.index t [58] == -1) = false := by simpa using hz
        simp only [this, Bool.false_eq_true, if_false]
        apply decide_eq_decide.2
        omega
theorem nc_eq (s : ByteArray) : Spec.ncB s = Val.ncB s := by unfold Spec.ncB Val.ncB; rw [contains_58]
/-! ### a character as bytes -/
theorem u8_of {x : Int} {n : Nat} (h : x = (n : Int)) : x.toNat.toUInt8 = UInt8.ofNat n := by subst h; rfl
theorem enc_eq (r : Int) (h0 : 0 ≤ r) (h1 : r ≤ 1114111) : (⟨(Lib.encodeRune r).toArray⟩ : ByteArray) = Utf8.encode r := by
  obtain ⟨n, rfl⟩ : ∃ n : Nat, r = (n : Int) := ⟨r.toNat, by omega⟩
  unfold Lib.encodeRune Utf8.encode
  by_cases hs : 55296 ≤ n ∧ n ≤ 57343
  · have hv : Utf8.valid (n : Int) = false := by unfold Utf8.valid; simp; omega
    rw [Lib.encodeRuneZ_bad (.inr (.inl (by omega))), hv]
    simp only [Bool.false_eq_true, if_false]
    decide +kernel
  · have hv : Utf8.valid (n : Int) = true := by unfold Utf8.valid; simp; omega
    rw [hv]
    simp only [if_true, Int.toNat_natCast]
    by_cases k1 : n < 128
    · rw [Lib.encodeRuneZ_one (by omega) (by omega), if_pos k1]
      simp only [List.map_cons, List.map_nil]
      rw [u8_of rfl]
    · rw [if_neg (show ¬ n < 0x80 from k1)]
      by_cases k2 : n < 2048
      · rw [Lib.encodeRuneZ_two (by omega) (by omega), if_pos k2]
        simp only [List.map_cons, List.map_nil]
        rw [u8_of (n := 192 + n / 64) (by omega), u8_of (n := 128 + n % 64) (by omega)]
      · rw [if_neg (show ¬ n < 0x800 from k2)]
        by_cases k3 : n < 65536
        · rw [Lib.encodeRuneZ_three (by omega), if_pos k3]
          simp only [List.map_cons, List.map_nil]
          rw [u8_of (n := 224 + n / 4096) (by omega), u8_of (n := 128 + n / 64 % 64) (by omega), u8_of (n := 128 + n % 64) (by omega)]
        · rw [Lib.encodeRuneZ_four (by omega) (by omega), if_neg (show ¬ n < 0x10000 from k3)]
          simp only [List.map_cons, List.map_nil]
          rw [u8_of (n := 240 + n / 262144) (by omega), u8_of (n := 128 + n / 4096 % 64) (by omega), u8_of (n := 128 + n / 64 % 64) (by omega), u8_of (n := 128 + n % 64) (by omega)]
/-! ### ref -/
theorem box_stays {w w2 : World} {o : Obj} (hb : Below (w.alloc o).heap.size (w.alloc o) w2) : w2.heap[w.heap.size]? = some o ∧ w.heap.size < w2.heap.size := by
  have hs := hb.size
  have h1 := hb.block w.heap.size (by simp)
  rw [heap_alloc_new] at h1
  simp at hs
  exact ⟨h1, by omega⟩
/-- A box of a token, written whole. -/
theorem tok_store {w2 : World} {b : Nat} {cs : Array Value} {T : TypeId} (h : w2.heap[b]? = some (.cells cs T (0, 0))) (hs : cs.size = 6) (v0 v1 v2 v3 v4 v5 : Value) :
    ((((((w2.setCell ⟨b, 0, none⟩ v0).setCell ⟨b, 1, none⟩ v1).setCell ⟨b, 2, none⟩ v2).setCell ⟨b, 3, none⟩ v3).setCell ⟨b, 4, none⟩ v4).setCell ⟨b, 5, none⟩ v5).heap[b]? = some (.cells #[v0, v1, v2, v3, v4, v5] T (0, 0)) := by
  simp only [World.setCell, Array.getElem?_modify, h]
  obtain ⟨l⟩ := cs
  match l, hs with
  | [a0, a1, a2, a3, a4, a5], _ => simp
theorem tok_done {w w2 : World} {cs : Array Value} {T : TypeId} (hb : Below (w.alloc (.cells cs T)).heap.size (w.alloc (.cells cs T)) w2) (hs : cs.size = 6) (v0 v1 v2 v3 v4 v5 : Value) :
    ∃ W, W = ((((((w2.setCell ⟨w.heap.size, 0, none⟩ v0).setCell ⟨w.heap.size, 1, none⟩ v1).setCell ⟨w.heap.size, 2, none⟩ v2).setCell ⟨w.heap.size, 3, none⟩ v3).setCell ⟨w.heap.size, 4, none⟩ v4).setCell ⟨w.heap.size, 5, none⟩ v5) ∧
      Below w.heap.size w W ∧ W.cell? ⟨w.heap.size, 0, none⟩ = some v0 ∧ W.cell? ⟨w.heap.size, 1, none⟩ = some v1 ∧ W.cell? ⟨w.heap.size, 2, none⟩ = some v2 ∧ W.cell? ⟨w.heap.size, 3, none⟩ = some v3 ∧ W.cell? ⟨w.heap.size, 4, none⟩ = some v4 ∧ W.cell? ⟨w.heap.size, 5, none⟩ = some v5 := by
  have hbb := ((Below.refl w.heap.size w).alloc (Nat.le_refl _) (.cells cs T)).trans (hb.mono (by simp))
  have hQ := tok_store (box_stays hb).1 hs v0 v1 v2 v3 v4 v5
  refine ⟨_, rfl, (((((hbb.setCell (p := ⟨w.heap.size, 0, none⟩) (Nat.le_refl _) v0).setCell (p := ⟨w.heap.size, 1, none⟩) (Nat.le_refl _) v1).setCell (p := ⟨w.heap.size, 2, none⟩) (Nat.le_refl _) v2).setCell (p := ⟨w.heap.size, 3, none⟩) (Nat.le_refl _) v3).setCell (p := ⟨w.heap.size, 4, none⟩) (Nat.le_refl _) v4).setCell (p := ⟨w.heap.size, 5, none⟩) (Nat.le_refl _) v5, cell_of hQ 0, cell_of hQ 1, cell_of hQ 2, cell_of hQ 3, cell_of hQ 4, cell_of hQ 5⟩
def tokV (kind : Int) (name text : ByteArray) (te : Int) : Value := .agg #[.int .i64 kind, .string name, .string text, .slice none 0 0, .bool false, .int .i64 te]
/-- What a reference at a place is told as. -/
def refT (l : List UInt8) (at_ : Nat) : Value :=
  if cutIs l = false then tokV 0 ⟨#[]⟩ ⟨#[]⟩ 0
  else if (refV l).2 = true then tokV 7 ⟨#[]⟩ ⟨(Lib.encodeRune (refV l).1).toArray⟩ ((at_ + (cutA l).length + 1 : Nat) : Int)
  else if ncB (refNm l) = true then tokV 8 (refNm l) ⟨#[]⟩ ((at_ + (cutA l).length + 1 : Nat) : Int)
  else tokV 0 ⟨#[]⟩ ⟨#[]⟩ 0
theorem take_cut {L A B : List UInt8} (h : L = A ++ 59 :: B) : L.take (A.length + 1) = A ++ [59] := by
  rw [h, show A ++ 59 :: B = (A ++ [59]) ++ B by simp]
  exact List.take_left' (by simp)
theorem drop_cut {L A B : List UInt8} (h : L = A ++ 59 :: B) (i : Nat) : (L.drop 1).take (i + A.length - (i + 1)) = A.drop 1 := by
  rw [h]
  cases A with
  | nil => simp
  | cons a A => simp only [List.cons_append, List.drop_succ_cons, List.drop_zero, List.length_cons]; rw [show i + (A.length + 1) - (i + 1) = A.length by omega]; exact List.take_left' rfl
theorem ext_cut (s : ByteArray) (i : Nat) (hi : i < s.size) (hc : cutIs (s.data.toList.drop i) = true) :
    s.extract i (i + (cutA (s.data.toList.drop i)).length + 1) = crS (cutA (s.data.toList.drop i) ++ [59]) ∧ s.extract (i + 1) (i + (cutA (s.data.toList.drop i)).length) = refNm (s.data.toList.drop i) := by
  have h := cut_is _ hc
  constructor
  · apply ByteArray.ext
    apply Array.toList_inj.mp
    show (s.extract i (i + (cutA (s.data.toList.drop i)).length + 1)).data.toList = cutA (s.data.toList.drop i) ++ [59]
    simp only [ByteArray.data_extract, Array.toList_extract, List.extract_eq_take_drop]
    rw [show i + (cutA (s.data.toList.drop i)).length + 1 - i = (cutA (s.data.toList.drop i)).length + 1 by omega]
    exact take_cut h
  · apply ByteArray.ext
    apply Array.toList_inj.mp
    show (s.extract (i + 1) (i + (cutA (s.data.toList.drop i)).length)).data.toList = (cutA (s.data.toList.drop i)).drop 1
    simp only [ByteArray.data_extract, Array.toList_extract, List.extract_eq_take_drop]
    rw [← List.drop_drop]
    exact drop_cut h i
set_option maxRecDepth 100000 in
set_option maxHeartbeats 4000000 in
theorem refQ_any (s : ByteArray) (at_ : Nat) (w : World) (hs : s.size ≤ 1000000000) (ha : at_ < s.size) (h38 : (s[at_]'ha).toNat = 38) :
    Calls Tryz.prog 46 #[.string s, .int .i64 (at_ : Int)] w fun e w' => e = .returned (refT (s.data.toList.drop at_) at_) ∧ Below w.heap.size w w' := by
  have cF := fun W => findQ_any s at_ W hs (by omega)
  have cS := fun W => startsQ_any s at_ W hs (by omega)
  unfold findV at cF
  cases hc : cutIs (s.data.toList.drop at_) with
  | false =>
    have hR : refT (s.data.toList.drop at_) at_ = tokV 0 ⟨#[]⟩ ⟨#[]⟩ 0 := by unfold refT; rw [if_pos hc]
    rw [hR]
    rw [hc, if_neg (by decide)] at cF
    clear hc hR cS
    go_enter Tryz.func46, Tryz.ntmps46
    go_wp2_with (go_at_call 65; refine (cF _).mono ?_; rintro e w1 ⟨rfl, rfl⟩)
    refine bodyPost_ret (v := tokV 0 ⟨#[]⟩ ⟨#[]⟩ 0) (by simp [results, Tryz.results46, go_sem, tokV]) rfl ⟨rfl, (Below.refl _ _).alloc (Nat.le_refl _) _⟩
  | true =>
    rw [hc, if_pos rfl] at cF
    obtain ⟨hx1, hx2⟩ := ext_cut s at_ ha hc
    have hre := (ref_end s at_ ha hc).1
    have hR : refT (s.data.toList.drop at_) at_ = if (refV (s.data.toList.drop at_)).2 = true then tokV 7 ⟨#[]⟩ ⟨(Lib.encodeRune (refV (s.data.toList.drop at_)).1).toArray⟩ ((at_ + (cutA (s.data.toList.drop at_)).length + 1 : Nat) : Int)
        else if ncB (refNm (s.data.toList.drop at_)) = true then tokV 8 (refNm (s.data.toList.drop at_)) ⟨#[]⟩ ((at_ + (cutA (s.data.toList.drop at_)).length + 1 : Nat) : Int)
        else tokV 0 ⟨#[]⟩ ⟨#[]⟩ 0 := by unfold refT; rw [hc, if_neg (by decide)]
    rw [hR]
    cases hp : Lib.hasPrefix (s.data.toList.drop at_) [38, 35] with
    | true =>
      obtain ⟨t, ht⟩ := nm_hash _ hc hp
      rw [ht, nc_hash t, if_neg (by decide : ¬ (false = true))]
      rw [hp] at cS
      have hrr := refV_range (s.data.toList.drop at_)
      have cR := fun W => charRefQ_any (crS (cutA (s.data.toList.drop at_) ++ [59])) W (by rw [crS_size]; simp; omega)
      rw [← hx1] at cR
      have cR : ∀ W, Calls Tryz.prog 67 #[.string (s.extract at_ (at_ + (cutA (s.data.toList.drop at_)).length + 1))] W fun e w' => e = .returned (.tuple #[.int .i32 (refV (s.data.toList.drop at_)).1, .bool (refV (s.data.toList.drop at_)).2]) ∧ Below W.heap.size W w' := by
        intro W
        have h1 := cR W
        have e1 : refV (s.data.toList.drop at_) = charRefV (s.extract at_ (at_ + (cutA (s.data.toList.drop at_)).length + 1)) := by rw [hx1]; rfl
        rw [e1]
        exact h1
      generalize (cutA (s.data.toList.drop at_)).length = K at *
      generalize refV (s.data.toList.drop at_) = RV at *
      obtain ⟨rv, rg⟩ := RV
      clear hx1 hx2 hR ht hc hp
      simp only at *
      cases rg with
      | true =>
        obtain ⟨h0, h1⟩ := hrr rfl
        rw [if_pos rfl]
        go_enter Tryz.func46, Tryz.ntmps46
        go_wp2_with (first | (go_at_call 65; refine (cF _).mono ?_; rintro e w1 ⟨rfl, rfl⟩) | (go_at_call 66; refine (cS _).mono ?_; rintro e w1 ⟨rfl, rfl⟩) | (go_at_call 67; refine (cR _).mono ?_; rintro e w2 ⟨rfl, hb2⟩; obtain ⟨q0, qz⟩ := box_stays hb2; have c0 := cell_of q0 0; have c1 := cell_of q0 1; have c2 := cell_of q0 2; have c3 := cell_of q0 3; have c4 := cell_of q0 4; have c5 := cell_of q0 5; have f0 := frozen_of q0 0; have f1 := frozen_of q0 1; have f2 := frozen_of q0 2; have f3 := frozen_of q0 3; have f4 := frozen_of q0 4; have f5 := frozen_of q0 5))
        obtain ⟨W, hW, hBB, d0, d1, d2, d3, d4, d5⟩ := tok_done hb2 rfl (.int .i64 7) (.string ⟨#[]⟩) (.string (Utf8.encode rv)) (.slice none 0 0) (.bool false) (.int .i64 ((at_ : Int) + (K : Int) + 1))
        rw [← hW]
        clear hW q0 qz c0 c1 c2 c3 c4 c5 f0 f1 f2 f3 f4 f5
        refine bodyPost_ret (v := .agg #[.int .i64 7, .string ⟨#[]⟩, .string (Utf8.encode rv), .slice none 0 0, .bool false, .int .i64 ((at_ : Int) + (K : Int) + 1)]) (by simp [results, Tryz.results46, go_sem, d0, d1, d2, d3, d4, d5]) rfl ⟨?_, hBB⟩
        rw [enc_eq rv h0 h1]
        rfl
      | false =>
        rw [if_neg (by decide)]
        go_enter Tryz.func46, Tryz.ntmps46
        go_wp2_with (first | (go_at_call 65; refine (cF _).mono ?_; rintro e w1 ⟨rfl, rfl⟩) | (go_at_call 66; refine (cS _).mono ?_; rintro e w1 ⟨rfl, rfl⟩) | (go_at_call 67; refine (cR _).mono ?_; rintro e w2 ⟨rfl, hb2⟩; obtain ⟨q0, qz⟩ := box_stays hb2; have c0 := cell_of q0 0; have c1 := cell_of q0 1; have c2 := cell_of q0 2; have c3 := cell_of q0 3; have c4 := cell_of q0 4; have c5 := cell_of q0 5; have f0 := frozen_of q0 0; have f1 := frozen_of q0 1; have f2 := frozen_of q0 2; have f3 := frozen_of q0 3; have f4 := frozen_of q0 4; have f5 := frozen_of q0 5))
        obtain ⟨W, hW, hBB, d0, d1, d2, d3, d4, d5⟩ := tok_done hb2 rfl (.int .i64 0) (.string ⟨#[]⟩) (.string ⟨#[]⟩) (.slice none 0 0) (.bool false) (.int .i64 0)
        rw [← hW]
        clear hW q0 qz c0 c1 c2 c3 c4 c5 f0 f1 f2 f3 f4 f5
        refine bodyPost_ret (v := .agg #[.int .i64 0, .string ⟨#[]⟩, .string ⟨#[]⟩, .slice none 0 0, .bool false, .int .i64 0]) (by simp [results, Tryz.results46, go_sem, d0, d1, d2, d3, d4, d5]) rfl ⟨?_, hBB⟩
        rfl
    | false =>
      rw [ref_no _ hc hp, if_neg (by decide : ¬ (false = true))]
      rw [hp] at cS
      have hz : (refNm (s.data.toList.drop at_)).size ≤ 1000000000 := by rw [← hx2]; simp; omega
      have cN := fun W => (Ref.brackenref1_NCName.calls (refNm (s.data.toList.drop at_)) (ncB (refNm (s.data.toList.drop at_))) W (by unfold Ref.brackenref1_NCName.f; rw [if_pos (by omega), nc_eq]))
      rw [← hx2] at cN ⊢
      have hK1 : 1 ≤ (cutA (s.data.toList.drop at_)).length := by
        rw [drop_at s at_ ha, (cutA_amp _ _ h38).1]; simp
      obtain ⟨N, hN⟩ : ∃ N, s.extract (at_ + 1) (at_ + (cutA (s.data.toList.drop at_)).length) = N := ⟨_, rfl⟩
      rw [hN] at cN ⊢
      generalize hK : (cutA (s.data.toList.drop at_)).length = K at *
      have HN := Lib.hid hN
      obtain ⟨b, hb⟩ : ∃ b, ncB N = b := ⟨_, rfl⟩
      rw [hb] at cN ⊢
      clear hx1 hx2 hR hc hp hz hN hb hK
      cases b with
      | true =>
        rw [if_pos rfl]
        go_enter Tryz.func46, Tryz.ntmps46
        go_wp2_with (first | (go_at_call 65; refine (cF _).mono ?_; rintro e w1 ⟨rfl, rfl⟩) | (go_at_call 66; refine (cS _).mono ?_; rintro e w1 ⟨rfl, rfl⟩) | (go_at_call 68; (first | rw [HN.out] | skip); refine (cN _).mono ?_; rintro e w2 ⟨rfl, hb2⟩; obtain ⟨q0, qz⟩ := box_stays hb2.below; have c0 := cell_of q0 0; have c1 := cell_of q0 1; have c2 := cell_of q0 2; have c3 := cell_of q0 3; have c4 := cell_of q0 4; have c5 := cell_of q0 5; have f0 := frozen_of q0 0; have f1 := frozen_of q0 1; have f2 := frozen_of q0 2; have f3 := frozen_of q0 3; have f4 := frozen_of q0 4; have f5 := frozen_of q0 5))
        obtain ⟨W, hW, hBB, d0, d1, d2, d3, d4, d5⟩ := tok_done hb2.below rfl (.int .i64 8) (.string N) (.string ⟨#[]⟩) (.slice none 0 0) (.bool false) (.int .i64 ((at_ : Int) + (K : Int) + 1))
        rw [HN.out, ← hW]
        clear hW q0 qz c0 c1 c2 c3 c4 c5 f0 f1 f2 f3 f4 f5
        refine bodyPost_ret (v := .agg #[.int .i64 8, .string N, .string ⟨#[]⟩, .slice none 0 0, .bool false, .int .i64 ((at_ : Int) + (K : Int) + 1)]) (by simp [results, Tryz.results46, go_sem, d0, d1, d2, d3, d4, d5]) rfl ⟨?_, hBB⟩
        rfl
      | false =>
        rw [if_neg (by decide)]
        go_enter Tryz.func46, Tryz.ntmps46
        go_wp2_with (first | (go_at_call 65; refine (cF _).mono ?_; rintro e w1 ⟨rfl, rfl⟩) | (go_at_call 66; refine (cS _).mono ?_; rintro e w1 ⟨rfl, rfl⟩) | (go_at_call 68; (first | rw [HN.out] | skip); refine (cN _).mono ?_; rintro e w2 ⟨rfl, hb2⟩; obtain ⟨q0, qz⟩ := box_stays hb2.below; have c0 := cell_of q0 0; have c1 := cell_of q0 1; have c2 := cell_of q0 2; have c3 := cell_of q0 3; have c4 := cell_of q0 4; have c5 := cell_of q0 5; have f0 := frozen_of q0 0; have f1 := frozen_of q0 1; have f2 := frozen_of q0 2; have f3 := frozen_of q0 3; have f4 := frozen_of q0 4; have f5 := frozen_of q0 5))
        obtain ⟨W, hW, hBB, d0, d1, d2, d3, d4, d5⟩ := tok_done hb2.below rfl (.int .i64 0) (.string ⟨#[]⟩) (.string ⟨#[]⟩) (.slice none 0 0) (.bool false) (.int .i64 0)
        rw [← hW]
        clear hW q0 qz c0 c1 c2 c3 c4 c5 f0 f1 f2 f3 f4 f5
        refine bodyPost_ret (v := .agg #[.int .i64 0, .string ⟨#[]⟩, .string ⟨#[]⟩, .slice none 0 0, .bool false, .int .i64 0]) (by simp [results, Tryz.results46, go_sem, d0, d1, d2, d3, d4, d5]) rfl ⟨?_, hBB⟩
        rfl
end Go.Proofs.YtmjdjpelhhibgaaGreatDoor.Val
