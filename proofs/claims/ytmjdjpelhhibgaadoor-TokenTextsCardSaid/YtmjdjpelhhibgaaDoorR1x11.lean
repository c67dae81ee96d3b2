-- written by wip/gen.py (this session's own driver of the kit's printer); Lean checks it
import Derived.Test.YtmjdjpelhhibgaaDoorR1x0
import Derived.Test.YtmjdjpelhhibgaaDoorR1x8
import Derived.Test.YtmjdjpelhhibgaaDoorR1x10
namespace Go.Proofs.YtmjdjpelhhibgaaDoor.R1
open Go.Proofs.YtmjdjpelhhibgaaDoor.Giv
open Go.RowKit Go.Proofs.YtmjdjpelhhibgaaDoorW.PrintWords Go.Proofs.YtmjdjpelhhibgaaDoorW.PrintLast Go.Proofs.YtmjdjpelhhibgaaDoorW.PrintMore
attribute [local go_sem] max2_int min2_int max_two min_two max_three min_three max_four min_four   -- for this text's walks alone
set_option linter.unusedVariables false
set_option linter.unusedSimpArgs false

/-! ### brackenlaw10_TokenTexts: function 3 -/
mutual
def brackenlaw10_TokenTexts.j0 : Nat → ByteArray → Int → Bool → Option (Bool)
  | 0, _, _, _ => none
  | k + 1, x0, x1, x18 => if x18 = true then ((brackenlaw10_told.f k).bind fun t345 => (some t345)) else (brackenlaw10_TokenTexts.l0 k x0 x1 false 0)
def brackenlaw10_TokenTexts.l0 : Nat → ByteArray → Int → Bool → Int → Option (Bool)
  | 0, _, _, _, _ => none
  | k + 1, x0, x1, x5, x6 => if x6 < (x0.size : Int) then (if 0 ≤ x6 then (if (bt x0 x6) = 60 then ((brackenlaw10_told.f k).bind fun t346 => (some t346)) else (if (bt x0 x6) = 38 then ((brackenlaw10_told.f k).bind fun t347 => (some t347)) else (if x5 = true then (brackenlaw10_TokenTexts.l0 k x0 x1 true (wrap64 (x6 + 1))) else (if (wrap64 (x6 + 2)) < (x0.size : Int) then (if x6 ≤ (wrap64 (x6 + 3)) then (if (wrap64 (x6 + 3)) ≤ (x0.size : Int) then (brackenlaw10_TokenTexts.l0 k x0 x1 ((x0.extract (x6 : Int).toNat ((wrap64 (x6 + 3)) : Int).toNat).toList == ([93, 93, 62] : List UInt8)) (wrap64 (x6 + 1))) else (none)) else (none)) else (brackenlaw10_TokenTexts.l0 k x0 x1 false (wrap64 (x6 + 1))))))) else (none)) else ((some (([(⟨#[]⟩ : ByteArray), (⟨#[60, 98, 47, 62]⟩ : ByteArray), (⟨#[38, 108, 116, 59]⟩ : ByteArray)] : List ByteArray) : List ByteArray)).bind fun y348 => (if 0 ≤ (Int.tmod (IntKind.u64.wrap (x1)) 3) then (if (Int.tmod (IntKind.u64.wrap (x1)) 3) < (y348.length : Int) then (if x0.size + (rdOf ByteArray.empty y348 (Int.tmod (IntKind.u64.wrap (x1)) 3)).size ≤ 9223372036854775807 then ((token_Next.f k (x0 ++ (rdOf ByteArray.empty y348 (Int.tmod (IntKind.u64.wrap (x1)) 3))) 0).bind fun bt352 => (if x5 = true then ((brackenlaw10_told.f k).bind fun t362 => (if t362 = true then (if bt352.2.2.2.2.2.2 = 2 then (if bt352.2.2.2.2.2.1 = 0 then (some (bt352.1 == 0)) else (some false)) else (some false)) else (some false))) else ((brackenlaw10_told.f k).bind fun t363 => (if t363 = true then (if bt352.2.2.2.2.2.2 = 0 then (if bt352.2.2.2.2.2.1 = (x0.size : Int) then (if bt352.1 = 1 then (some (bt352.2.2.1.toList == x0.toList)) else (some false)) else (some false)) else (some false)) else (some false))))) else (none)) else (none)) else (none)))
end
def brackenlaw10_TokenTexts.f (k : Nat) (a0 : ByteArray) (a1 : Int) : Option (Bool) := if (a0.size : Int) > 60 then (brackenlaw10_TokenTexts.j0 k a0 a1 true) else (brackenlaw10_TokenTexts.j0 k a0 a1 (decide ((a0.size : Int) < 1)))
theorem brackenlaw10_TokenTexts.mono_l : ∀ k, (∀ y0 y1 y2, LeO (brackenlaw10_TokenTexts.j0 k y0 y1 y2) (brackenlaw10_TokenTexts.j0 (k + 1) y0 y1 y2)) ∧ (∀ y0 y1 y2 y3, LeO (brackenlaw10_TokenTexts.l0 k y0 y1 y2 y3) (brackenlaw10_TokenTexts.l0 (k + 1) y0 y1 y2 y3))
  | 0 => ⟨fun _ _ _ r h => by simp [brackenlaw10_TokenTexts.j0] at h, fun _ _ _ _ r h => by simp [brackenlaw10_TokenTexts.l0] at h⟩
  | k + 1 => by
    obtain ⟨ih0, ih1⟩ := brackenlaw10_TokenTexts.mono_l k
    refine ⟨?_, ?_⟩
    · intro y0 y1 y2
      unfold brackenlaw10_TokenTexts.j0
      repeat' first
      | (with_reducible exact ih0 _ _ _)
      | (with_reducible exact ih1 _ _ _ _)
      | (with_reducible exact brackenlaw10_told.mono _)
      | (with_reducible exact token_Next.mono _ _ _)
      | (with_reducible exact LeO.refl _)
      | (with_reducible exact LeO.none _)
      | (with_reducible refine LeO.ite ?_ ?_)
      | (with_reducible refine LeO.bind ?_ (fun _ => ?_))
      | exact ih0 _ _ _
      | exact ih1 _ _ _ _
      | exact brackenlaw10_told.mono _
      | exact token_Next.mono _ _ _
      | exact LeO.none _
      | refine LeO.ite ?_ ?_
      | refine LeO.bind ?_ (fun _ => ?_)
    · intro y0 y1 y2 y3
      unfold brackenlaw10_TokenTexts.l0
      repeat' first
      | (with_reducible exact ih0 _ _ _)
      | (with_reducible exact ih1 _ _ _ _)
      | (with_reducible exact brackenlaw10_told.mono _)
      | (with_reducible exact token_Next.mono _ _ _)
      | (with_reducible exact LeO.refl _)
      | (with_reducible exact LeO.none _)
      | (with_reducible refine LeO.ite ?_ ?_)
      | (with_reducible refine LeO.bind ?_ (fun _ => ?_))
      | exact ih0 _ _ _
      | exact ih1 _ _ _ _
      | exact brackenlaw10_told.mono _
      | exact token_Next.mono _ _ _
      | exact LeO.none _
      | refine LeO.ite ?_ ?_
      | refine LeO.bind ?_ (fun _ => ?_)
theorem brackenlaw10_TokenTexts.mono : ∀ a0 a1 k, LeO (brackenlaw10_TokenTexts.f k a0 a1) (brackenlaw10_TokenTexts.f (k + 1) a0 a1) := by
  intro a0 a1 k
  obtain ⟨ih0, ih1⟩ := brackenlaw10_TokenTexts.mono_l k
  unfold brackenlaw10_TokenTexts.f
  repeat' first
      | (with_reducible exact ih0 _ _ _)
      | (with_reducible exact ih1 _ _ _ _)
      | (with_reducible exact brackenlaw10_told.mono _)
      | (with_reducible exact token_Next.mono _ _ _)
      | (with_reducible exact LeO.refl _)
      | (with_reducible exact LeO.none _)
      | (with_reducible refine LeO.ite ?_ ?_)
      | (with_reducible refine LeO.bind ?_ (fun _ => ?_))
      | exact ih0 _ _ _
      | exact ih1 _ _ _ _
      | exact brackenlaw10_told.mono _
      | exact token_Next.mono _ _ _
      | exact LeO.none _
      | refine LeO.ite ?_ ?_
      | refine LeO.bind ?_ (fun _ => ?_)
set_option maxHeartbeats 8000000 in
set_option maxRecDepth 100000 in
theorem brackenlaw10_TokenTexts.calls (k : Nat) (a0 : ByteArray) (a1 : Int) (r : Bool) (w : World) (hE : Env w) (hTrue : Hid (r = true)) (h : brackenlaw10_TokenTexts.f k a0 a1 = some r) :
    Calls Tryd.prog 3 #[.string a0, .int .i64 a1] w fun e w' => e = .returned (.bool r) ∧ Below w.heap.size w w' := by
  have hu27 := Tryd.underlying27
  have HE := Aside0.mk hE
  clear hE
  have HB := Aside0.mk (Below.refl w.heap.size w)
  have H : (if (a0.size : Int) > 60 then (brackenlaw10_TokenTexts.j0 k a0 a1 true) else (brackenlaw10_TokenTexts.j0 k a0 a1 (decide ((a0.size : Int) < 1)))) = some r := h
  clear h
  have HC3 := Aside0.mk H
  clear H
  go_enter Tryd.func3, Tryd.ntmps3
  go_upto_region 1 with (fail)
  go_cut [18] (fun v18 wc => ∃ (kq : Nat) (x18_2 : Bool), v18 = .bool x18_2 ∧ Aside0 (brackenlaw10_TokenTexts.j0 kq a0 a1 x18_2 = some r) ∧ Aside0 (kq ≤ k) ∧ Aside0 (Below w.heap.size w wc))
  case first =>
    have H := HC3.out
    clear HC3
    by_cases c4 : (a0.size : Int) > 60
    · rw [if_pos c4] at H
      have c4b0 : decide (60 < (a0.size : Int)) = true := decide_eq_true c4
      have c4b1 : decide (60 < a0.size) = true := decide_eq_true (by omega)
      clear c4
      (first | rw [c4b0] | (simp only [i64_w, i32_w]; rw [c4b0]) | skip)
      have H' := Aside0.mk H
      clear H
      go_wp2
      go_meet
      case rel => exact ⟨_, (true), (by first | rfl | (simp; done) | (simp [*]; done)), H', ⟨by first | omega | exact Nat.le_refl _⟩, ⟨by repeat (first | (with_reducible first | exact HB.out | apply below_alloc | apply pw_below_drewN | apply below_drew1) | exact HB.out)⟩⟩
    · rw [if_neg c4] at H
      have c4b0 : decide (60 < (a0.size : Int)) = false := decide_eq_false c4
      have c4b1 : decide (60 < a0.size) = false := decide_eq_false (by omega)
      clear c4
      (first | rw [c4b0] | (simp only [i64_w, i32_w]; rw [c4b0]) | skip)
      have H' := Aside0.mk H
      clear H
      go_wp2
      go_meet
      case rel => exact ⟨_, (decide ((a0.size : Int) < 1)), (by first | rfl | (simp; done) | (simp [*]; done)), H', ⟨by first | omega | exact Nat.le_refl _⟩, ⟨by repeat (first | (with_reducible first | exact HB.out | apply below_alloc | apply pw_below_drewN | apply below_drew1) | exact HB.out)⟩⟩
  case rest =>
    clear HC3
    try clear p2
    try clear c3
    try clear c4
    try clear c4b0
    try clear c4b1
    obtain ⟨kq, x18_2, rfl, HA, HJ2, HB⟩ := hcut
    cases kq with
    | zero => exact absurd HA.out (by simp [brackenlaw10_TokenTexts.j0])
    | succ kj2 =>
      have H := HA.out
      clear HA
      simp only [brackenlaw10_TokenTexts.j0] at H
      by_cases c5 : x18_2 = true
      · subst c5
        have H1 : ((brackenlaw10_told.f kj2).bind fun t345 => (some t345)) = some r := by rw [if_pos rfl] at H; exact H
        clear H
        have H := H1
        clear H1
        replace H := Option.bind_eq_some_iff.mp H
        obtain ⟨t345, A60, H⟩ := H
        replace H : (some t345) = some r := H
        have A6 := Aside0.mk A60
        clear A60
        obtain rfl := Option.some.inj H
        go_wp2_with (first | (go_at_call 14; (with_reducible refine (brackenlaw10_told.calls kj2  t345 _ (Env.below HE.out (by repeat (first | (with_reducible first | exact HB.out | apply below_alloc | apply pw_below_drewN | apply below_drew1) | exact HB.out))) hTrue A6.out).mono ?_); rintro e w7 ⟨rfl, hb⟩; have n0_ := Aside0.mk (below_step (by repeat (first | (with_reducible first | exact HB.out | apply below_alloc | apply pw_below_drewN | apply below_drew1) | exact HB.out)) hb); clear HB; have HB := n0_; clear n0_; (try clear hb); (try clear hb2); (try clear hk); (try clear hi)))
        go_ret
        exact ⟨by first | rfl | (simp [errW_none, errW_some] <;> rfl) | (simp [*, errW_none, errW_some] <;> rfl), by repeat (first | (with_reducible first | exact HB.out | apply below_alloc | apply pw_below_drewN | apply below_drew1) | exact HB.out)⟩
      · replace c5 := Bool.eq_false_iff.mpr c5
        subst c5
        have H1 : (brackenlaw10_TokenTexts.l0 kj2 a0 a1 false 0) = some r := by rw [if_neg (show ¬ (false = true) by decide)] at H; exact H
        clear H
        have H := H1
        clear H1
        have H' := Aside0.mk H
        clear H
        go_wp2
        go_loopg [5, 6] kj2 (fun kq v5 v6 w' => ∃ (x5_2 : Bool) (x6_2 : Int), v5 = .bool x5_2 ∧ v6 = .int .i64 x6_2 ∧ Aside0 (brackenlaw10_TokenTexts.l0 kq a0 a1 x5_2 x6_2 = some r) ∧ Aside0 (kq ≤ kj2) ∧ Aside0 (Below w.heap.size w w'))
        case atStart => exact ⟨(false), (0), (by first | rfl | (simp; done) | (simp [*]; done)), (by first | rfl | (simp; done) | (simp [*]; done)), H', ⟨Nat.le_refl _⟩, ⟨by repeat (first | (with_reducible first | exact HB.out | apply below_alloc | apply pw_below_drewN | apply below_drew1) | exact HB.out)⟩⟩
        case round =>
          clear H'
          try clear p2
          try clear c3
          try clear c4
          try clear c4b0
          try clear c4b1
          try clear c5
          try clear p2
          obtain ⟨x5_2, x6_2, rfl, rfl, HA, HK2, HB⟩ := hrel
          cases gk with
          | zero => exact absurd HA.out (by simp [brackenlaw10_TokenTexts.l0])
          | succ k2 =>
            have H := HA.out
            clear HA
            simp only [brackenlaw10_TokenTexts.l0] at H
            by_cases c8 : x6_2 < (a0.size : Int)
            · rw [if_pos c8] at H
              have c8b0 : decide (x6_2 < (a0.size : Int)) = true := decide_eq_true c8
              clear c8
              by_cases c9 : 0 ≤ x6_2
              · rw [if_pos c9] at H
                have c9b0 : decide (0 ≤ x6_2) = true := decide_eq_true c9
                clear c9
                by_cases c11 : (bt a0 x6_2) = 60
                · rw [if_pos c11] at H
                  have c11b0 : ((bt a0 x6_2) == 60) = true := beq_iff_eq.mpr c11
                  have c11b1 : ((bt a0 x6_2) != 60) = false := bne_eq_false_iff_eq.mpr c11
                  clear c11
                  replace H := Option.bind_eq_some_iff.mp H
                  obtain ⟨t346, A120, H⟩ := H
                  replace H : (some t346) = some r := H
                  have A12 := Aside0.mk A120
                  clear A120
                  obtain rfl := Option.some.inj H
                  have p10 : 0 ≤ (x6_2 : Int) := of_decide_eq_true (by first | (with_reducible assumption) | assumption)
                  have q10 : x6_2 < (a0.size : Int) := of_decide_eq_true (by first | (with_reducible assumption) | assumption)
                  have hx10 := bt_at a0 x6_2
                  replace p10 := eq_true p10
                  replace q10 := eq_true q10
                  go_wp2_with (first | (go_at_call 14; (with_reducible refine (brackenlaw10_told.calls k2  t346 _ (Env.below HE.out (by repeat (first | (with_reducible first | exact HB.out | apply below_alloc | apply pw_below_drewN | apply below_drew1) | exact HB.out))) hTrue A12.out).mono ?_); rintro e w13 ⟨rfl, hb⟩; have n0_ := Aside0.mk (below_step (by repeat (first | (with_reducible first | exact HB.out | apply below_alloc | apply pw_below_drewN | apply below_drew1) | exact HB.out)) hb); clear HB; have HB := n0_; clear n0_; (try clear hb); (try clear hb2); (try clear hk); (try clear hi)))
                  go_ret
                  exact ⟨by first | rfl | (simp [errW_none, errW_some] <;> rfl) | (simp [*, errW_none, errW_some] <;> rfl), by repeat (first | (with_reducible first | exact HB.out | apply below_alloc | apply pw_below_drewN | apply below_drew1) | exact HB.out)⟩
                · rw [if_neg c11] at H
                  have c11b0 : ((bt a0 x6_2) == 60) = false := beq_eq_false_iff_ne.mpr c11
                  have c11b1 : ((bt a0 x6_2) != 60) = true := bne_iff_ne.mpr c11
                  by_cases c15 : (bt a0 x6_2) = 38
                  · rw [if_pos c15] at H
                    have c15b0 : ((bt a0 x6_2) == 38) = true := beq_iff_eq.mpr c15
                    have c15b1 : ((bt a0 x6_2) != 38) = false := bne_eq_false_iff_eq.mpr c15
                    clear c15
                    replace H := Option.bind_eq_some_iff.mp H
                    obtain ⟨t347, A160, H⟩ := H
                    replace H : (some t347) = some r := H
                    have A16 := Aside0.mk A160
                    clear A160
                    obtain rfl := Option.some.inj H
                    have p10 : 0 ≤ (x6_2 : Int) := of_decide_eq_true (by first | (with_reducible assumption) | assumption)
                    have q10 : x6_2 < (a0.size : Int) := of_decide_eq_true (by first | (with_reducible assumption) | assumption)
                    have hx10 := bt_at a0 x6_2
                    replace p10 := eq_true p10
                    replace q10 := eq_true q10
                    have p14 : 0 ≤ (x6_2 : Int) := of_decide_eq_true (by first | (with_reducible assumption) | assumption)
                    have q14 : x6_2 < (a0.size : Int) := of_decide_eq_true (by first | (with_reducible assumption) | assumption)
                    have hx14 := bt_at a0 x6_2
                    replace p14 := eq_true p14
                    replace q14 := eq_true q14
                    go_wp2_with (first | (go_at_call 14; (with_reducible refine (brackenlaw10_told.calls k2  t347 _ (Env.below HE.out (by repeat (first | (with_reducible first | exact HB.out | apply below_alloc | apply pw_below_drewN | apply below_drew1) | exact HB.out))) hTrue A16.out).mono ?_); rintro e w17 ⟨rfl, hb⟩; have n0_ := Aside0.mk (below_step (by repeat (first | (with_reducible first | exact HB.out | apply below_alloc | apply pw_below_drewN | apply below_drew1) | exact HB.out)) hb); clear HB; have HB := n0_; clear n0_; (try clear hb); (try clear hb2); (try clear hk); (try clear hi)))
                    go_ret
                    exact ⟨by first | rfl | (simp [errW_none, errW_some] <;> rfl) | (simp [*, errW_none, errW_some] <;> rfl), by repeat (first | (with_reducible first | exact HB.out | apply below_alloc | apply pw_below_drewN | apply below_drew1) | exact HB.out)⟩
                  · rw [if_neg c15] at H
                    have c15b0 : ((bt a0 x6_2) == 38) = false := beq_eq_false_iff_ne.mpr c15
                    have c15b1 : ((bt a0 x6_2) != 38) = true := bne_iff_ne.mpr c15
                    by_cases c18 : x5_2 = true
                    · subst c18
                      have H1 : (brackenlaw10_TokenTexts.l0 k2 a0 a1 true (wrap64 (x6_2 + 1))) = some r := by rw [if_pos rfl] at H; exact H
                      clear H
                      have H := H1
                      clear H1
                      have H' := Aside0.mk H
                      clear H
                      have p10 : 0 ≤ (x6_2 : Int) := of_decide_eq_true (by first | (with_reducible assumption) | assumption)
                      have q10 : x6_2 < (a0.size : Int) := of_decide_eq_true (by first | (with_reducible assumption) | assumption)
                      have hx10 := bt_at a0 x6_2
                      replace p10 := eq_true p10
                      replace q10 := eq_true q10
                      have p14 : 0 ≤ (x6_2 : Int) := of_decide_eq_true (by first | (with_reducible assumption) | assumption)
                      have q14 : x6_2 < (a0.size : Int) := of_decide_eq_true (by first | (with_reducible assumption) | assumption)
                      have hx14 := bt_at a0 x6_2
                      replace p14 := eq_true p14
                      replace q14 := eq_true q14
                      go_wp2
                      go_roundg k2
                      case measure => have := HJ2.out; have := HK2.out; omega
                      case rel => exact ⟨(true), (wrap64 (x6_2 + 1)), (by first | rfl | (simp; done) | (simp [*]; done)), (by first | rfl | (simp; done) | (simp [*]; done)), H', ⟨by have := HJ2.out; have := HK2.out; omega⟩, ⟨by repeat (first | (with_reducible first | exact HB.out | apply below_alloc | apply pw_below_drewN | apply below_drew1) | exact HB.out)⟩⟩
                    · replace c18 := Bool.eq_false_iff.mpr c18
                      subst c18
                      have H1 : (if (wrap64 (x6_2 + 2)) < (a0.size : Int) then (if x6_2 ≤ (wrap64 (x6_2 + 3)) then (if (wrap64 (x6_2 + 3)) ≤ (a0.size : Int) then (brackenlaw10_TokenTexts.l0 k2 a0 a1 ((a0.extract (x6_2 : Int).toNat ((wrap64 (x6_2 + 3)) : Int).toNat).toList == ([93, 93, 62] : List UInt8)) (wrap64 (x6_2 + 1))) else (none)) else (none)) else (brackenlaw10_TokenTexts.l0 k2 a0 a1 false (wrap64 (x6_2 + 1)))) = some r := by rw [if_neg (show ¬ (false = true) by decide)] at H; exact H
                      clear H
                      have H := H1
                      clear H1
                      by_cases c19 : (wrap64 (x6_2 + 2)) < (a0.size : Int)
                      · rw [if_pos c19] at H
                        have c19b0 : decide ((wrap64 (x6_2 + 2)) < (a0.size : Int)) = true := decide_eq_true c19
                        clear c19
                        have c20b0 := eq_true (of_decide_eq_true (by first | (with_reducible assumption) | assumption) : 0 ≤ x6_2)
                        by_cases c21 : x6_2 ≤ (wrap64 (x6_2 + 3))
                        · rw [if_pos c21] at H
                          have c21b0 := eq_true c21
                          have c21b1 : decide (x6_2 ≤ (wrap64 (x6_2 + 3))) = true := decide_eq_true c21
                          by_cases c22 : (wrap64 (x6_2 + 3)) ≤ (a0.size : Int)
                          · rw [if_pos c22] at H
                            have c22b0 := eq_true c22
                            have c22b1 : decide ((wrap64 (x6_2 + 3)) ≤ (a0.size : Int)) = true := decide_eq_true c22
                            have H' := Aside0.mk H
                            clear H
                            have p10 : 0 ≤ (x6_2 : Int) := of_decide_eq_true (by first | (with_reducible assumption) | assumption)
                            have q10 : x6_2 < (a0.size : Int) := of_decide_eq_true (by first | (with_reducible assumption) | assumption)
                            have hx10 := bt_at a0 x6_2
                            replace p10 := eq_true p10
                            replace q10 := eq_true q10
                            have p14 : 0 ≤ (x6_2 : Int) := of_decide_eq_true (by first | (with_reducible assumption) | assumption)
                            have q14 : x6_2 < (a0.size : Int) := of_decide_eq_true (by first | (with_reducible assumption) | assumption)
                            have hx14 := bt_at a0 x6_2
                            replace p14 := eq_true p14
                            replace q14 := eq_true q14
                            go_wp2
                            go_roundg k2
                            case measure => have := HJ2.out; have := HK2.out; omega
                            case rel => exact ⟨(((a0.extract (x6_2 : Int).toNat ((wrap64 (x6_2 + 3)) : Int).toNat).toList == ([93, 93, 62] : List UInt8))), (wrap64 (x6_2 + 1)), (by first | rfl | (simp; done) | (simp [*]; done)), (by first | rfl | (simp; done) | (simp [*]; done)), H', ⟨by have := HJ2.out; have := HK2.out; omega⟩, ⟨by repeat (first | (with_reducible first | exact HB.out | apply below_alloc | apply pw_below_drewN | apply below_drew1) | exact HB.out)⟩⟩
                          · rw [if_neg c22] at H
                            exact absurd H (by simp)
                        · rw [if_neg c21] at H
                          exact absurd H (by simp)
                      · rw [if_neg c19] at H
                        have c19b0 : decide ((wrap64 (x6_2 + 2)) < (a0.size : Int)) = false := decide_eq_false c19
                        clear c19
                        have H' := Aside0.mk H
                        clear H
                        have p10 : 0 ≤ (x6_2 : Int) := of_decide_eq_true (by first | (with_reducible assumption) | assumption)
                        have q10 : x6_2 < (a0.size : Int) := of_decide_eq_true (by first | (with_reducible assumption) | assumption)
                        have hx10 := bt_at a0 x6_2
                        replace p10 := eq_true p10
                        replace q10 := eq_true q10
                        have p14 : 0 ≤ (x6_2 : Int) := of_decide_eq_true (by first | (with_reducible assumption) | assumption)
                        have q14 : x6_2 < (a0.size : Int) := of_decide_eq_true (by first | (with_reducible assumption) | assumption)
                        have hx14 := bt_at a0 x6_2
                        replace p14 := eq_true p14
                        replace q14 := eq_true q14
                        go_wp2
                        go_roundg k2
                        case measure => have := HJ2.out; have := HK2.out; omega
                        case rel => exact ⟨(false), (wrap64 (x6_2 + 1)), (by first | rfl | (simp; done) | (simp [*]; done)), (by first | rfl | (simp; done) | (simp [*]; done)), H', ⟨by have := HJ2.out; have := HK2.out; omega⟩, ⟨by repeat (first | (with_reducible first | exact HB.out | apply below_alloc | apply pw_below_drewN | apply below_drew1) | exact HB.out)⟩⟩
              · rw [if_neg c9] at H
                exact absurd H (by simp)
            · rw [if_neg c8] at H
              have c8b0 : decide (x6_2 < (a0.size : Int)) = false := decide_eq_false c8
              clear c8
              obtain ⟨y348, hy348⟩ : ∃ y_ : List ByteArray, y_ = (([(⟨#[]⟩ : ByteArray), (⟨#[60, 98, 47, 62]⟩ : ByteArray), (⟨#[38, 108, 116, 59]⟩ : ByteArray)] : List ByteArray)) := ⟨_, rfl⟩
              replace H : (if 0 ≤ (Int.tmod (IntKind.u64.wrap (a1)) 3) then (if (Int.tmod (IntKind.u64.wrap (a1)) 3) < (y348.length : Int) then (if a0.size + (rdOf ByteArray.empty y348 (Int.tmod (IntKind.u64.wrap (a1)) 3)).size ≤ 9223372036854775807 then ((token_Next.f k2 (a0 ++ (rdOf ByteArray.empty y348 (Int.tmod (IntKind.u64.wrap (a1)) 3))) 0).bind fun bt352 => (if x5_2 = true then ((brackenlaw10_told.f k2).bind fun t362 => (if t362 = true then (if bt352.2.2.2.2.2.2 = 2 then (if bt352.2.2.2.2.2.1 = 0 then (some (bt352.1 == 0)) else (some false)) else (some false)) else (some false))) else ((brackenlaw10_told.f k2).bind fun t363 => (if t363 = true then (if bt352.2.2.2.2.2.2 = 0 then (if bt352.2.2.2.2.2.1 = (a0.size : Int) then (if bt352.1 = 1 then (some (bt352.2.2.1.toList == a0.toList)) else (some false)) else (some false)) else (some false)) else (some false))))) else (none)) else (none)) else (none)) = some r := by first | (rw [hy348]; with_reducible exact H) | (have H2_ := (Option.bind_some _ _).symm.trans H; rw [hy348]; with_reducible exact H2_) | (have H2_ := (Option.bind_some _ _).symm.trans H; with_reducible exact H2_) | with_reducible exact H | (rw [hy348]; exact H) | exact H
              have Ny348 := Aside0.mk hy348
              clear hy348
              obtain ⟨ji23, hji23⟩ : ∃ j_ : Int, (Int.tmod (IntKind.u64.wrap (a1)) 3) = j_ := ⟨_, rfl⟩
              replace H : (if 0 ≤ (ji23) then (if (ji23) < (y348.length : Int) then (if a0.size + (rdOf ByteArray.empty y348 (ji23)).size ≤ 9223372036854775807 then ((token_Next.f k2 (a0 ++ (rdOf ByteArray.empty y348 (ji23))) 0).bind fun bt352 => (if x5_2 = true then ((brackenlaw10_told.f k2).bind fun t362 => (if t362 = true then (if bt352.2.2.2.2.2.2 = 2 then (if bt352.2.2.2.2.2.1 = 0 then (some (bt352.1 == 0)) else (some false)) else (some false)) else (some false))) else ((brackenlaw10_told.f k2).bind fun t363 => (if t363 = true then (if bt352.2.2.2.2.2.2 = 0 then (if bt352.2.2.2.2.2.1 = (a0.size : Int) then (if bt352.1 = 1 then (some (bt352.2.2.1.toList == a0.toList)) else (some false)) else (some false)) else (some false)) else (some false))))) else (none)) else (none)) else (none)) = some r := by first | (rw [hji23] at H; exact H) | (simp only [hji23] at H ⊢; exact H)
              by_cases c24 : 0 ≤ (ji23)
              · rw [if_pos c24] at H
                have c24b0 : decide (0 ≤ (ji23)) = true := decide_eq_true c24
                clear c24
                by_cases c25 : (ji23) < (y348.length : Int)
                · rw [if_pos c25] at H
                  have c25b0 : decide ((ji23) < (y348.length : Int)) = true := decide_eq_true c25
                  clear c25
                  by_cases c26 : a0.size + (rdOf ByteArray.empty y348 (ji23)).size ≤ 9223372036854775807
                  · rw [if_pos c26] at H
                    have c26b0 := eq_true c26
                    have c26b1 : decide (a0.size + (rdOf ByteArray.empty y348 (ji23)).size ≤ 9223372036854775807) = true := decide_eq_true c26
                    try have c26b2 : (9223372036854775807 < a0.size + (rdOf ByteArray.empty y348 (ji23)).size) = False := eq_false (Nat.not_lt.2 c26)
                    replace H := Option.bind_eq_some_iff.mp H
                    obtain ⟨⟨t352, t353, t354, t355, t358, t359, t360⟩, A270, H⟩ := H
                    replace H : (if x5_2 = true then ((brackenlaw10_told.f k2).bind fun t362 => (if t362 = true then (if t360 = 2 then (if t359 = 0 then (some (t352 == 0)) else (some false)) else (some false)) else (some false))) else ((brackenlaw10_told.f k2).bind fun t363 => (if t363 = true then (if t360 = 0 then (if t359 = (a0.size : Int) then (if t352 = 1 then (some (t354.toList == a0.toList)) else (some false)) else (some false)) else (some false)) else (some false)))) = some r := H
                    have A27 := Aside0.mk A270
                    clear A270
                    by_cases c28 : x5_2 = true
                    · subst c28
                      have H1 : ((brackenlaw10_told.f k2).bind fun t362 => (if t362 = true then (if t360 = 2 then (if t359 = 0 then (some (t352 == 0)) else (some false)) else (some false)) else (some false))) = some r := by rw [if_pos rfl] at H; exact H
                      clear H
                      have H := H1
                      clear H1
                      replace H := Option.bind_eq_some_iff.mp H
                      obtain ⟨t362, A290, H⟩ := H
                      replace H : (if t362 = true then (if t360 = 2 then (if t359 = 0 then (some (t352 == 0)) else (some false)) else (some false)) else (some false)) = some r := H
                      have A29 := Aside0.mk A290
                      clear A290
                      by_cases c30 : t362 = true
                      · subst c30
                        have H1 : (if t360 = 2 then (if t359 = 0 then (some (t352 == 0)) else (some false)) else (some false)) = some r := by rw [if_pos rfl] at H; exact H
                        clear H
                        have H := H1
                        clear H1
                        by_cases c31 : t360 = 2
                        · rw [if_pos c31] at H
                          have c31b0 : (t360 == 2) = true := beq_iff_eq.mpr c31
                          have c31b1 : (t360 != 2) = false := bne_eq_false_iff_eq.mpr c31
                          clear c31
                          by_cases c32 : t359 = 0
                          · rw [if_pos c32] at H
                            have c32b0 : (t359 == 0) = true := beq_iff_eq.mpr c32
                            have c32b1 : (t359 != 0) = false := bne_eq_false_iff_eq.mpr c32
                            clear c32
                            obtain rfl := Option.some.inj H
                            go_wp2_with (first | ((with_reducible refine gate_dst (N := 53) rfl ?_); (try (refine gate_guard (by rfl) ?_; dsimp only)); refine Kd.R_lit Kd.string _ 9 ?hg (N := 53) ?hd (xs := ([(⟨#[]⟩ : ByteArray), (⟨#[60, 98, 47, 62]⟩ : ByteArray), (⟨#[38, 108, 116, 59]⟩ : ByteArray)] : List ByteArray)) (inner := [.string (⟨#[]⟩ : ByteArray), .string (⟨#[60, 98, 47, 62]⟩ : ByteArray), .string (⟨#[38, 108, 116, 59]⟩ : ByteArray)]) (ok := fun _ => True) (okp := fun _ => True) ?hr ?hp (fun _ hk => hk) trivial (Below.refl _ _) (Nat.le_refl _) (by simp) ?_; (case hd => rfl); (case hg => rfl); (case hr => first | (go_simp; done) | (go_simp; rfl)); (case hp => exact (Reps.one (show Kd.M Kd.string _ _ _ (⟨#[]⟩ : ByteArray) [.string (⟨#[]⟩ : ByteArray)] from rfl) (Reps.one (show Kd.M Kd.string _ _ _ (⟨#[60, 98, 47, 62]⟩ : ByteArray) [.string (⟨#[60, 98, 47, 62]⟩ : ByteArray)] from rfl) (Reps.one (show Kd.M Kd.string _ _ _ (⟨#[38, 108, 116, 59]⟩ : ByteArray) [.string (⟨#[38, 108, 116, 59]⟩ : ByteArray)] from rfl) (Reps.none _ _))))); intro v349 w33 ho34 hb hg_ hnew_; clear hg_ hnew_; (first | rw [← Ny348.out] at ho34 | (simp only [Int.reduceToNat] at ho34; rw [← Ny348.out] at ho34)); have n0_ := Aside0.mk (Kd.R_lower ho34 (below_size (by repeat (first | (with_reducible first | exact HB.out | apply below_alloc | apply pw_below_drewN | apply below_drew1) | exact HB.out)))); have n1_ := Aside0.mk (below_step (by repeat (first | (with_reducible first | exact HB.out | apply below_alloc | apply pw_below_drewN | apply below_drew1) | exact HB.out)) hb); clear HB; have HO350 := n0_; have HB := n1_; clear n0_ n1_; clear hb ho34; obtain ⟨Ao35, co35, eo35⟩ := Kd.R_slice HO350.out; subst eo35; have p351 : 0 ≤ ((ji23) : Int) := of_decide_eq_true (by first | (with_reducible assumption) | assumption); have q351 : (ji23) < (y348.length : Int) := of_decide_eq_true (by first | (with_reducible assumption) | assumption); obtain ⟨ad351, e351, hx351_0⟩ := Kd.at_string (Kd.R_reads' HO350.out).2.2 (ji23) p351 q351; cases e351; replace p351 := eq_true p351; replace q351 := eq_true q351) | ((with_reducible refine gate_callee (f := 15) rfl ?_); refine goesL_ (some 63) rfl rfl Tryd.func15 (by kernel_rfl) rfl #[.string (a0 ++ (rdOf ByteArray.empty y348 (ji23))), .int .i64 0] rfl (by (try simp only [List.map_toArray, List.map_cons, List.map_nil]); first | done | (simp only [hji23]; rfl) | rfl | (simp only [List.length_drop, List.length_take]; rfl)) ?_; (with_reducible refine (token_Next.calls k2 (a0 ++ (rdOf ByteArray.empty y348 (ji23))) 0 t352 t353 t354 t355 t358 t359 t360 _ (Env.below HE.out (by repeat (first | (with_reducible first | exact HB.out | apply below_alloc | apply pw_below_drewN | apply below_drew1) | exact HB.out))) A27.out).mono ?_); rintro e w36 ⟨v356, rfl, ho0, hb⟩; refine ⟨_, rfl, ?_⟩; have n0_ := Aside0.mk (Kd.R_below (by (with_reducible repeat (first | apply Kd.R_alloc | apply Kd.R_drewN | apply Kd.R_drew)); exact HO350.out) hb); have n1_ := Aside0.mk (Kd.R_lower ho0 (below_size (by repeat (first | (with_reducible first | exact HB.out | apply below_alloc | apply pw_below_drewN | apply below_drew1) | exact HB.out)))); have n2_ := Aside0.mk (below_step (by repeat (first | (with_reducible first | exact HB.out | apply below_alloc | apply pw_below_drewN | apply below_drew1) | exact HB.out)) hb); clear HO350; clear HB; have HO350 := n0_; have HO357 := n1_; have HB := n2_; clear n0_ n1_ n2_; (try clear hb); (try clear hb2); (try clear hk); (try clear hi); (try clear ho0)) | ((with_reducible refine gate_dst (N := 8) rfl ?_); (try (refine gate_guard (by rfl) ?_; dsimp only)); refine box_event ?hg (N := 8) ?hd (cs := #[.int .i64 0, .string (⟨#[]⟩ : ByteArray), .string (⟨#[]⟩ : ByteArray), .slice none 0 0, .bool false]) (t := 27) ?hr ?_; (case hd => rfl); (case hg => rfl); (case hr => first | (go_simp; done) | (go_simp; rfl)); intro gb361 hg w37 hbox hb; have n0_ := Aside0.mk (Kd.R_below (by (with_reducible repeat (first | apply Kd.R_alloc | apply Kd.R_drewN | apply Kd.R_drew)); exact HO350.out) hb); have n1_ := Aside0.mk (Kd.R_below (by (with_reducible repeat (first | apply Kd.R_alloc | apply Kd.R_drewN | apply Kd.R_drew)); exact HO357.out) hb); have n2_ := Aside0.mk (below_step (by repeat (first | (with_reducible first | exact HB.out | apply below_alloc | apply pw_below_drewN | apply below_drew1) | exact HB.out)) hb); have n3_ := Aside0.mk (hbox); have n4_ := Aside0.mk ((by rw [hg]; exact (below_size (by repeat (first | (with_reducible first | exact HB.out | apply below_alloc | apply pw_below_drewN | apply below_drew1) | exact HB.out))) : w.heap.size ≤ gb361)); have n5_ := Aside0.mk ((by rw [hg]; exact (below_size (by repeat (first | (with_reducible first | exact HB.out | apply below_alloc | apply pw_below_drewN | apply below_drew1) | exact HB.out))) : w.heap.size ≤ gb361)); clear HO350; clear HO357; clear HB; have HO350 := n0_; have HO357 := n1_; have HB := n2_; have BK361 := n3_; have GW361 := n4_; have GE361 := n5_; clear n0_ n1_ n2_ n3_ n4_ n5_; clear hb hbox hg; have hcz38_0 : w37.cell? ⟨gb361, 0, none⟩ = some (.int .i64 0) := (blk_cell BK361.out 0).trans rfl; have hcz38_1 : w37.cell? ⟨gb361, 1, none⟩ = some (.string (⟨#[]⟩ : ByteArray)) := (blk_cell BK361.out 1).trans rfl; have hcz38_2 : w37.cell? ⟨gb361, 2, none⟩ = some (.string (⟨#[]⟩ : ByteArray)) := (blk_cell BK361.out 2).trans rfl; have hcz38_3 : w37.cell? ⟨gb361, 3, none⟩ = some (.slice none 0 0) := (blk_cell BK361.out 3).trans rfl; have hcz38_4 : w37.cell? ⟨gb361, 4, none⟩ = some (.bool false) := (blk_cell BK361.out 4).trans rfl; have hfz38_0 := blk_frozen BK361.out 0; have hfz38_1 := blk_frozen BK361.out 1; have hfz38_2 := blk_frozen BK361.out 2; have hfz38_3 := blk_frozen BK361.out 3; have hfz38_4 := blk_frozen BK361.out 4; obtain ⟨Ao39, co39, eo39⟩ := Kd.R_slice HO357.out; subst eo39) | (go_at_call 14; (with_reducible refine (brackenlaw10_told.calls k2  true _ (Env.below HE.out (by repeat (first | (with_reducible first | exact HB.out | apply below_alloc | apply pw_below_drewN | apply below_drew1 | refine below_set ?_ GE361.out) | exact HB.out))) hidTrue A29.out).mono ?_); rintro e w40 ⟨rfl, hb⟩; have n0_ := Aside0.mk (Kd.R_below (by (with_reducible repeat (first | apply Kd.R_alloc | apply Kd.R_drewN | apply Kd.R_drew)); exact (Kd.R_mono (Kd.R_far (p := ⟨gb361, 4, none⟩) (Kd.R_far (p := ⟨gb361, 3, none⟩) (Kd.R_far (p := ⟨gb361, 2, none⟩) (Kd.R_far (p := ⟨gb361, 1, none⟩) (Kd.R_far (p := ⟨gb361, 0, none⟩) (Kd.R_types HO350.out BK361.out (by decide)) (fun _ hk => hk.2) (.int .i64 t352)) (fun _ hk => hk.2) (.string t353)) (fun _ hk => hk.2) (.string t354)) (fun _ hk => hk.2) (.slice Ao39 t355.length co39)) (fun _ hk => hk.2) (.bool t358)) (fun _ h_ => h_.1))) hb); have n1_ := Aside0.mk (Kd.R_below (by (with_reducible repeat (first | apply Kd.R_alloc | apply Kd.R_drewN | apply Kd.R_drew)); exact (Kd.R_mono (Kd.R_far (p := ⟨gb361, 4, none⟩) (Kd.R_far (p := ⟨gb361, 3, none⟩) (Kd.R_far (p := ⟨gb361, 2, none⟩) (Kd.R_far (p := ⟨gb361, 1, none⟩) (Kd.R_far (p := ⟨gb361, 0, none⟩) (Kd.R_types HO357.out BK361.out (by decide)) (fun _ hk => hk.2) (.int .i64 t352)) (fun _ hk => hk.2) (.string t353)) (fun _ hk => hk.2) (.string t354)) (fun _ hk => hk.2) (.slice Ao39 t355.length co39)) (fun _ hk => hk.2) (.bool t358)) (fun _ h_ => h_.1))) hb); have n2_ := Aside0.mk (blk_below (g := gb361) (o := .cells #[.int .i64 t352, .string t353, .string t354, .slice Ao39 t355.length co39, .bool t358] 27 (0, 0)) (by (with_reducible repeat (first | refine blk_drewN ?_ _ | refine blk_drew ?_ | refine blk_alloc ?_ _)); refine blk_put (cs := #[.int .i64 t352, .string t353, .string t354, .slice Ao39 t355.length co39, .bool false]) ?_ 4 _ rfl; (with_reducible repeat (first | refine blk_drewN ?_ _ | refine blk_drew ?_ | refine blk_alloc ?_ _)); refine blk_put (cs := #[.int .i64 t352, .string t353, .string t354, .slice none 0 0, .bool false]) ?_ 3 _ rfl; (with_reducible repeat (first | refine blk_drewN ?_ _ | refine blk_drew ?_ | refine blk_alloc ?_ _)); refine blk_put (cs := #[.int .i64 t352, .string t353, .string (⟨#[]⟩ : ByteArray), .slice none 0 0, .bool false]) ?_ 2 _ rfl; (with_reducible repeat (first | refine blk_drewN ?_ _ | refine blk_drew ?_ | refine blk_alloc ?_ _)); refine blk_put (cs := #[.int .i64 t352, .string (⟨#[]⟩ : ByteArray), .string (⟨#[]⟩ : ByteArray), .slice none 0 0, .bool false]) ?_ 1 _ rfl; (with_reducible repeat (first | refine blk_drewN ?_ _ | refine blk_drew ?_ | refine blk_alloc ?_ _)); refine blk_put (cs := #[.int .i64 0, .string (⟨#[]⟩ : ByteArray), .string (⟨#[]⟩ : ByteArray), .slice none 0 0, .bool false]) ?_ 0 _ rfl; (with_reducible repeat (first | refine blk_drewN ?_ _ | refine blk_drew ?_ | refine blk_alloc ?_ _)); exact BK361.out) hb); have n3_ := Aside0.mk (below_step (by repeat (first | (with_reducible first | exact HB.out | apply below_alloc | apply pw_below_drewN | apply below_drew1 | refine below_set ?_ GE361.out) | exact HB.out)) hb); clear HO350; clear HO357; clear BK361; clear HB; have HO350 := n0_; have HO357 := n1_; have BK361 := n2_; have HB := n3_; clear n0_ n1_ n2_ n3_; (try clear hb); (try clear hb2); (try clear hk); (try clear hi); have hcz41_0 : w40.cell? ⟨gb361, 0, none⟩ = some (.int .i64 t352) := (blk_cell BK361.out 0).trans rfl; have hcz41_1 : w40.cell? ⟨gb361, 1, none⟩ = some (.string t353) := (blk_cell BK361.out 1).trans rfl; have hcz41_2 : w40.cell? ⟨gb361, 2, none⟩ = some (.string t354) := (blk_cell BK361.out 2).trans rfl; have hcz41_3 : w40.cell? ⟨gb361, 3, none⟩ = some (.slice Ao39 t355.length co39) := (blk_cell BK361.out 3).trans rfl; have hcz41_4 : w40.cell? ⟨gb361, 4, none⟩ = some (.bool t358) := (blk_cell BK361.out 4).trans rfl; have hfz41_0 := blk_frozen BK361.out 0; have hfz41_1 := blk_frozen BK361.out 1; have hfz41_2 := blk_frozen BK361.out 2; have hfz41_3 := blk_frozen BK361.out 3; have hfz41_4 := blk_frozen BK361.out 4))
                            go_ret
                            exact ⟨by first | rfl | (simp [errW_none, errW_some] <;> rfl) | (simp only [← hji23]; first | rfl | (simp [errW_none, errW_some] <;> rfl)) | (simp [*, errW_none, errW_some] <;> rfl), by repeat (first | (with_reducible first | exact HB.out | apply below_alloc | apply pw_below_drewN | apply below_drew1 | refine below_set ?_ GE361.out) | exact HB.out)⟩
                          · rw [if_neg c32] at H
                            have c32b0 : (t359 == 0) = false := beq_eq_false_iff_ne.mpr c32
                            have c32b1 : (t359 != 0) = true := bne_iff_ne.mpr c32
                            exact absurd ((Option.some.inj H).trans hTrue.out) (by decide)
                        · rw [if_neg c31] at H
                          have c31b0 : (t360 == 2) = false := beq_eq_false_iff_ne.mpr c31
                          have c31b1 : (t360 != 2) = true := bne_iff_ne.mpr c31
                          exact absurd ((Option.some.inj H).trans hTrue.out) (by decide)
                      · replace c30 := Bool.eq_false_iff.mpr c30
                        subst c30
                        have H1 : (some false) = some r := by rw [if_neg (show ¬ (false = true) by decide)] at H; exact H
                        clear H
                        have H := H1
                        clear H1
                        exact absurd ((Option.some.inj H).trans hTrue.out) (by decide)
                    · replace c28 := Bool.eq_false_iff.mpr c28
                      subst c28
                      have H1 : ((brackenlaw10_told.f k2).bind fun t363 => (if t363 = true then (if t360 = 0 then (if t359 = (a0.size : Int) then (if t352 = 1 then (some (t354.toList == a0.toList)) else (some false)) else (some false)) else (some false)) else (some false))) = some r := by rw [if_neg (show ¬ (false = true) by decide)] at H; exact H
                      clear H
                      have H := H1
                      clear H1
                      replace H := Option.bind_eq_some_iff.mp H
                      obtain ⟨t363, A420, H⟩ := H
                      replace H : (if t363 = true then (if t360 = 0 then (if t359 = (a0.size : Int) then (if t352 = 1 then (some (t354.toList == a0.toList)) else (some false)) else (some false)) else (some false)) else (some false)) = some r := H
                      have A42 := Aside0.mk A420
                      clear A420
                      by_cases c43 : t363 = true
                      · subst c43
                        have H1 : (if t360 = 0 then (if t359 = (a0.size : Int) then (if t352 = 1 then (some (t354.toList == a0.toList)) else (some false)) else (some false)) else (some false)) = some r := by rw [if_pos rfl] at H; exact H
                        clear H
                        have H := H1
                        clear H1
                        by_cases c44 : t360 = 0
                        · rw [if_pos c44] at H
                          have c44b0 : (t360 == 0) = true := beq_iff_eq.mpr c44
                          have c44b1 : (t360 != 0) = false := bne_eq_false_iff_eq.mpr c44
                          clear c44
                          by_cases c45 : t359 = (a0.size : Int)
                          · rw [if_pos c45] at H
                            have c45b0 : (t359 == (a0.size : Int)) = true := beq_iff_eq.mpr c45
                            have c45b1 : (t359 != (a0.size : Int)) = false := bne_eq_false_iff_eq.mpr c45
                            clear c45
                            by_cases c46 : t352 = 1
                            · rw [if_pos c46] at H
                              have c46b0 : (t352 == 1) = true := beq_iff_eq.mpr c46
                              have c46b1 : (t352 != 1) = false := bne_eq_false_iff_eq.mpr c46
                              clear c46
                              obtain rfl := Option.some.inj H
                              go_wp2_with (first | ((with_reducible refine gate_dst (N := 53) rfl ?_); (try (refine gate_guard (by rfl) ?_; dsimp only)); refine Kd.R_lit Kd.string _ 9 ?hg (N := 53) ?hd (xs := ([(⟨#[]⟩ : ByteArray), (⟨#[60, 98, 47, 62]⟩ : ByteArray), (⟨#[38, 108, 116, 59]⟩ : ByteArray)] : List ByteArray)) (inner := [.string (⟨#[]⟩ : ByteArray), .string (⟨#[60, 98, 47, 62]⟩ : ByteArray), .string (⟨#[38, 108, 116, 59]⟩ : ByteArray)]) (ok := fun _ => True) (okp := fun _ => True) ?hr ?hp (fun _ hk => hk) trivial (Below.refl _ _) (Nat.le_refl _) (by simp) ?_; (case hd => rfl); (case hg => rfl); (case hr => first | (go_simp; done) | (go_simp; rfl)); (case hp => exact (Reps.one (show Kd.M Kd.string _ _ _ (⟨#[]⟩ : ByteArray) [.string (⟨#[]⟩ : ByteArray)] from rfl) (Reps.one (show Kd.M Kd.string _ _ _ (⟨#[60, 98, 47, 62]⟩ : ByteArray) [.string (⟨#[60, 98, 47, 62]⟩ : ByteArray)] from rfl) (Reps.one (show Kd.M Kd.string _ _ _ (⟨#[38, 108, 116, 59]⟩ : ByteArray) [.string (⟨#[38, 108, 116, 59]⟩ : ByteArray)] from rfl) (Reps.none _ _))))); intro v349 w47 ho48 hb hg_ hnew_; clear hg_ hnew_; (first | rw [← Ny348.out] at ho48 | (simp only [Int.reduceToNat] at ho48; rw [← Ny348.out] at ho48)); have n0_ := Aside0.mk (Kd.R_lower ho48 (below_size (by repeat (first | (with_reducible first | exact HB.out | apply below_alloc | apply pw_below_drewN | apply below_drew1) | exact HB.out)))); have n1_ := Aside0.mk (below_step (by repeat (first | (with_reducible first | exact HB.out | apply below_alloc | apply pw_below_drewN | apply below_drew1) | exact HB.out)) hb); clear HB; have HO350 := n0_; have HB := n1_; clear n0_ n1_; clear hb ho48; obtain ⟨Ao49, co49, eo49⟩ := Kd.R_slice HO350.out; subst eo49; have p351 : 0 ≤ ((ji23) : Int) := of_decide_eq_true (by first | (with_reducible assumption) | assumption); have q351 : (ji23) < (y348.length : Int) := of_decide_eq_true (by first | (with_reducible assumption) | assumption); obtain ⟨ad351, e351, hx351_0⟩ := Kd.at_string (Kd.R_reads' HO350.out).2.2 (ji23) p351 q351; cases e351; replace p351 := eq_true p351; replace q351 := eq_true q351) | ((with_reducible refine gate_callee (f := 15) rfl ?_); refine goesL_ (some 63) rfl rfl Tryd.func15 (by kernel_rfl) rfl #[.string (a0 ++ (rdOf ByteArray.empty y348 (ji23))), .int .i64 0] rfl (by (try simp only [List.map_toArray, List.map_cons, List.map_nil]); first | done | (simp only [hji23]; rfl) | rfl | (simp only [List.length_drop, List.length_take]; rfl)) ?_; (with_reducible refine (token_Next.calls k2 (a0 ++ (rdOf ByteArray.empty y348 (ji23))) 0 t352 t353 t354 t355 t358 t359 t360 _ (Env.below HE.out (by repeat (first | (with_reducible first | exact HB.out | apply below_alloc | apply pw_below_drewN | apply below_drew1) | exact HB.out))) A27.out).mono ?_); rintro e w50 ⟨v356, rfl, ho0, hb⟩; refine ⟨_, rfl, ?_⟩; have n0_ := Aside0.mk (Kd.R_below (by (with_reducible repeat (first | apply Kd.R_alloc | apply Kd.R_drewN | apply Kd.R_drew)); exact HO350.out) hb); have n1_ := Aside0.mk (Kd.R_lower ho0 (below_size (by repeat (first | (with_reducible first | exact HB.out | apply below_alloc | apply pw_below_drewN | apply below_drew1) | exact HB.out)))); have n2_ := Aside0.mk (below_step (by repeat (first | (with_reducible first | exact HB.out | apply below_alloc | apply pw_below_drewN | apply below_drew1) | exact HB.out)) hb); clear HO350; clear HB; have HO350 := n0_; have HO357 := n1_; have HB := n2_; clear n0_ n1_ n2_; (try clear hb); (try clear hb2); (try clear hk); (try clear hi); (try clear ho0)) | ((with_reducible refine gate_dst (N := 8) rfl ?_); (try (refine gate_guard (by rfl) ?_; dsimp only)); refine box_event ?hg (N := 8) ?hd (cs := #[.int .i64 0, .string (⟨#[]⟩ : ByteArray), .string (⟨#[]⟩ : ByteArray), .slice none 0 0, .bool false]) (t := 27) ?hr ?_; (case hd => rfl); (case hg => rfl); (case hr => first | (go_simp; done) | (go_simp; rfl)); intro gb361 hg w51 hbox hb; have n0_ := Aside0.mk (Kd.R_below (by (with_reducible repeat (first | apply Kd.R_alloc | apply Kd.R_drewN | apply Kd.R_drew)); exact HO350.out) hb); have n1_ := Aside0.mk (Kd.R_below (by (with_reducible repeat (first | apply Kd.R_alloc | apply Kd.R_drewN | apply Kd.R_drew)); exact HO357.out) hb); have n2_ := Aside0.mk (below_step (by repeat (first | (with_reducible first | exact HB.out | apply below_alloc | apply pw_below_drewN | apply below_drew1) | exact HB.out)) hb); have n3_ := Aside0.mk (hbox); have n4_ := Aside0.mk ((by rw [hg]; exact (below_size (by repeat (first | (with_reducible first | exact HB.out | apply below_alloc | apply pw_below_drewN | apply below_drew1) | exact HB.out))) : w.heap.size ≤ gb361)); have n5_ := Aside0.mk ((by rw [hg]; exact (below_size (by repeat (first | (with_reducible first | exact HB.out | apply below_alloc | apply pw_below_drewN | apply below_drew1) | exact HB.out))) : w.heap.size ≤ gb361)); clear HO350; clear HO357; clear HB; have HO350 := n0_; have HO357 := n1_; have HB := n2_; have BK361 := n3_; have GW361 := n4_; have GE361 := n5_; clear n0_ n1_ n2_ n3_ n4_ n5_; clear hb hbox hg; have hcz52_0 : w51.cell? ⟨gb361, 0, none⟩ = some (.int .i64 0) := (blk_cell BK361.out 0).trans rfl; have hcz52_1 : w51.cell? ⟨gb361, 1, none⟩ = some (.string (⟨#[]⟩ : ByteArray)) := (blk_cell BK361.out 1).trans rfl; have hcz52_2 : w51.cell? ⟨gb361, 2, none⟩ = some (.string (⟨#[]⟩ : ByteArray)) := (blk_cell BK361.out 2).trans rfl; have hcz52_3 : w51.cell? ⟨gb361, 3, none⟩ = some (.slice none 0 0) := (blk_cell BK361.out 3).trans rfl; have hcz52_4 : w51.cell? ⟨gb361, 4, none⟩ = some (.bool false) := (blk_cell BK361.out 4).trans rfl; have hfz52_0 := blk_frozen BK361.out 0; have hfz52_1 := blk_frozen BK361.out 1; have hfz52_2 := blk_frozen BK361.out 2; have hfz52_3 := blk_frozen BK361.out 3; have hfz52_4 := blk_frozen BK361.out 4; obtain ⟨Ao53, co53, eo53⟩ := Kd.R_slice HO357.out; subst eo53) | (go_at_call 14; (with_reducible refine (brackenlaw10_told.calls k2  true _ (Env.below HE.out (by repeat (first | (with_reducible first | exact HB.out | apply below_alloc | apply pw_below_drewN | apply below_drew1 | refine below_set ?_ GE361.out) | exact HB.out))) hidTrue A42.out).mono ?_); rintro e w54 ⟨rfl, hb⟩; have n0_ := Aside0.mk (Kd.R_below (by (with_reducible repeat (first | apply Kd.R_alloc | apply Kd.R_drewN | apply Kd.R_drew)); exact (Kd.R_mono (Kd.R_far (p := ⟨gb361, 4, none⟩) (Kd.R_far (p := ⟨gb361, 3, none⟩) (Kd.R_far (p := ⟨gb361, 2, none⟩) (Kd.R_far (p := ⟨gb361, 1, none⟩) (Kd.R_far (p := ⟨gb361, 0, none⟩) (Kd.R_types HO350.out BK361.out (by decide)) (fun _ hk => hk.2) (.int .i64 t352)) (fun _ hk => hk.2) (.string t353)) (fun _ hk => hk.2) (.string t354)) (fun _ hk => hk.2) (.slice Ao53 t355.length co53)) (fun _ hk => hk.2) (.bool t358)) (fun _ h_ => h_.1))) hb); have n1_ := Aside0.mk (Kd.R_below (by (with_reducible repeat (first | apply Kd.R_alloc | apply Kd.R_drewN | apply Kd.R_drew)); exact (Kd.R_mono (Kd.R_far (p := ⟨gb361, 4, none⟩) (Kd.R_far (p := ⟨gb361, 3, none⟩) (Kd.R_far (p := ⟨gb361, 2, none⟩) (Kd.R_far (p := ⟨gb361, 1, none⟩) (Kd.R_far (p := ⟨gb361, 0, none⟩) (Kd.R_types HO357.out BK361.out (by decide)) (fun _ hk => hk.2) (.int .i64 t352)) (fun _ hk => hk.2) (.string t353)) (fun _ hk => hk.2) (.string t354)) (fun _ hk => hk.2) (.slice Ao53 t355.length co53)) (fun _ hk => hk.2) (.bool t358)) (fun _ h_ => h_.1))) hb); have n2_ := Aside0.mk (blk_below (g := gb361) (o := .cells #[.int .i64 t352, .string t353, .string t354, .slice Ao53 t355.length co53, .bool t358] 27 (0, 0)) (by (with_reducible repeat (first | refine blk_drewN ?_ _ | refine blk_drew ?_ | refine blk_alloc ?_ _)); refine blk_put (cs := #[.int .i64 t352, .string t353, .string t354, .slice Ao53 t355.length co53, .bool false]) ?_ 4 _ rfl; (with_reducible repeat (first | refine blk_drewN ?_ _ | refine blk_drew ?_ | refine blk_alloc ?_ _)); refine blk_put (cs := #[.int .i64 t352, .string t353, .string t354, .slice none 0 0, .bool false]) ?_ 3 _ rfl; (with_reducible repeat (first | refine blk_drewN ?_ _ | refine blk_drew ?_ | refine blk_alloc ?_ _)); refine blk_put (cs := #[.int .i64 t352, .string t353, .string (⟨#[]⟩ : ByteArray), .slice none 0 0, .bool false]) ?_ 2 _ rfl; (with_reducible repeat (first | refine blk_drewN ?_ _ | refine blk_drew ?_ | refine blk_alloc ?_ _)); refine blk_put (cs := #[.int .i64 t352, .string (⟨#[]⟩ : ByteArray), .string (⟨#[]⟩ : ByteArray), .slice none 0 0, .bool false]) ?_ 1 _ rfl; (with_reducible repeat (first | refine blk_drewN ?_ _ | refine blk_drew ?_ | refine blk_alloc ?_ _)); refine blk_put (cs := #[.int .i64 0, .string (⟨#[]⟩ : ByteArray), .string (⟨#[]⟩ : ByteArray), .slice none 0 0, .bool false]) ?_ 0 _ rfl; (with_reducible repeat (first | refine blk_drewN ?_ _ | refine blk_drew ?_ | refine blk_alloc ?_ _)); exact BK361.out) hb); have n3_ := Aside0.mk (below_step (by repeat (first | (with_reducible first | exact HB.out | apply below_alloc | apply pw_below_drewN | apply below_drew1 | refine below_set ?_ GE361.out) | exact HB.out)) hb); clear HO350; clear HO357; clear BK361; clear HB; have HO350 := n0_; have HO357 := n1_; have BK361 := n2_; have HB := n3_; clear n0_ n1_ n2_ n3_; (try clear hb); (try clear hb2); (try clear hk); (try clear hi); have hcz55_0 : w54.cell? ⟨gb361, 0, none⟩ = some (.int .i64 t352) := (blk_cell BK361.out 0).trans rfl; have hcz55_1 : w54.cell? ⟨gb361, 1, none⟩ = some (.string t353) := (blk_cell BK361.out 1).trans rfl; have hcz55_2 : w54.cell? ⟨gb361, 2, none⟩ = some (.string t354) := (blk_cell BK361.out 2).trans rfl; have hcz55_3 : w54.cell? ⟨gb361, 3, none⟩ = some (.slice Ao53 t355.length co53) := (blk_cell BK361.out 3).trans rfl; have hcz55_4 : w54.cell? ⟨gb361, 4, none⟩ = some (.bool t358) := (blk_cell BK361.out 4).trans rfl; have hfz55_0 := blk_frozen BK361.out 0; have hfz55_1 := blk_frozen BK361.out 1; have hfz55_2 := blk_frozen BK361.out 2; have hfz55_3 := blk_frozen BK361.out 3; have hfz55_4 := blk_frozen BK361.out 4))
                              go_ret
                              exact ⟨by first | rfl | (simp [errW_none, errW_some] <;> rfl) | (simp only [← hji23]; first | rfl | (simp [errW_none, errW_some] <;> rfl)) | (simp [*, errW_none, errW_some] <;> rfl), by repeat (first | (with_reducible first | exact HB.out | apply below_alloc | apply pw_below_drewN | apply below_drew1 | refine below_set ?_ GE361.out) | exact HB.out)⟩
                            · rw [if_neg c46] at H
                              have c46b0 : (t352 == 1) = false := beq_eq_false_iff_ne.mpr c46
                              have c46b1 : (t352 != 1) = true := bne_iff_ne.mpr c46
                              exact absurd ((Option.some.inj H).trans hTrue.out) (by decide)
                          · rw [if_neg c45] at H
                            have c45b0 : (t359 == (a0.size : Int)) = false := beq_eq_false_iff_ne.mpr c45
                            have c45b1 : (t359 != (a0.size : Int)) = true := bne_iff_ne.mpr c45
                            exact absurd ((Option.some.inj H).trans hTrue.out) (by decide)
                        · rw [if_neg c44] at H
                          have c44b0 : (t360 == 0) = false := beq_eq_false_iff_ne.mpr c44
                          have c44b1 : (t360 != 0) = true := bne_iff_ne.mpr c44
                          exact absurd ((Option.some.inj H).trans hTrue.out) (by decide)
                      · replace c43 := Bool.eq_false_iff.mpr c43
                        subst c43
                        have H1 : (some false) = some r := by rw [if_neg (show ¬ (false = true) by decide)] at H; exact H
                        clear H
                        have H := H1
                        clear H1
                        exact absurd ((Option.some.inj H).trans hTrue.out) (by decide)
                  · rw [if_neg c26] at H
                    exact absurd H (by simp)
                · rw [if_neg c25] at H
                  exact absurd H (by simp)
              · rw [if_neg c24] at H
                exact absurd H (by simp)

/-- THE ONE PURE STATEMENT of brackenlaw10_TokenTexts: yours. -/
def brackenlaw10_TokenTexts.Pure : Prop := ∀ (a0 : ByteArray) (a1 : Int), a0.size ≤ 140737488351232 → (Lit.int .i64 a1).wf = true → ∃ k, brackenlaw10_TokenTexts.f k a0 a1 = some true
theorem brackenlaw10_TokenTexts.walk (P : brackenlaw10_TokenTexts.Pure) (a0 : ByteArray) (a1 : Int) (w : World) (hE : Env w) (w0 : a0.size ≤ 140737488351232) (w1 : (Lit.int .i64 a1).wf = true) :
    Calls Tryd.prog 3 #[.string a0, .int .i64 a1] w fun e w' => e = .returned (.bool true) ∧ Below w.heap.size w w' := by
  obtain ⟨k, h⟩ := P a0 a1 w0 w1
  refine (brackenlaw10_TokenTexts.calls k a0 a1 true w hE hidTrue h).mono ?_
  rintro e w' ⟨rfl, hd⟩
  exact ⟨rfl, hd⟩

end Go.Proofs.YtmjdjpelhhibgaaDoor.R1
