-- written by wip/gen.py (this session's own driver of the kit's printer); Lean checks it
import Derived.Test.YtiddhaakbcnbiaaDoorR2x0
import Derived.Test.YtiddhaakbcnbiaaDoorR2x1
namespace Go.Proofs.YtiddhaakbcnbiaaDoor.R2
open Go.Proofs.YtiddhaakbcnbiaaDoor.Giv Go.Proofs.YtiddhaakbcnbiaaDoor.Ref Go.Proofs.YtiddhaakbcnbiaaDoor.Names
open Go.RowKit Go.Proofs.YtiddhaakbcnbiaaDoorW.PrintWords Go.Proofs.YtiddhaakbcnbiaaDoorW.PrintLast Go.Proofs.YtiddhaakbcnbiaaDoorW.PrintMore
attribute [local go_sem] max2_int min2_int max_two min_two max_three min_three max_four min_four   -- for this text's walks alone
set_option linter.unusedVariables false
set_option linter.unusedSimpArgs false

/-! ### brackenlaw1_splits: function 32 -/
def brackenlaw1_splits.l0 : Nat → ByteArray → Int → Option (Bool)
  | 0, _, _ => none
  | k + 1, x0, x3 => if x3 < (x0.size : Int) then (if 0 ≤ x3 then (if (bt x0 x3) = 58 then (if x3 ≤ (x0.size : Int) then ((runes_NCName.f (x0.extract 0 (x3 : Int).toNat)).bind fun t164 => (if t164 = true then (if 0 ≤ (wrap64 (x3 + 1)) then (if (wrap64 (x3 + 1)) ≤ (x0.size : Int) then ((runes_NCName.f (x0.extract ((wrap64 (x3 + 1)) : Int).toNat x0.size)).bind fun t165 => (some t165)) else (none)) else (none)) else (some false))) else (none)) else (brackenlaw1_splits.l0 k x0 (wrap64 (x3 + 1)))) else (none)) else (some false)
def brackenlaw1_splits.f (k : Nat) (a0 : ByteArray) : Option (Bool) := brackenlaw1_splits.l0 k a0 0
theorem brackenlaw1_splits.mono_l : ∀ k, (∀ y0 y1, LeO (brackenlaw1_splits.l0 k y0 y1) (brackenlaw1_splits.l0 (k + 1) y0 y1))
  | 0 => fun _ _ r h => by simp [brackenlaw1_splits.l0] at h
  | k + 1 => by
    have ih0 := brackenlaw1_splits.mono_l k
    · intro y0 y1
      unfold brackenlaw1_splits.l0
      repeat' first
      | (with_reducible exact ih0 _ _)
      | (with_reducible exact LeO.refl _)
      | (with_reducible exact LeO.none _)
      | (with_reducible refine LeO.ite ?_ ?_)
      | (with_reducible refine LeO.bind ?_ (fun _ => ?_))
      | exact ih0 _ _
      | exact LeO.none _
      | refine LeO.ite ?_ ?_
      | refine LeO.bind ?_ (fun _ => ?_)
theorem brackenlaw1_splits.mono : ∀ a0 k, LeO (brackenlaw1_splits.f k a0) (brackenlaw1_splits.f (k + 1) a0) := by
  intro a0 k
  have ih0 := brackenlaw1_splits.mono_l k
  unfold brackenlaw1_splits.f
  repeat' first
      | (with_reducible exact ih0 _ _)
      | (with_reducible exact LeO.refl _)
      | (with_reducible exact LeO.none _)
      | (with_reducible refine LeO.ite ?_ ?_)
      | (with_reducible refine LeO.bind ?_ (fun _ => ?_))
      | exact ih0 _ _
      | exact LeO.none _
      | refine LeO.ite ?_ ?_
      | refine LeO.bind ?_ (fun _ => ?_)
set_option maxHeartbeats 8000000 in
set_option maxRecDepth 100000 in
theorem brackenlaw1_splits.calls (k : Nat) (a0 : ByteArray) (r : Bool) (w : World) (hE : Env w) (h : brackenlaw1_splits.f k a0 = some r) :
    Calls Tryd.prog 32 #[.string a0] w fun e w' => e = .returned (.bool r) ∧ Below w.heap.size w w' := by
  have HE := Aside0.mk hE
  clear hE
  have HB := Aside0.mk (Below.refl w.heap.size w)
  have H : (brackenlaw1_splits.l0 k a0 0) = some r := h
  clear h
  have H' := Aside0.mk H
  clear H
  go_enter Tryd.func32, Tryd.ntmps32
  go_wp2
  go_loopg [3] k (fun kq v3 w' => ∃ (x3_1 : Int), v3 = .int .i64 x3_1 ∧ Aside0 (brackenlaw1_splits.l0 kq a0 x3_1 = some r) ∧ Aside0 (kq ≤ k) ∧ Aside0 (Below w.heap.size w w'))
  case atStart => exact ⟨(0), (by first | rfl | (simp; done) | (simp [*]; done)), H', ⟨Nat.le_refl _⟩, ⟨by repeat (first | (with_reducible first | exact HB.out | apply below_alloc | apply pw_below_drewN | apply below_drew1) | exact HB.out)⟩⟩
  case round =>
    clear H'
    obtain ⟨x3_1, rfl, HA, HK1, HB⟩ := hrel
    cases gk with
    | zero => exact absurd HA.out (by simp [brackenlaw1_splits.l0])
    | succ k1 =>
      have H := HA.out
      clear HA
      simp only [brackenlaw1_splits.l0] at H
      by_cases c2 : x3_1 < (a0.size : Int)
      · rw [if_pos c2] at H
        have c2b0 : decide (x3_1 < (a0.size : Int)) = true := decide_eq_true c2
        clear c2
        by_cases c3 : 0 ≤ x3_1
        · rw [if_pos c3] at H
          have c3b0 : decide (0 ≤ x3_1) = true := decide_eq_true c3
          clear c3
          by_cases c5 : (bt a0 x3_1) = 58
          · rw [if_pos c5] at H
            have c5b0 : ((bt a0 x3_1) == 58) = true := beq_iff_eq.mpr c5
            have c5b1 : ((bt a0 x3_1) != 58) = false := bne_eq_false_iff_eq.mpr c5
            clear c5
            have c6b0 := eq_true (of_decide_eq_true (by first | (with_reducible assumption) | assumption) : 0 ≤ x3_1)
            by_cases c7 : x3_1 ≤ (a0.size : Int)
            · rw [if_pos c7] at H
              have c7b0 := eq_true c7
              have c7b1 : decide (x3_1 ≤ (a0.size : Int)) = true := decide_eq_true c7
              clear c7
              replace H := Option.bind_eq_some_iff.mp H
              obtain ⟨t164, A80, H⟩ := H
              replace H : (if t164 = true then (if 0 ≤ (wrap64 (x3_1 + 1)) then (if (wrap64 (x3_1 + 1)) ≤ (a0.size : Int) then ((runes_NCName.f (a0.extract ((wrap64 (x3_1 + 1)) : Int).toNat a0.size)).bind fun t165 => (some t165)) else (none)) else (none)) else (some false)) = some r := H
              have A8 := Aside0.mk A80
              clear A80
              by_cases c9 : t164 = true
              · subst c9
                have H1 : (if 0 ≤ (wrap64 (x3_1 + 1)) then (if (wrap64 (x3_1 + 1)) ≤ (a0.size : Int) then ((runes_NCName.f (a0.extract ((wrap64 (x3_1 + 1)) : Int).toNat a0.size)).bind fun t165 => (some t165)) else (none)) else (none)) = some r := by rw [if_pos rfl] at H; exact H
                clear H
                have H := H1
                clear H1
                obtain ⟨ji10, hji10⟩ : ∃ j_ : Int, (wrap64 (x3_1 + 1)) = j_ := ⟨_, rfl⟩
                replace H : (if 0 ≤ (ji10) then (if (ji10) ≤ (a0.size : Int) then ((runes_NCName.f (a0.extract ((ji10) : Int).toNat a0.size)).bind fun t165 => (some t165)) else (none)) else (none)) = some r := by first | (rw [hji10] at H; exact H) | (simp only [hji10] at H ⊢; exact H)
                (try rw [hji10] at A8)
                have hji10w : (IntKind.i64.wrap (x3_1 + 1)) = ji10 := (i64_w _).trans hji10
                by_cases c11 : 0 ≤ (ji10)
                · rw [if_pos c11] at H
                  have c11b0 := eq_true c11
                  have c11b1 : decide (0 ≤ (ji10)) = true := decide_eq_true c11
                  clear c11
                  by_cases c12 : (ji10) ≤ (a0.size : Int)
                  · rw [if_pos c12] at H
                    have c12b0 := eq_true c12
                    have c12b1 : decide ((ji10) ≤ (a0.size : Int)) = true := decide_eq_true c12
                    clear c12
                    replace H := Option.bind_eq_some_iff.mp H
                    obtain ⟨t165, A130, H⟩ := H
                    replace H : (some t165) = some r := H
                    have A13 := Aside0.mk A130
                    clear A130
                    obtain rfl := Option.some.inj H
                    have p4 : 0 ≤ (x3_1 : Int) := of_decide_eq_true (by first | (with_reducible assumption) | assumption)
                    have q4 : x3_1 < (a0.size : Int) := of_decide_eq_true (by first | (with_reducible assumption) | assumption)
                    have hx4 := bt_at a0 x3_1
                    replace p4 := eq_true p4
                    replace q4 := eq_true q4
                    go_wp2_with (first | ((with_reducible refine gate_callee (f := 28) rfl ?_); refine goesL_ (some 17) rfl rfl Tryd.func28 (by kernel_rfl) rfl #[.string (a0.extract 0 (x3_1 : Int).toNat)] rfl (by (try simp only [List.map_toArray, List.map_cons, List.map_nil]); first | done | rfl | (simp only [List.length_drop, List.length_take]; rfl)) ?_; (with_reducible refine (runes_NCName.calls (a0.extract 0 (x3_1 : Int).toNat) true _ (Env.below HE.out (by repeat (first | (with_reducible first | exact HB.out | apply below_alloc | apply pw_below_drewN | apply below_drew1) | exact HB.out))) A8.out).mono ?_); rintro e w14 ⟨rfl, hb⟩; refine ⟨_, rfl, ?_⟩; have n0_ := Aside0.mk (below_step (by repeat (first | (with_reducible first | exact HB.out | apply below_alloc | apply pw_below_drewN | apply below_drew1) | exact HB.out)) hb); clear HB; have HB := n0_; clear n0_; (try clear hb); (try clear hb2); (try clear hk); (try clear hi)) | (go_at_call 28; (with_reducible refine (runes_NCName.calls (a0.extract ((ji10) : Int).toNat a0.size) t165 _ (Env.below HE.out (by repeat (first | (with_reducible first | exact HB.out | apply below_alloc | apply pw_below_drewN | apply below_drew1) | exact HB.out))) A13.out).mono ?_); rintro e w15 ⟨rfl, hb⟩; have n0_ := Aside0.mk (below_step (by repeat (first | (with_reducible first | exact HB.out | apply below_alloc | apply pw_below_drewN | apply below_drew1) | exact HB.out)) hb); clear HB; have HB := n0_; clear n0_; (try clear hb); (try clear hb2); (try clear hk); (try clear hi)))
                    go_ret
                    exact ⟨by first | rfl | (simp [errW_none, errW_some] <;> rfl) | (simp only [← hji10]; first | rfl | (simp [errW_none, errW_some] <;> rfl)) | (simp [*, errW_none, errW_some] <;> rfl), by repeat (first | (with_reducible first | exact HB.out | apply below_alloc | apply pw_below_drewN | apply below_drew1) | exact HB.out)⟩
                  · rw [if_neg c12] at H
                    exact absurd H (by simp)
                · rw [if_neg c11] at H
                  exact absurd H (by simp)
              · replace c9 := Bool.eq_false_iff.mpr c9
                subst c9
                have H1 : (some false) = some r := by rw [if_neg (show ¬ (false = true) by decide)] at H; exact H
                clear H
                have H := H1
                clear H1
                obtain rfl := Option.some.inj H
                have p4 : 0 ≤ (x3_1 : Int) := of_decide_eq_true (by first | (with_reducible assumption) | assumption)
                have q4 : x3_1 < (a0.size : Int) := of_decide_eq_true (by first | (with_reducible assumption) | assumption)
                have hx4 := bt_at a0 x3_1
                replace p4 := eq_true p4
                replace q4 := eq_true q4
                go_wp2_with (first | ((with_reducible refine gate_callee (f := 28) rfl ?_); refine goesL_ (some 17) rfl rfl Tryd.func28 (by kernel_rfl) rfl #[.string (a0.extract 0 (x3_1 : Int).toNat)] rfl (by (try simp only [List.map_toArray, List.map_cons, List.map_nil]); first | done | rfl | (simp only [List.length_drop, List.length_take]; rfl)) ?_; (with_reducible refine (runes_NCName.calls (a0.extract 0 (x3_1 : Int).toNat) false _ (Env.below HE.out (by repeat (first | (with_reducible first | exact HB.out | apply below_alloc | apply pw_below_drewN | apply below_drew1) | exact HB.out))) A8.out).mono ?_); rintro e w16 ⟨rfl, hb⟩; refine ⟨_, rfl, ?_⟩; have n0_ := Aside0.mk (below_step (by repeat (first | (with_reducible first | exact HB.out | apply below_alloc | apply pw_below_drewN | apply below_drew1) | exact HB.out)) hb); clear HB; have HB := n0_; clear n0_; (try clear hb); (try clear hb2); (try clear hk); (try clear hi)))
                go_ret
                exact ⟨by first | rfl | (simp [errW_none, errW_some] <;> rfl) | (simp [*, errW_none, errW_some] <;> rfl), by repeat (first | (with_reducible first | exact HB.out | apply below_alloc | apply pw_below_drewN | apply below_drew1) | exact HB.out)⟩
            · rw [if_neg c7] at H
              exact absurd H (by simp)
          · rw [if_neg c5] at H
            have c5b0 : ((bt a0 x3_1) == 58) = false := beq_eq_false_iff_ne.mpr c5
            have c5b1 : ((bt a0 x3_1) != 58) = true := bne_iff_ne.mpr c5
            have H' := Aside0.mk H
            clear H
            have p4 : 0 ≤ (x3_1 : Int) := of_decide_eq_true (by first | (with_reducible assumption) | assumption)
            have q4 : x3_1 < (a0.size : Int) := of_decide_eq_true (by first | (with_reducible assumption) | assumption)
            have hx4 := bt_at a0 x3_1
            replace p4 := eq_true p4
            replace q4 := eq_true q4
            go_wp2
            go_roundg k1
            case measure => have := HK1.out; omega
            case rel => exact ⟨(wrap64 (x3_1 + 1)), (by first | rfl | (simp; done) | (simp [*]; done)), H', ⟨by have := HK1.out; omega⟩, ⟨by repeat (first | (with_reducible first | exact HB.out | apply below_alloc | apply pw_below_drewN | apply below_drew1) | exact HB.out)⟩⟩
        · rw [if_neg c3] at H
          exact absurd H (by simp)
      · rw [if_neg c2] at H
        have c2b0 : decide (x3_1 < (a0.size : Int)) = false := decide_eq_false c2
        clear c2
        obtain rfl := Option.some.inj H
        go_wp2
        go_ret
        exact ⟨by first | rfl | (simp [errW_none, errW_some] <;> rfl) | (simp [*, errW_none, errW_some] <;> rfl), by repeat (first | (with_reducible first | exact HB.out | apply below_alloc | apply pw_below_drewN | apply below_drew1) | exact HB.out)⟩

/-! ### brackenlaw1_RunesSplits: function 6 -/
def brackenlaw1_RunesSplits.j0 : Nat → ByteArray → ByteArray → Bool → Option (Bool)
  | 0, _, _, _ => none
  | k + 1, x0, x1, x20 => if x20 = true then ((brackenlaw1_told.f).bind fun t166 => (some t166)) else ((runes_NCName.f x0).bind fun t167 => ((runes_NCName.f x1).bind fun t168 => (if x0.size + 1 ≤ 9223372036854775807 then (if x0.size + 1 + x1.size ≤ 9223372036854775807 then ((runes_Split.f ((x0 ++ (⟨#[58]⟩ : ByteArray)) ++ x1)).bind fun bt169 => ((runes_Split.f x0).bind fun bt172 => ((brackenlaw1_told.f).bind fun t175 => (if t175 = true then (if t167 = true then (if (bt169.2.2 == t168) = true then (if bt169.2.2 = true then (if bt169.1.toList = x0.toList then (if bt169.2.1.toList = x1.toList then (if (bt172.2.2 == true) = true then (if bt172.1.toList = ([] : List UInt8) then (if bt172.2.1.toList = x0.toList then (if t168 = true then ((runes_Name.f ((x0 ++ (⟨#[58]⟩ : ByteArray)) ++ x1)).bind fun t176 => (some t176)) else (some true)) else (some false)) else (some false)) else (some false)) else (some false)) else (some false)) else (if (bt172.2.2 == true) = true then (if bt172.1.toList = ([] : List UInt8) then (if bt172.2.1.toList = x0.toList then (if t168 = true then ((runes_Name.f ((x0 ++ (⟨#[58]⟩ : ByteArray)) ++ x1)).bind fun t177 => (some t177)) else (some true)) else (some false)) else (some false)) else (some false))) else (some false)) else (if (bt169.2.2 == false) = true then (if bt169.2.2 = true then (if bt169.1.toList = x0.toList then (if bt169.2.1.toList = x1.toList then ((brackenlaw1_splits.f k x0).bind fun t178 => (if (bt172.2.2 == t178) = true then (some true) else (some false))) else (some false)) else (some false)) else ((brackenlaw1_splits.f k x0).bind fun t179 => (if (bt172.2.2 == t179) = true then (some true) else (some false)))) else (some false))) else (some false))))) else (none)) else (none))))
def brackenlaw1_RunesSplits.f (k : Nat) (a0 : ByteArray) (a1 : ByteArray) : Option (Bool) := if (a0.size : Int) > 50 then (brackenlaw1_RunesSplits.j0 k a0 a1 true) else (brackenlaw1_RunesSplits.j0 k a0 a1 (decide ((a1.size : Int) > 50)))
theorem brackenlaw1_RunesSplits.mono_l : ∀ k, (∀ y0 y1 y2, LeO (brackenlaw1_RunesSplits.j0 k y0 y1 y2) (brackenlaw1_RunesSplits.j0 (k + 1) y0 y1 y2))
  | 0 => fun _ _ _ r h => by simp [brackenlaw1_RunesSplits.j0] at h
  | k + 1 => by
    have ih0 := brackenlaw1_RunesSplits.mono_l k
    · intro y0 y1 y2
      unfold brackenlaw1_RunesSplits.j0
      repeat' first
      | (with_reducible exact ih0 _ _ _)
      | (with_reducible exact brackenlaw1_splits.mono _ _)
      | (with_reducible exact LeO.refl _)
      | (with_reducible exact LeO.none _)
      | (with_reducible refine LeO.ite ?_ ?_)
      | (with_reducible refine LeO.bind ?_ (fun _ => ?_))
      | exact ih0 _ _ _
      | exact brackenlaw1_splits.mono _ _
      | exact LeO.none _
      | refine LeO.ite ?_ ?_
      | refine LeO.bind ?_ (fun _ => ?_)
theorem brackenlaw1_RunesSplits.mono : ∀ a0 a1 k, LeO (brackenlaw1_RunesSplits.f k a0 a1) (brackenlaw1_RunesSplits.f (k + 1) a0 a1) := by
  intro a0 a1 k
  have ih0 := brackenlaw1_RunesSplits.mono_l k
  unfold brackenlaw1_RunesSplits.f
  repeat' first
      | (with_reducible exact ih0 _ _ _)
      | (with_reducible exact brackenlaw1_splits.mono _ _)
      | (with_reducible exact LeO.refl _)
      | (with_reducible exact LeO.none _)
      | (with_reducible refine LeO.ite ?_ ?_)
      | (with_reducible refine LeO.bind ?_ (fun _ => ?_))
      | exact ih0 _ _ _
      | exact brackenlaw1_splits.mono _ _
      | exact LeO.none _
      | refine LeO.ite ?_ ?_
      | refine LeO.bind ?_ (fun _ => ?_)
set_option maxHeartbeats 8000000 in
set_option maxRecDepth 100000 in
theorem brackenlaw1_RunesSplits.calls (k : Nat) (a0 : ByteArray) (a1 : ByteArray) (r : Bool) (w : World) (hE : Env w) (hTrue : Hid (r = true)) (h : brackenlaw1_RunesSplits.f k a0 a1 = some r) :
    Calls Tryd.prog 6 #[.string a0, .string a1] w fun e w' => e = .returned (.bool r) ∧ Below w.heap.size w w' := by
  have HE := Aside0.mk hE
  clear hE
  have HB := Aside0.mk (Below.refl w.heap.size w)
  have H : (if (a0.size : Int) > 50 then (brackenlaw1_RunesSplits.j0 k a0 a1 true) else (brackenlaw1_RunesSplits.j0 k a0 a1 (decide ((a1.size : Int) > 50)))) = some r := h
  clear h
  have HC3 := Aside0.mk H
  clear H
  go_enter Tryd.func6, Tryd.ntmps6
  go_upto_region 1 with (fail)
  go_cut [20] (fun v20 wc => ∃ (kq : Nat) (x20_2 : Bool), v20 = .bool x20_2 ∧ Aside0 (brackenlaw1_RunesSplits.j0 kq a0 a1 x20_2 = some r) ∧ Aside0 (kq ≤ k) ∧ Aside0 (Below w.heap.size w wc))
  case first =>
    have H := HC3.out
    clear HC3
    by_cases c4 : (a0.size : Int) > 50
    · rw [if_pos c4] at H
      have c4b0 : decide (50 < (a0.size : Int)) = true := decide_eq_true c4
      have c4b1 : decide (50 < a0.size) = true := decide_eq_true (by omega)
      clear c4
      (first | rw [c4b0] | (simp only [i64_w, i32_w]; rw [c4b0]) | skip)
      have H' := Aside0.mk H
      clear H
      go_wp2
      go_meet
      case rel => exact ⟨_, (true), (by first | rfl | (simp; done) | (simp [*]; done)), H', ⟨by first | omega | exact Nat.le_refl _⟩, ⟨by repeat (first | (with_reducible first | exact HB.out | apply below_alloc | apply pw_below_drewN | apply below_drew1) | exact HB.out)⟩⟩
    · rw [if_neg c4] at H
      have c4b0 : decide (50 < (a0.size : Int)) = false := decide_eq_false c4
      have c4b1 : decide (50 < a0.size) = false := decide_eq_false (by omega)
      clear c4
      (first | rw [c4b0] | (simp only [i64_w, i32_w]; rw [c4b0]) | skip)
      have H' := Aside0.mk H
      clear H
      go_wp2
      go_meet
      case rel => exact ⟨_, (decide ((a1.size : Int) > 50)), (by first | rfl | (simp; done) | (simp [*]; done)), H', ⟨by first | omega | exact Nat.le_refl _⟩, ⟨by repeat (first | (with_reducible first | exact HB.out | apply below_alloc | apply pw_below_drewN | apply below_drew1) | exact HB.out)⟩⟩
  case rest =>
    clear HC3
    try clear p2
    try clear c4
    try clear c4b0
    try clear c4b1
    obtain ⟨kq, x20_2, rfl, HA, HJ2, HB⟩ := hcut
    cases kq with
    | zero => exact absurd HA.out (by simp [brackenlaw1_RunesSplits.j0])
    | succ kj2 =>
      have H := HA.out
      clear HA
      simp only [brackenlaw1_RunesSplits.j0] at H
      by_cases c5 : x20_2 = true
      · subst c5
        have H1 : ((brackenlaw1_told.f).bind fun t166 => (some t166)) = some r := by rw [if_pos rfl] at H; exact H
        clear H
        have H := H1
        clear H1
        replace H := Option.bind_eq_some_iff.mp H
        obtain ⟨t166, A60, H⟩ := H
        replace H : (some t166) = some r := H
        have A6 := Aside0.mk A60
        clear A60
        obtain rfl := Option.some.inj H
        go_wp2_with (first | (go_at_call 15; (with_reducible refine (brackenlaw1_told.calls  t166 _ (Env.below HE.out (by repeat (first | (with_reducible first | exact HB.out | apply below_alloc | apply pw_below_drewN | apply below_drew1) | exact HB.out))) hTrue A6.out).mono ?_); rintro e w7 ⟨rfl, hb⟩; have n0_ := Aside0.mk (below_step (by repeat (first | (with_reducible first | exact HB.out | apply below_alloc | apply pw_below_drewN | apply below_drew1) | exact HB.out)) hb); clear HB; have HB := n0_; clear n0_; (try clear hb); (try clear hb2); (try clear hk); (try clear hi)))
        go_ret
        exact ⟨by first | rfl | (simp [errW_none, errW_some] <;> rfl) | (simp [*, errW_none, errW_some] <;> rfl), by repeat (first | (with_reducible first | exact HB.out | apply below_alloc | apply pw_below_drewN | apply below_drew1) | exact HB.out)⟩
      · replace c5 := Bool.eq_false_iff.mpr c5
        subst c5
        have H1 : ((runes_NCName.f a0).bind fun t167 => ((runes_NCName.f a1).bind fun t168 => (if a0.size + 1 ≤ 9223372036854775807 then (if a0.size + 1 + a1.size ≤ 9223372036854775807 then ((runes_Split.f ((a0 ++ (⟨#[58]⟩ : ByteArray)) ++ a1)).bind fun bt169 => ((runes_Split.f a0).bind fun bt172 => ((brackenlaw1_told.f).bind fun t175 => (if t175 = true then (if t167 = true then (if (bt169.2.2 == t168) = true then (if bt169.2.2 = true then (if bt169.1.toList = a0.toList then (if bt169.2.1.toList = a1.toList then (if (bt172.2.2 == true) = true then (if bt172.1.toList = ([] : List UInt8) then (if bt172.2.1.toList = a0.toList then (if t168 = true then ((runes_Name.f ((a0 ++ (⟨#[58]⟩ : ByteArray)) ++ a1)).bind fun t176 => (some t176)) else (some true)) else (some false)) else (some false)) else (some false)) else (some false)) else (some false)) else (if (bt172.2.2 == true) = true then (if bt172.1.toList = ([] : List UInt8) then (if bt172.2.1.toList = a0.toList then (if t168 = true then ((runes_Name.f ((a0 ++ (⟨#[58]⟩ : ByteArray)) ++ a1)).bind fun t177 => (some t177)) else (some true)) else (some false)) else (some false)) else (some false))) else (some false)) else (if (bt169.2.2 == false) = true then (if bt169.2.2 = true then (if bt169.1.toList = a0.toList then (if bt169.2.1.toList = a1.toList then ((brackenlaw1_splits.f kj2 a0).bind fun t178 => (if (bt172.2.2 == t178) = true then (some true) else (some false))) else (some false)) else (some false)) else ((brackenlaw1_splits.f kj2 a0).bind fun t179 => (if (bt172.2.2 == t179) = true then (some true) else (some false)))) else (some false))) else (some false))))) else (none)) else (none)))) = some r := by rw [if_neg (show ¬ (false = true) by decide)] at H; exact H
        clear H
        have H := H1
        clear H1
        replace H := Option.bind_eq_some_iff.mp H
        obtain ⟨t167, A80, H⟩ := H
        replace H : ((runes_NCName.f a1).bind fun t168 => (if a0.size + 1 ≤ 9223372036854775807 then (if a0.size + 1 + a1.size ≤ 9223372036854775807 then ((runes_Split.f ((a0 ++ (⟨#[58]⟩ : ByteArray)) ++ a1)).bind fun bt169 => ((runes_Split.f a0).bind fun bt172 => ((brackenlaw1_told.f).bind fun t175 => (if t175 = true then (if t167 = true then (if (bt169.2.2 == t168) = true then (if bt169.2.2 = true then (if bt169.1.toList = a0.toList then (if bt169.2.1.toList = a1.toList then (if (bt172.2.2 == true) = true then (if bt172.1.toList = ([] : List UInt8) then (if bt172.2.1.toList = a0.toList then (if t168 = true then ((runes_Name.f ((a0 ++ (⟨#[58]⟩ : ByteArray)) ++ a1)).bind fun t176 => (some t176)) else (some true)) else (some false)) else (some false)) else (some false)) else (some false)) else (some false)) else (if (bt172.2.2 == true) = true then (if bt172.1.toList = ([] : List UInt8) then (if bt172.2.1.toList = a0.toList then (if t168 = true then ((runes_Name.f ((a0 ++ (⟨#[58]⟩ : ByteArray)) ++ a1)).bind fun t177 => (some t177)) else (some true)) else (some false)) else (some false)) else (some false))) else (some false)) else (if (bt169.2.2 == false) = true then (if bt169.2.2 = true then (if bt169.1.toList = a0.toList then (if bt169.2.1.toList = a1.toList then ((brackenlaw1_splits.f kj2 a0).bind fun t178 => (if (bt172.2.2 == t178) = true then (some true) else (some false))) else (some false)) else (some false)) else ((brackenlaw1_splits.f kj2 a0).bind fun t179 => (if (bt172.2.2 == t179) = true then (some true) else (some false)))) else (some false))) else (some false))))) else (none)) else (none))) = some r := H
        have A8 := Aside0.mk A80
        clear A80
        replace H := Option.bind_eq_some_iff.mp H
        obtain ⟨t168, A90, H⟩ := H
        replace H : (if a0.size + 1 ≤ 9223372036854775807 then (if a0.size + 1 + a1.size ≤ 9223372036854775807 then ((runes_Split.f ((a0 ++ (⟨#[58]⟩ : ByteArray)) ++ a1)).bind fun bt169 => ((runes_Split.f a0).bind fun bt172 => ((brackenlaw1_told.f).bind fun t175 => (if t175 = true then (if t167 = true then (if (bt169.2.2 == t168) = true then (if bt169.2.2 = true then (if bt169.1.toList = a0.toList then (if bt169.2.1.toList = a1.toList then (if (bt172.2.2 == true) = true then (if bt172.1.toList = ([] : List UInt8) then (if bt172.2.1.toList = a0.toList then (if t168 = true then ((runes_Name.f ((a0 ++ (⟨#[58]⟩ : ByteArray)) ++ a1)).bind fun t176 => (some t176)) else (some true)) else (some false)) else (some false)) else (some false)) else (some false)) else (some false)) else (if (bt172.2.2 == true) = true then (if bt172.1.toList = ([] : List UInt8) then (if bt172.2.1.toList = a0.toList then (if t168 = true then ((runes_Name.f ((a0 ++ (⟨#[58]⟩ : ByteArray)) ++ a1)).bind fun t177 => (some t177)) else (some true)) else (some false)) else (some false)) else (some false))) else (some false)) else (if (bt169.2.2 == false) = true then (if bt169.2.2 = true then (if bt169.1.toList = a0.toList then (if bt169.2.1.toList = a1.toList then ((brackenlaw1_splits.f kj2 a0).bind fun t178 => (if (bt172.2.2 == t178) = true then (some true) else (some false))) else (some false)) else (some false)) else ((brackenlaw1_splits.f kj2 a0).bind fun t179 => (if (bt172.2.2 == t179) = true then (some true) else (some false)))) else (some false))) else (some false))))) else (none)) else (none)) = some r := H
        have A9 := Aside0.mk A90
        clear A90
        by_cases c10 : a0.size + 1 ≤ 9223372036854775807
        · rw [if_pos c10] at H
          have c10b0 := eq_true c10
          have c10b1 : decide (a0.size + 1 ≤ 9223372036854775807) = true := decide_eq_true c10
          try have c10b2 : (9223372036854775807 < a0.size + 1) = False := eq_false (Nat.not_lt.2 c10)
          by_cases c11 : a0.size + 1 + a1.size ≤ 9223372036854775807
          · rw [if_pos c11] at H
            have c11b0 := eq_true c11
            have c11b1 : decide (a0.size + 1 + a1.size ≤ 9223372036854775807) = true := decide_eq_true c11
            try have c11b2 : (9223372036854775807 < a0.size + 1 + a1.size) = False := eq_false (Nat.not_lt.2 c11)
            replace H := Option.bind_eq_some_iff.mp H
            obtain ⟨⟨t169, t170, t171⟩, A120, H⟩ := H
            replace H : ((runes_Split.f a0).bind fun bt172 => ((brackenlaw1_told.f).bind fun t175 => (if t175 = true then (if t167 = true then (if (t171 == t168) = true then (if t171 = true then (if t169.toList = a0.toList then (if t170.toList = a1.toList then (if (bt172.2.2 == true) = true then (if bt172.1.toList = ([] : List UInt8) then (if bt172.2.1.toList = a0.toList then (if t168 = true then ((runes_Name.f ((a0 ++ (⟨#[58]⟩ : ByteArray)) ++ a1)).bind fun t176 => (some t176)) else (some true)) else (some false)) else (some false)) else (some false)) else (some false)) else (some false)) else (if (bt172.2.2 == true) = true then (if bt172.1.toList = ([] : List UInt8) then (if bt172.2.1.toList = a0.toList then (if t168 = true then ((runes_Name.f ((a0 ++ (⟨#[58]⟩ : ByteArray)) ++ a1)).bind fun t177 => (some t177)) else (some true)) else (some false)) else (some false)) else (some false))) else (some false)) else (if (t171 == false) = true then (if t171 = true then (if t169.toList = a0.toList then (if t170.toList = a1.toList then ((brackenlaw1_splits.f kj2 a0).bind fun t178 => (if (bt172.2.2 == t178) = true then (some true) else (some false))) else (some false)) else (some false)) else ((brackenlaw1_splits.f kj2 a0).bind fun t179 => (if (bt172.2.2 == t179) = true then (some true) else (some false)))) else (some false))) else (some false)))) = some r := H
            have A12 := Aside0.mk A120
            clear A120
            replace H := Option.bind_eq_some_iff.mp H
            obtain ⟨⟨t172, t173, t174⟩, A130, H⟩ := H
            replace H : ((brackenlaw1_told.f).bind fun t175 => (if t175 = true then (if t167 = true then (if (t171 == t168) = true then (if t171 = true then (if t169.toList = a0.toList then (if t170.toList = a1.toList then (if (t174 == true) = true then (if t172.toList = ([] : List UInt8) then (if t173.toList = a0.toList then (if t168 = true then ((runes_Name.f ((a0 ++ (⟨#[58]⟩ : ByteArray)) ++ a1)).bind fun t176 => (some t176)) else (some true)) else (some false)) else (some false)) else (some false)) else (some false)) else (some false)) else (if (t174 == true) = true then (if t172.toList = ([] : List UInt8) then (if t173.toList = a0.toList then (if t168 = true then ((runes_Name.f ((a0 ++ (⟨#[58]⟩ : ByteArray)) ++ a1)).bind fun t177 => (some t177)) else (some true)) else (some false)) else (some false)) else (some false))) else (some false)) else (if (t171 == false) = true then (if t171 = true then (if t169.toList = a0.toList then (if t170.toList = a1.toList then ((brackenlaw1_splits.f kj2 a0).bind fun t178 => (if (t174 == t178) = true then (some true) else (some false))) else (some false)) else (some false)) else ((brackenlaw1_splits.f kj2 a0).bind fun t179 => (if (t174 == t179) = true then (some true) else (some false)))) else (some false))) else (some false))) = some r := H
            have A13 := Aside0.mk A130
            clear A130
            replace H := Option.bind_eq_some_iff.mp H
            obtain ⟨t175, A140, H⟩ := H
            replace H : (if t175 = true then (if t167 = true then (if (t171 == t168) = true then (if t171 = true then (if t169.toList = a0.toList then (if t170.toList = a1.toList then (if (t174 == true) = true then (if t172.toList = ([] : List UInt8) then (if t173.toList = a0.toList then (if t168 = true then ((runes_Name.f ((a0 ++ (⟨#[58]⟩ : ByteArray)) ++ a1)).bind fun t176 => (some t176)) else (some true)) else (some false)) else (some false)) else (some false)) else (some false)) else (some false)) else (if (t174 == true) = true then (if t172.toList = ([] : List UInt8) then (if t173.toList = a0.toList then (if t168 = true then ((runes_Name.f ((a0 ++ (⟨#[58]⟩ : ByteArray)) ++ a1)).bind fun t177 => (some t177)) else (some true)) else (some false)) else (some false)) else (some false))) else (some false)) else (if (t171 == false) = true then (if t171 = true then (if t169.toList = a0.toList then (if t170.toList = a1.toList then ((brackenlaw1_splits.f kj2 a0).bind fun t178 => (if (t174 == t178) = true then (some true) else (some false))) else (some false)) else (some false)) else ((brackenlaw1_splits.f kj2 a0).bind fun t179 => (if (t174 == t179) = true then (some true) else (some false)))) else (some false))) else (some false)) = some r := H
            have A14 := Aside0.mk A140
            clear A140
            by_cases c15 : t175 = true
            · subst c15
              have H1 : (if t167 = true then (if (t171 == t168) = true then (if t171 = true then (if t169.toList = a0.toList then (if t170.toList = a1.toList then (if (t174 == true) = true then (if t172.toList = ([] : List UInt8) then (if t173.toList = a0.toList then (if t168 = true then ((runes_Name.f ((a0 ++ (⟨#[58]⟩ : ByteArray)) ++ a1)).bind fun t176 => (some t176)) else (some true)) else (some false)) else (some false)) else (some false)) else (some false)) else (some false)) else (if (t174 == true) = true then (if t172.toList = ([] : List UInt8) then (if t173.toList = a0.toList then (if t168 = true then ((runes_Name.f ((a0 ++ (⟨#[58]⟩ : ByteArray)) ++ a1)).bind fun t177 => (some t177)) else (some true)) else (some false)) else (some false)) else (some false))) else (some false)) else (if (t171 == false) = true then (if t171 = true then (if t169.toList = a0.toList then (if t170.toList = a1.toList then ((brackenlaw1_splits.f kj2 a0).bind fun t178 => (if (t174 == t178) = true then (some true) else (some false))) else (some false)) else (some false)) else ((brackenlaw1_splits.f kj2 a0).bind fun t179 => (if (t174 == t179) = true then (some true) else (some false)))) else (some false))) = some r := by rw [if_pos rfl] at H; exact H
              clear H
              have H := H1
              clear H1
              by_cases c16 : t167 = true
              · subst c16
                have H1 : (if (t171 == t168) = true then (if t171 = true then (if t169.toList = a0.toList then (if t170.toList = a1.toList then (if (t174 == true) = true then (if t172.toList = ([] : List UInt8) then (if t173.toList = a0.toList then (if t168 = true then ((runes_Name.f ((a0 ++ (⟨#[58]⟩ : ByteArray)) ++ a1)).bind fun t176 => (some t176)) else (some true)) else (some false)) else (some false)) else (some false)) else (some false)) else (some false)) else (if (t174 == true) = true then (if t172.toList = ([] : List UInt8) then (if t173.toList = a0.toList then (if t168 = true then ((runes_Name.f ((a0 ++ (⟨#[58]⟩ : ByteArray)) ++ a1)).bind fun t177 => (some t177)) else (some true)) else (some false)) else (some false)) else (some false))) else (some false)) = some r := by rw [if_pos rfl] at H; exact H
                clear H
                have H := H1
                clear H1
                by_cases c17 : (t171 == t168) = true
                · rw [if_pos c17] at H
                  have c17b0 : (t171 == t168) = true := c17
                  (try (have c17b1 : decide (t171 = t168) = true := by simpa using c17))
                  (try (have c17b2 : (t171 == t168) = true := by simpa using c17))
                  clear c17
                  by_cases c18 : t171 = true
                  · subst c18
                    have H1 : (if t169.toList = a0.toList then (if t170.toList = a1.toList then (if (t174 == true) = true then (if t172.toList = ([] : List UInt8) then (if t173.toList = a0.toList then (if t168 = true then ((runes_Name.f ((a0 ++ (⟨#[58]⟩ : ByteArray)) ++ a1)).bind fun t176 => (some t176)) else (some true)) else (some false)) else (some false)) else (some false)) else (some false)) else (some false)) = some r := by rw [if_pos rfl] at H; exact H
                    clear H
                    have H := H1
                    clear H1
                    by_cases c19 : t169.toList = a0.toList
                    · rw [if_pos c19] at H
                      have c19b0 : (t169.toList == a0.toList) = true := beq_iff_eq.mpr c19
                      have c19b1 : (t169.toList != a0.toList) = false := bne_eq_false_iff_eq.mpr c19
                      clear c19
                      by_cases c20 : t170.toList = a1.toList
                      · rw [if_pos c20] at H
                        have c20b0 : (t170.toList == a1.toList) = true := beq_iff_eq.mpr c20
                        have c20b1 : (t170.toList != a1.toList) = false := bne_eq_false_iff_eq.mpr c20
                        clear c20
                        by_cases c21 : (t174 == true) = true
                        · rw [if_pos c21] at H
                          have c21b0 : (t174 == true) = true := c21
                          (try (have c21b1 : decide (t174 = true) = true := by simpa using c21))
                          (try (have c21b2 : (t174 == true) = true := by simpa using c21))
                          clear c21
                          by_cases c22 : t172.toList = ([] : List UInt8)
                          · rw [if_pos c22] at H
                            have c22b0 : (t172.toList == ([] : List UInt8)) = true := beq_iff_eq.mpr c22
                            have c22b1 : (t172.toList != ([] : List UInt8)) = false := bne_eq_false_iff_eq.mpr c22
                            clear c22
                            by_cases c23 : t173.toList = a0.toList
                            · rw [if_pos c23] at H
                              have c23b0 : (t173.toList == a0.toList) = true := beq_iff_eq.mpr c23
                              have c23b1 : (t173.toList != a0.toList) = false := bne_eq_false_iff_eq.mpr c23
                              clear c23
                              by_cases c24 : t168 = true
                              · subst c24
                                have H1 : ((runes_Name.f ((a0 ++ (⟨#[58]⟩ : ByteArray)) ++ a1)).bind fun t176 => (some t176)) = some r := by rw [if_pos rfl] at H; exact H
                                clear H
                                have H := H1
                                clear H1
                                replace H := Option.bind_eq_some_iff.mp H
                                obtain ⟨t176, A250, H⟩ := H
                                replace H : (some t176) = some r := H
                                have A25 := Aside0.mk A250
                                clear A250
                                obtain rfl := Option.some.inj H
                                go_wp2_with (first | ((with_reducible refine gate_callee (f := 28) rfl ?_); refine goesL_ (some 23) rfl rfl Tryd.func28 (by kernel_rfl) rfl #[.string a0] rfl (by (try simp only [List.map_toArray, List.map_cons, List.map_nil]); first | done | rfl | (simp only [List.length_drop, List.length_take]; rfl)) ?_; (with_reducible refine (runes_NCName.calls a0 true _ (Env.below HE.out (by repeat (first | (with_reducible first | exact HB.out | apply below_alloc | apply pw_below_drewN | apply below_drew1) | exact HB.out))) A8.out).mono ?_); rintro e w26 ⟨rfl, hb⟩; refine ⟨_, rfl, ?_⟩; have n0_ := Aside0.mk (below_step (by repeat (first | (with_reducible first | exact HB.out | apply below_alloc | apply pw_below_drewN | apply below_drew1) | exact HB.out)) hb); clear HB; have HB := n0_; clear n0_; (try clear hb); (try clear hb2); (try clear hk); (try clear hi)) | ((with_reducible refine gate_callee (f := 28) rfl ?_); refine goesL_ (some 25) rfl rfl Tryd.func28 (by kernel_rfl) rfl #[.string a1] rfl (by (try simp only [List.map_toArray, List.map_cons, List.map_nil]); first | done | rfl | (simp only [List.length_drop, List.length_take]; rfl)) ?_; (with_reducible refine (runes_NCName.calls a1 true _ (Env.below HE.out (by repeat (first | (with_reducible first | exact HB.out | apply below_alloc | apply pw_below_drewN | apply below_drew1) | exact HB.out))) A9.out).mono ?_); rintro e w27 ⟨rfl, hb⟩; refine ⟨_, rfl, ?_⟩; have n0_ := Aside0.mk (below_step (by repeat (first | (with_reducible first | exact HB.out | apply below_alloc | apply pw_below_drewN | apply below_drew1) | exact HB.out)) hb); clear HB; have HB := n0_; clear n0_; (try clear hb); (try clear hb2); (try clear hk); (try clear hi)) | ((with_reducible refine gate_callee (f := 18) rfl ?_); refine goesL_ (some 31) rfl rfl Tryd.func18 (by kernel_rfl) rfl #[.string ((a0 ++ (⟨#[58]⟩ : ByteArray)) ++ a1)] rfl (by (try simp only [List.map_toArray, List.map_cons, List.map_nil]); first | done | rfl | (simp only [List.length_drop, List.length_take]; rfl)) ?_; (with_reducible refine (runes_Split.calls ((a0 ++ (⟨#[58]⟩ : ByteArray)) ++ a1) t169 t170 true _ (Env.below HE.out (by repeat (first | (with_reducible first | exact HB.out | apply below_alloc | apply pw_below_drewN | apply below_drew1) | exact HB.out))) A12.out).mono ?_); rintro e w28 ⟨rfl, hb⟩; refine ⟨_, rfl, ?_⟩; have n0_ := Aside0.mk (below_step (by repeat (first | (with_reducible first | exact HB.out | apply below_alloc | apply pw_below_drewN | apply below_drew1) | exact HB.out)) hb); clear HB; have HB := n0_; clear n0_; (try clear hb); (try clear hb2); (try clear hk); (try clear hi)) | ((with_reducible refine gate_callee (f := 18) rfl ?_); refine goesL_ (some 37) rfl rfl Tryd.func18 (by kernel_rfl) rfl #[.string a0] rfl (by (try simp only [List.map_toArray, List.map_cons, List.map_nil]); first | done | rfl | (simp only [List.length_drop, List.length_take]; rfl)) ?_; (with_reducible refine (runes_Split.calls a0 t172 t173 t174 _ (Env.below HE.out (by repeat (first | (with_reducible first | exact HB.out | apply below_alloc | apply pw_below_drewN | apply below_drew1) | exact HB.out))) A13.out).mono ?_); rintro e w29 ⟨rfl, hb⟩; refine ⟨_, rfl, ?_⟩; have n0_ := Aside0.mk (below_step (by repeat (first | (with_reducible first | exact HB.out | apply below_alloc | apply pw_below_drewN | apply below_drew1) | exact HB.out)) hb); clear HB; have HB := n0_; clear n0_; (try clear hb); (try clear hb2); (try clear hk); (try clear hi)) | (go_at_call 15; (with_reducible refine (brackenlaw1_told.calls  true _ (Env.below HE.out (by repeat (first | (with_reducible first | exact HB.out | apply below_alloc | apply pw_below_drewN | apply below_drew1) | exact HB.out))) hidTrue A14.out).mono ?_); rintro e w30 ⟨rfl, hb⟩; have n0_ := Aside0.mk (below_step (by repeat (first | (with_reducible first | exact HB.out | apply below_alloc | apply pw_below_drewN | apply below_drew1) | exact HB.out)) hb); clear HB; have HB := n0_; clear n0_; (try clear hb); (try clear hb2); (try clear hk); (try clear hi)) | (go_at_call 26; (with_reducible refine (runes_Name.calls ((a0 ++ (⟨#[58]⟩ : ByteArray)) ++ a1) t176 _ (Env.below HE.out (by repeat (first | (with_reducible first | exact HB.out | apply below_alloc | apply pw_below_drewN | apply below_drew1) | exact HB.out))) A25.out).mono ?_); rintro e w31 ⟨rfl, hb⟩; have n0_ := Aside0.mk (below_step (by repeat (first | (with_reducible first | exact HB.out | apply below_alloc | apply pw_below_drewN | apply below_drew1) | exact HB.out)) hb); clear HB; have HB := n0_; clear n0_; (try clear hb); (try clear hb2); (try clear hk); (try clear hi)))
                                go_ret
                                exact ⟨by first | rfl | (simp [errW_none, errW_some] <;> rfl) | (simp [*, errW_none, errW_some] <;> rfl), by repeat (first | (with_reducible first | exact HB.out | apply below_alloc | apply pw_below_drewN | apply below_drew1) | exact HB.out)⟩
                              · replace c24 := Bool.eq_false_iff.mpr c24
                                subst c24
                                have H1 : (some true) = some r := by rw [if_neg (show ¬ (false = true) by decide)] at H; exact H
                                clear H
                                have H := H1
                                clear H1
                                obtain rfl := Option.some.inj H
                                go_wp2_with (first | ((with_reducible refine gate_callee (f := 28) rfl ?_); refine goesL_ (some 23) rfl rfl Tryd.func28 (by kernel_rfl) rfl #[.string a0] rfl (by (try simp only [List.map_toArray, List.map_cons, List.map_nil]); first | done | rfl | (simp only [List.length_drop, List.length_take]; rfl)) ?_; (with_reducible refine (runes_NCName.calls a0 true _ (Env.below HE.out (by repeat (first | (with_reducible first | exact HB.out | apply below_alloc | apply pw_below_drewN | apply below_drew1) | exact HB.out))) A8.out).mono ?_); rintro e w32 ⟨rfl, hb⟩; refine ⟨_, rfl, ?_⟩; have n0_ := Aside0.mk (below_step (by repeat (first | (with_reducible first | exact HB.out | apply below_alloc | apply pw_below_drewN | apply below_drew1) | exact HB.out)) hb); clear HB; have HB := n0_; clear n0_; (try clear hb); (try clear hb2); (try clear hk); (try clear hi)) | ((with_reducible refine gate_callee (f := 28) rfl ?_); refine goesL_ (some 25) rfl rfl Tryd.func28 (by kernel_rfl) rfl #[.string a1] rfl (by (try simp only [List.map_toArray, List.map_cons, List.map_nil]); first | done | rfl | (simp only [List.length_drop, List.length_take]; rfl)) ?_; (with_reducible refine (runes_NCName.calls a1 false _ (Env.below HE.out (by repeat (first | (with_reducible first | exact HB.out | apply below_alloc | apply pw_below_drewN | apply below_drew1) | exact HB.out))) A9.out).mono ?_); rintro e w33 ⟨rfl, hb⟩; refine ⟨_, rfl, ?_⟩; have n0_ := Aside0.mk (below_step (by repeat (first | (with_reducible first | exact HB.out | apply below_alloc | apply pw_below_drewN | apply below_drew1) | exact HB.out)) hb); clear HB; have HB := n0_; clear n0_; (try clear hb); (try clear hb2); (try clear hk); (try clear hi)) | ((with_reducible refine gate_callee (f := 18) rfl ?_); refine goesL_ (some 31) rfl rfl Tryd.func18 (by kernel_rfl) rfl #[.string ((a0 ++ (⟨#[58]⟩ : ByteArray)) ++ a1)] rfl (by (try simp only [List.map_toArray, List.map_cons, List.map_nil]); first | done | rfl | (simp only [List.length_drop, List.length_take]; rfl)) ?_; (with_reducible refine (runes_Split.calls ((a0 ++ (⟨#[58]⟩ : ByteArray)) ++ a1) t169 t170 true _ (Env.below HE.out (by repeat (first | (with_reducible first | exact HB.out | apply below_alloc | apply pw_below_drewN | apply below_drew1) | exact HB.out))) A12.out).mono ?_); rintro e w34 ⟨rfl, hb⟩; refine ⟨_, rfl, ?_⟩; have n0_ := Aside0.mk (below_step (by repeat (first | (with_reducible first | exact HB.out | apply below_alloc | apply pw_below_drewN | apply below_drew1) | exact HB.out)) hb); clear HB; have HB := n0_; clear n0_; (try clear hb); (try clear hb2); (try clear hk); (try clear hi)) | ((with_reducible refine gate_callee (f := 18) rfl ?_); refine goesL_ (some 37) rfl rfl Tryd.func18 (by kernel_rfl) rfl #[.string a0] rfl (by (try simp only [List.map_toArray, List.map_cons, List.map_nil]); first | done | rfl | (simp only [List.length_drop, List.length_take]; rfl)) ?_; (with_reducible refine (runes_Split.calls a0 t172 t173 t174 _ (Env.below HE.out (by repeat (first | (with_reducible first | exact HB.out | apply below_alloc | apply pw_below_drewN | apply below_drew1) | exact HB.out))) A13.out).mono ?_); rintro e w35 ⟨rfl, hb⟩; refine ⟨_, rfl, ?_⟩; have n0_ := Aside0.mk (below_step (by repeat (first | (with_reducible first | exact HB.out | apply below_alloc | apply pw_below_drewN | apply below_drew1) | exact HB.out)) hb); clear HB; have HB := n0_; clear n0_; (try clear hb); (try clear hb2); (try clear hk); (try clear hi)) | (go_at_call 15; (with_reducible refine (brackenlaw1_told.calls  true _ (Env.below HE.out (by repeat (first | (with_reducible first | exact HB.out | apply below_alloc | apply pw_below_drewN | apply below_drew1) | exact HB.out))) hidTrue A14.out).mono ?_); rintro e w36 ⟨rfl, hb⟩; have n0_ := Aside0.mk (below_step (by repeat (first | (with_reducible first | exact HB.out | apply below_alloc | apply pw_below_drewN | apply below_drew1) | exact HB.out)) hb); clear HB; have HB := n0_; clear n0_; (try clear hb); (try clear hb2); (try clear hk); (try clear hi)))
                                go_ret
                                exact ⟨by first | rfl | (simp [errW_none, errW_some] <;> rfl) | (simp [*, errW_none, errW_some] <;> rfl), by repeat (first | (with_reducible first | exact HB.out | apply below_alloc | apply pw_below_drewN | apply below_drew1) | exact HB.out)⟩
                            · rw [if_neg c23] at H
                              have c23b0 : (t173.toList == a0.toList) = false := beq_eq_false_iff_ne.mpr c23
                              have c23b1 : (t173.toList != a0.toList) = true := bne_iff_ne.mpr c23
                              exact absurd ((Option.some.inj H).trans hTrue.out) (by decide)
                          · rw [if_neg c22] at H
                            have c22b0 : (t172.toList == ([] : List UInt8)) = false := beq_eq_false_iff_ne.mpr c22
                            have c22b1 : (t172.toList != ([] : List UInt8)) = true := bne_iff_ne.mpr c22
                            exact absurd ((Option.some.inj H).trans hTrue.out) (by decide)
                        · rw [if_neg c21] at H
                          have c21b0 : (t174 == true) = false := by simpa using c21
                          (try (have c21b1 : decide (t174 = true) = false := by simpa using c21))
                          (try (have c21b2 : (t174 == true) = false := by simpa using c21))
                          (try (have c21b3 : ¬ (t174 = true) := by simpa using c21))
                          clear c21
                          exact absurd ((Option.some.inj H).trans hTrue.out) (by decide)
                      · rw [if_neg c20] at H
                        have c20b0 : (t170.toList == a1.toList) = false := beq_eq_false_iff_ne.mpr c20
                        have c20b1 : (t170.toList != a1.toList) = true := bne_iff_ne.mpr c20
                        exact absurd ((Option.some.inj H).trans hTrue.out) (by decide)
                    · rw [if_neg c19] at H
                      have c19b0 : (t169.toList == a0.toList) = false := beq_eq_false_iff_ne.mpr c19
                      have c19b1 : (t169.toList != a0.toList) = true := bne_iff_ne.mpr c19
                      exact absurd ((Option.some.inj H).trans hTrue.out) (by decide)
                  · replace c18 := Bool.eq_false_iff.mpr c18
                    subst c18
                    have H1 : (if (t174 == true) = true then (if t172.toList = ([] : List UInt8) then (if t173.toList = a0.toList then (if t168 = true then ((runes_Name.f ((a0 ++ (⟨#[58]⟩ : ByteArray)) ++ a1)).bind fun t177 => (some t177)) else (some true)) else (some false)) else (some false)) else (some false)) = some r := by rw [if_neg (show ¬ (false = true) by decide)] at H; exact H
                    clear H
                    have H := H1
                    clear H1
                    by_cases c37 : (t174 == true) = true
                    · rw [if_pos c37] at H
                      have c37b0 : (t174 == true) = true := c37
                      (try (have c37b1 : decide (t174 = true) = true := by simpa using c37))
                      (try (have c37b2 : (t174 == true) = true := by simpa using c37))
                      clear c37
                      by_cases c38 : t172.toList = ([] : List UInt8)
                      · rw [if_pos c38] at H
                        have c38b0 : (t172.toList == ([] : List UInt8)) = true := beq_iff_eq.mpr c38
                        have c38b1 : (t172.toList != ([] : List UInt8)) = false := bne_eq_false_iff_eq.mpr c38
                        clear c38
                        by_cases c39 : t173.toList = a0.toList
                        · rw [if_pos c39] at H
                          have c39b0 : (t173.toList == a0.toList) = true := beq_iff_eq.mpr c39
                          have c39b1 : (t173.toList != a0.toList) = false := bne_eq_false_iff_eq.mpr c39
                          clear c39
                          by_cases c40 : t168 = true
                          · subst c40
                            have H1 : ((runes_Name.f ((a0 ++ (⟨#[58]⟩ : ByteArray)) ++ a1)).bind fun t177 => (some t177)) = some r := by rw [if_pos rfl] at H; exact H
                            clear H
                            have H := H1
                            clear H1
                            replace H := Option.bind_eq_some_iff.mp H
                            obtain ⟨t177, A410, H⟩ := H
                            replace H : (some t177) = some r := H
                            have A41 := Aside0.mk A410
                            clear A410
                            obtain rfl := Option.some.inj H
                            go_wp2_with (first | ((with_reducible refine gate_callee (f := 28) rfl ?_); refine goesL_ (some 23) rfl rfl Tryd.func28 (by kernel_rfl) rfl #[.string a0] rfl (by (try simp only [List.map_toArray, List.map_cons, List.map_nil]); first | done | rfl | (simp only [List.length_drop, List.length_take]; rfl)) ?_; (with_reducible refine (runes_NCName.calls a0 true _ (Env.below HE.out (by repeat (first | (with_reducible first | exact HB.out | apply below_alloc | apply pw_below_drewN | apply below_drew1) | exact HB.out))) A8.out).mono ?_); rintro e w42 ⟨rfl, hb⟩; refine ⟨_, rfl, ?_⟩; have n0_ := Aside0.mk (below_step (by repeat (first | (with_reducible first | exact HB.out | apply below_alloc | apply pw_below_drewN | apply below_drew1) | exact HB.out)) hb); clear HB; have HB := n0_; clear n0_; (try clear hb); (try clear hb2); (try clear hk); (try clear hi)) | ((with_reducible refine gate_callee (f := 28) rfl ?_); refine goesL_ (some 25) rfl rfl Tryd.func28 (by kernel_rfl) rfl #[.string a1] rfl (by (try simp only [List.map_toArray, List.map_cons, List.map_nil]); first | done | rfl | (simp only [List.length_drop, List.length_take]; rfl)) ?_; (with_reducible refine (runes_NCName.calls a1 true _ (Env.below HE.out (by repeat (first | (with_reducible first | exact HB.out | apply below_alloc | apply pw_below_drewN | apply below_drew1) | exact HB.out))) A9.out).mono ?_); rintro e w43 ⟨rfl, hb⟩; refine ⟨_, rfl, ?_⟩; have n0_ := Aside0.mk (below_step (by repeat (first | (with_reducible first | exact HB.out | apply below_alloc | apply pw_below_drewN | apply below_drew1) | exact HB.out)) hb); clear HB; have HB := n0_; clear n0_; (try clear hb); (try clear hb2); (try clear hk); (try clear hi)) | ((with_reducible refine gate_callee (f := 18) rfl ?_); refine goesL_ (some 31) rfl rfl Tryd.func18 (by kernel_rfl) rfl #[.string ((a0 ++ (⟨#[58]⟩ : ByteArray)) ++ a1)] rfl (by (try simp only [List.map_toArray, List.map_cons, List.map_nil]); first | done | rfl | (simp only [List.length_drop, List.length_take]; rfl)) ?_; (with_reducible refine (runes_Split.calls ((a0 ++ (⟨#[58]⟩ : ByteArray)) ++ a1) t169 t170 false _ (Env.below HE.out (by repeat (first | (with_reducible first | exact HB.out | apply below_alloc | apply pw_below_drewN | apply below_drew1) | exact HB.out))) A12.out).mono ?_); rintro e w44 ⟨rfl, hb⟩; refine ⟨_, rfl, ?_⟩; have n0_ := Aside0.mk (below_step (by repeat (first | (with_reducible first | exact HB.out | apply below_alloc | apply pw_below_drewN | apply below_drew1) | exact HB.out)) hb); clear HB; have HB := n0_; clear n0_; (try clear hb); (try clear hb2); (try clear hk); (try clear hi)) | ((with_reducible refine gate_callee (f := 18) rfl ?_); refine goesL_ (some 37) rfl rfl Tryd.func18 (by kernel_rfl) rfl #[.string a0] rfl (by (try simp only [List.map_toArray, List.map_cons, List.map_nil]); first | done | rfl | (simp only [List.length_drop, List.length_take]; rfl)) ?_; (with_reducible refine (runes_Split.calls a0 t172 t173 t174 _ (Env.below HE.out (by repeat (first | (with_reducible first | exact HB.out | apply below_alloc | apply pw_below_drewN | apply below_drew1) | exact HB.out))) A13.out).mono ?_); rintro e w45 ⟨rfl, hb⟩; refine ⟨_, rfl, ?_⟩; have n0_ := Aside0.mk (below_step (by repeat (first | (with_reducible first | exact HB.out | apply below_alloc | apply pw_below_drewN | apply below_drew1) | exact HB.out)) hb); clear HB; have HB := n0_; clear n0_; (try clear hb); (try clear hb2); (try clear hk); (try clear hi)) | (go_at_call 15; (with_reducible refine (brackenlaw1_told.calls  true _ (Env.below HE.out (by repeat (first | (with_reducible first | exact HB.out | apply below_alloc | apply pw_below_drewN | apply below_drew1) | exact HB.out))) hidTrue A14.out).mono ?_); rintro e w46 ⟨rfl, hb⟩; have n0_ := Aside0.mk (below_step (by repeat (first | (with_reducible first | exact HB.out | apply below_alloc | apply pw_below_drewN | apply below_drew1) | exact HB.out)) hb); clear HB; have HB := n0_; clear n0_; (try clear hb); (try clear hb2); (try clear hk); (try clear hi)) | (go_at_call 26; (with_reducible refine (runes_Name.calls ((a0 ++ (⟨#[58]⟩ : ByteArray)) ++ a1) t177 _ (Env.below HE.out (by repeat (first | (with_reducible first | exact HB.out | apply below_alloc | apply pw_below_drewN | apply below_drew1) | exact HB.out))) A41.out).mono ?_); rintro e w47 ⟨rfl, hb⟩; have n0_ := Aside0.mk (below_step (by repeat (first | (with_reducible first | exact HB.out | apply below_alloc | apply pw_below_drewN | apply below_drew1) | exact HB.out)) hb); clear HB; have HB := n0_; clear n0_; (try clear hb); (try clear hb2); (try clear hk); (try clear hi)))
                            go_ret
                            exact ⟨by first | rfl | (simp [errW_none, errW_some] <;> rfl) | (simp [*, errW_none, errW_some] <;> rfl), by repeat (first | (with_reducible first | exact HB.out | apply below_alloc | apply pw_below_drewN | apply below_drew1) | exact HB.out)⟩
                          · replace c40 := Bool.eq_false_iff.mpr c40
                            subst c40
                            have H1 : (some true) = some r := by rw [if_neg (show ¬ (false = true) by decide)] at H; exact H
                            clear H
                            have H := H1
                            clear H1
                            obtain rfl := Option.some.inj H
                            go_wp2_with (first | ((with_reducible refine gate_callee (f := 28) rfl ?_); refine goesL_ (some 23) rfl rfl Tryd.func28 (by kernel_rfl) rfl #[.string a0] rfl (by (try simp only [List.map_toArray, List.map_cons, List.map_nil]); first | done | rfl | (simp only [List.length_drop, List.length_take]; rfl)) ?_; (with_reducible refine (runes_NCName.calls a0 true _ (Env.below HE.out (by repeat (first | (with_reducible first | exact HB.out | apply below_alloc | apply pw_below_drewN | apply below_drew1) | exact HB.out))) A8.out).mono ?_); rintro e w48 ⟨rfl, hb⟩; refine ⟨_, rfl, ?_⟩; have n0_ := Aside0.mk (below_step (by repeat (first | (with_reducible first | exact HB.out | apply below_alloc | apply pw_below_drewN | apply below_drew1) | exact HB.out)) hb); clear HB; have HB := n0_; clear n0_; (try clear hb); (try clear hb2); (try clear hk); (try clear hi)) | ((with_reducible refine gate_callee (f := 28) rfl ?_); refine goesL_ (some 25) rfl rfl Tryd.func28 (by kernel_rfl) rfl #[.string a1] rfl (by (try simp only [List.map_toArray, List.map_cons, List.map_nil]); first | done | rfl | (simp only [List.length_drop, List.length_take]; rfl)) ?_; (with_reducible refine (runes_NCName.calls a1 false _ (Env.below HE.out (by repeat (first | (with_reducible first | exact HB.out | apply below_alloc | apply pw_below_drewN | apply below_drew1) | exact HB.out))) A9.out).mono ?_); rintro e w49 ⟨rfl, hb⟩; refine ⟨_, rfl, ?_⟩; have n0_ := Aside0.mk (below_step (by repeat (first | (with_reducible first | exact HB.out | apply below_alloc | apply pw_below_drewN | apply below_drew1) | exact HB.out)) hb); clear HB; have HB := n0_; clear n0_; (try clear hb); (try clear hb2); (try clear hk); (try clear hi)) | ((with_reducible refine gate_callee (f := 18) rfl ?_); refine goesL_ (some 31) rfl rfl Tryd.func18 (by kernel_rfl) rfl #[.string ((a0 ++ (⟨#[58]⟩ : ByteArray)) ++ a1)] rfl (by (try simp only [List.map_toArray, List.map_cons, List.map_nil]); first | done | rfl | (simp only [List.length_drop, List.length_take]; rfl)) ?_; (with_reducible refine (runes_Split.calls ((a0 ++ (⟨#[58]⟩ : ByteArray)) ++ a1) t169 t170 false _ (Env.below HE.out (by repeat (first | (with_reducible first | exact HB.out | apply below_alloc | apply pw_below_drewN | apply below_drew1) | exact HB.out))) A12.out).mono ?_); rintro e w50 ⟨rfl, hb⟩; refine ⟨_, rfl, ?_⟩; have n0_ := Aside0.mk (below_step (by repeat (first | (with_reducible first | exact HB.out | apply below_alloc | apply pw_below_drewN | apply below_drew1) | exact HB.out)) hb); clear HB; have HB := n0_; clear n0_; (try clear hb); (try clear hb2); (try clear hk); (try clear hi)) | ((with_reducible refine gate_callee (f := 18) rfl ?_); refine goesL_ (some 37) rfl rfl Tryd.func18 (by kernel_rfl) rfl #[.string a0] rfl (by (try simp only [List.map_toArray, List.map_cons, List.map_nil]); first | done | rfl | (simp only [List.length_drop, List.length_take]; rfl)) ?_; (with_reducible refine (runes_Split.calls a0 t172 t173 t174 _ (Env.below HE.out (by repeat (first | (with_reducible first | exact HB.out | apply below_alloc | apply pw_below_drewN | apply below_drew1) | exact HB.out))) A13.out).mono ?_); rintro e w51 ⟨rfl, hb⟩; refine ⟨_, rfl, ?_⟩; have n0_ := Aside0.mk (below_step (by repeat (first | (with_reducible first | exact HB.out | apply below_alloc | apply pw_below_drewN | apply below_drew1) | exact HB.out)) hb); clear HB; have HB := n0_; clear n0_; (try clear hb); (try clear hb2); (try clear hk); (try clear hi)) | (go_at_call 15; (with_reducible refine (brackenlaw1_told.calls  true _ (Env.below HE.out (by repeat (first | (with_reducible first | exact HB.out | apply below_alloc | apply pw_below_drewN | apply below_drew1) | exact HB.out))) hidTrue A14.out).mono ?_); rintro e w52 ⟨rfl, hb⟩; have n0_ := Aside0.mk (below_step (by repeat (first | (with_reducible first | exact HB.out | apply below_alloc | apply pw_below_drewN | apply below_drew1) | exact HB.out)) hb); clear HB; have HB := n0_; clear n0_; (try clear hb); (try clear hb2); (try clear hk); (try clear hi)))
                            go_ret
                            exact ⟨by first | rfl | (simp [errW_none, errW_some] <;> rfl) | (simp [*, errW_none, errW_some] <;> rfl), by repeat (first | (with_reducible first | exact HB.out | apply below_alloc | apply pw_below_drewN | apply below_drew1) | exact HB.out)⟩
                        · rw [if_neg c39] at H
                          have c39b0 : (t173.toList == a0.toList) = false := beq_eq_false_iff_ne.mpr c39
                          have c39b1 : (t173.toList != a0.toList) = true := bne_iff_ne.mpr c39
                          exact absurd ((Option.some.inj H).trans hTrue.out) (by decide)
                      · rw [if_neg c38] at H
                        have c38b0 : (t172.toList == ([] : List UInt8)) = false := beq_eq_false_iff_ne.mpr c38
                        have c38b1 : (t172.toList != ([] : List UInt8)) = true := bne_iff_ne.mpr c38
                        exact absurd ((Option.some.inj H).trans hTrue.out) (by decide)
                    · rw [if_neg c37] at H
                      have c37b0 : (t174 == true) = false := by simpa using c37
                      (try (have c37b1 : decide (t174 = true) = false := by simpa using c37))
                      (try (have c37b2 : (t174 == true) = false := by simpa using c37))
                      (try (have c37b3 : ¬ (t174 = true) := by simpa using c37))
                      clear c37
                      exact absurd ((Option.some.inj H).trans hTrue.out) (by decide)
                · rw [if_neg c17] at H
                  have c17b0 : (t171 == t168) = false := by simpa using c17
                  (try (have c17b1 : decide (t171 = t168) = false := by simpa using c17))
                  (try (have c17b2 : (t171 == t168) = false := by simpa using c17))
                  (try (have c17b3 : ¬ (t171 = t168) := by simpa using c17))
                  clear c17
                  exact absurd ((Option.some.inj H).trans hTrue.out) (by decide)
              · replace c16 := Bool.eq_false_iff.mpr c16
                subst c16
                have H1 : (if (t171 == false) = true then (if t171 = true then (if t169.toList = a0.toList then (if t170.toList = a1.toList then ((brackenlaw1_splits.f kj2 a0).bind fun t178 => (if (t174 == t178) = true then (some true) else (some false))) else (some false)) else (some false)) else ((brackenlaw1_splits.f kj2 a0).bind fun t179 => (if (t174 == t179) = true then (some true) else (some false)))) else (some false)) = some r := by rw [if_neg (show ¬ (false = true) by decide)] at H; exact H
                clear H
                have H := H1
                clear H1
                by_cases c53 : (t171 == false) = true
                · rw [if_pos c53] at H
                  have c53b0 : (t171 == false) = true := c53
                  (try (have c53b1 : decide (t171 = false) = true := by simpa using c53))
                  (try (have c53b2 : (t171 == false) = true := by simpa using c53))
                  clear c53
                  by_cases c54 : t171 = true
                  · subst c54
                    have H1 : (if t169.toList = a0.toList then (if t170.toList = a1.toList then ((brackenlaw1_splits.f kj2 a0).bind fun t178 => (if (t174 == t178) = true then (some true) else (some false))) else (some false)) else (some false)) = some r := by rw [if_pos rfl] at H; exact H
                    clear H
                    have H := H1
                    clear H1
                    by_cases c55 : t169.toList = a0.toList
                    · rw [if_pos c55] at H
                      have c55b0 : (t169.toList == a0.toList) = true := beq_iff_eq.mpr c55
                      have c55b1 : (t169.toList != a0.toList) = false := bne_eq_false_iff_eq.mpr c55
                      clear c55
                      by_cases c56 : t170.toList = a1.toList
                      · rw [if_pos c56] at H
                        have c56b0 : (t170.toList == a1.toList) = true := beq_iff_eq.mpr c56
                        have c56b1 : (t170.toList != a1.toList) = false := bne_eq_false_iff_eq.mpr c56
                        clear c56
                        replace H := Option.bind_eq_some_iff.mp H
                        obtain ⟨t178, A570, H⟩ := H
                        replace H : (if (t174 == t178) = true then (some true) else (some false)) = some r := H
                        have A57 := Aside0.mk A570
                        clear A570
                        by_cases c58 : (t174 == t178) = true
                        · rw [if_pos c58] at H
                          have c58b0 : (t174 == t178) = true := c58
                          (try (have c58b1 : decide (t174 = t178) = true := by simpa using c58))
                          (try (have c58b2 : (t174 == t178) = true := by simpa using c58))
                          clear c58
                          obtain rfl := Option.some.inj H
                          go_wp2_with (first | ((with_reducible refine gate_callee (f := 28) rfl ?_); refine goesL_ (some 23) rfl rfl Tryd.func28 (by kernel_rfl) rfl #[.string a0] rfl (by (try simp only [List.map_toArray, List.map_cons, List.map_nil]); first | done | rfl | (simp only [List.length_drop, List.length_take]; rfl)) ?_; (with_reducible refine (runes_NCName.calls a0 false _ (Env.below HE.out (by repeat (first | (with_reducible first | exact HB.out | apply below_alloc | apply pw_below_drewN | apply below_drew1) | exact HB.out))) A8.out).mono ?_); rintro e w59 ⟨rfl, hb⟩; refine ⟨_, rfl, ?_⟩; have n0_ := Aside0.mk (below_step (by repeat (first | (with_reducible first | exact HB.out | apply below_alloc | apply pw_below_drewN | apply below_drew1) | exact HB.out)) hb); clear HB; have HB := n0_; clear n0_; (try clear hb); (try clear hb2); (try clear hk); (try clear hi)) | ((with_reducible refine gate_callee (f := 28) rfl ?_); refine goesL_ (some 25) rfl rfl Tryd.func28 (by kernel_rfl) rfl #[.string a1] rfl (by (try simp only [List.map_toArray, List.map_cons, List.map_nil]); first | done | rfl | (simp only [List.length_drop, List.length_take]; rfl)) ?_; (with_reducible refine (runes_NCName.calls a1 t168 _ (Env.below HE.out (by repeat (first | (with_reducible first | exact HB.out | apply below_alloc | apply pw_below_drewN | apply below_drew1) | exact HB.out))) A9.out).mono ?_); rintro e w60 ⟨rfl, hb⟩; refine ⟨_, rfl, ?_⟩; have n0_ := Aside0.mk (below_step (by repeat (first | (with_reducible first | exact HB.out | apply below_alloc | apply pw_below_drewN | apply below_drew1) | exact HB.out)) hb); clear HB; have HB := n0_; clear n0_; (try clear hb); (try clear hb2); (try clear hk); (try clear hi)) | ((with_reducible refine gate_callee (f := 18) rfl ?_); refine goesL_ (some 31) rfl rfl Tryd.func18 (by kernel_rfl) rfl #[.string ((a0 ++ (⟨#[58]⟩ : ByteArray)) ++ a1)] rfl (by (try simp only [List.map_toArray, List.map_cons, List.map_nil]); first | done | rfl | (simp only [List.length_drop, List.length_take]; rfl)) ?_; (with_reducible refine (runes_Split.calls ((a0 ++ (⟨#[58]⟩ : ByteArray)) ++ a1) t169 t170 true _ (Env.below HE.out (by repeat (first | (with_reducible first | exact HB.out | apply below_alloc | apply pw_below_drewN | apply below_drew1) | exact HB.out))) A12.out).mono ?_); rintro e w61 ⟨rfl, hb⟩; refine ⟨_, rfl, ?_⟩; have n0_ := Aside0.mk (below_step (by repeat (first | (with_reducible first | exact HB.out | apply below_alloc | apply pw_below_drewN | apply below_drew1) | exact HB.out)) hb); clear HB; have HB := n0_; clear n0_; (try clear hb); (try clear hb2); (try clear hk); (try clear hi)) | ((with_reducible refine gate_callee (f := 18) rfl ?_); refine goesL_ (some 37) rfl rfl Tryd.func18 (by kernel_rfl) rfl #[.string a0] rfl (by (try simp only [List.map_toArray, List.map_cons, List.map_nil]); first | done | rfl | (simp only [List.length_drop, List.length_take]; rfl)) ?_; (with_reducible refine (runes_Split.calls a0 t172 t173 t174 _ (Env.below HE.out (by repeat (first | (with_reducible first | exact HB.out | apply below_alloc | apply pw_below_drewN | apply below_drew1) | exact HB.out))) A13.out).mono ?_); rintro e w62 ⟨rfl, hb⟩; refine ⟨_, rfl, ?_⟩; have n0_ := Aside0.mk (below_step (by repeat (first | (with_reducible first | exact HB.out | apply below_alloc | apply pw_below_drewN | apply below_drew1) | exact HB.out)) hb); clear HB; have HB := n0_; clear n0_; (try clear hb); (try clear hb2); (try clear hk); (try clear hi)) | (go_at_call 15; (with_reducible refine (brackenlaw1_told.calls  true _ (Env.below HE.out (by repeat (first | (with_reducible first | exact HB.out | apply below_alloc | apply pw_below_drewN | apply below_drew1) | exact HB.out))) hidTrue A14.out).mono ?_); rintro e w63 ⟨rfl, hb⟩; have n0_ := Aside0.mk (below_step (by repeat (first | (with_reducible first | exact HB.out | apply below_alloc | apply pw_below_drewN | apply below_drew1) | exact HB.out)) hb); clear HB; have HB := n0_; clear n0_; (try clear hb); (try clear hb2); (try clear hk); (try clear hi)) | (go_at_call 32; (with_reducible refine (brackenlaw1_splits.calls kj2 a0 t178 _ (Env.below HE.out (by repeat (first | (with_reducible first | exact HB.out | apply below_alloc | apply pw_below_drewN | apply below_drew1) | exact HB.out))) A57.out).mono ?_); rintro e w64 ⟨rfl, hb⟩; have n0_ := Aside0.mk (below_step (by repeat (first | (with_reducible first | exact HB.out | apply below_alloc | apply pw_below_drewN | apply below_drew1) | exact HB.out)) hb); clear HB; have HB := n0_; clear n0_; (try clear hb); (try clear hb2); (try clear hk); (try clear hi)))
                          go_ret
                          exact ⟨by first | rfl | (simp [errW_none, errW_some] <;> rfl) | (simp [*, errW_none, errW_some] <;> rfl), by repeat (first | (with_reducible first | exact HB.out | apply below_alloc | apply pw_below_drewN | apply below_drew1) | exact HB.out)⟩
                        · rw [if_neg c58] at H
                          have c58b0 : (t174 == t178) = false := by simpa using c58
                          (try (have c58b1 : decide (t174 = t178) = false := by simpa using c58))
                          (try (have c58b2 : (t174 == t178) = false := by simpa using c58))
                          (try (have c58b3 : ¬ (t174 = t178) := by simpa using c58))
                          clear c58
                          exact absurd ((Option.some.inj H).trans hTrue.out) (by decide)
                      · rw [if_neg c56] at H
                        have c56b0 : (t170.toList == a1.toList) = false := beq_eq_false_iff_ne.mpr c56
                        have c56b1 : (t170.toList != a1.toList) = true := bne_iff_ne.mpr c56
                        exact absurd ((Option.some.inj H).trans hTrue.out) (by decide)
                    · rw [if_neg c55] at H
                      have c55b0 : (t169.toList == a0.toList) = false := beq_eq_false_iff_ne.mpr c55
                      have c55b1 : (t169.toList != a0.toList) = true := bne_iff_ne.mpr c55
                      exact absurd ((Option.some.inj H).trans hTrue.out) (by decide)
                  · replace c54 := Bool.eq_false_iff.mpr c54
                    subst c54
                    have H1 : ((brackenlaw1_splits.f kj2 a0).bind fun t179 => (if (t174 == t179) = true then (some true) else (some false))) = some r := by rw [if_neg (show ¬ (false = true) by decide)] at H; exact H
                    clear H
                    have H := H1
                    clear H1
                    replace H := Option.bind_eq_some_iff.mp H
                    obtain ⟨t179, A650, H⟩ := H
                    replace H : (if (t174 == t179) = true then (some true) else (some false)) = some r := H
                    have A65 := Aside0.mk A650
                    clear A650
                    by_cases c66 : (t174 == t179) = true
                    · rw [if_pos c66] at H
                      have c66b0 : (t174 == t179) = true := c66
                      (try (have c66b1 : decide (t174 = t179) = true := by simpa using c66))
                      (try (have c66b2 : (t174 == t179) = true := by simpa using c66))
                      clear c66
                      obtain rfl := Option.some.inj H
                      go_wp2_with (first | ((with_reducible refine gate_callee (f := 28) rfl ?_); refine goesL_ (some 23) rfl rfl Tryd.func28 (by kernel_rfl) rfl #[.string a0] rfl (by (try simp only [List.map_toArray, List.map_cons, List.map_nil]); first | done | rfl | (simp only [List.length_drop, List.length_take]; rfl)) ?_; (with_reducible refine (runes_NCName.calls a0 false _ (Env.below HE.out (by repeat (first | (with_reducible first | exact HB.out | apply below_alloc | apply pw_below_drewN | apply below_drew1) | exact HB.out))) A8.out).mono ?_); rintro e w67 ⟨rfl, hb⟩; refine ⟨_, rfl, ?_⟩; have n0_ := Aside0.mk (below_step (by repeat (first | (with_reducible first | exact HB.out | apply below_alloc | apply pw_below_drewN | apply below_drew1) | exact HB.out)) hb); clear HB; have HB := n0_; clear n0_; (try clear hb); (try clear hb2); (try clear hk); (try clear hi)) | ((with_reducible refine gate_callee (f := 28) rfl ?_); refine goesL_ (some 25) rfl rfl Tryd.func28 (by kernel_rfl) rfl #[.string a1] rfl (by (try simp only [List.map_toArray, List.map_cons, List.map_nil]); first | done | rfl | (simp only [List.length_drop, List.length_take]; rfl)) ?_; (with_reducible refine (runes_NCName.calls a1 t168 _ (Env.below HE.out (by repeat (first | (with_reducible first | exact HB.out | apply below_alloc | apply pw_below_drewN | apply below_drew1) | exact HB.out))) A9.out).mono ?_); rintro e w68 ⟨rfl, hb⟩; refine ⟨_, rfl, ?_⟩; have n0_ := Aside0.mk (below_step (by repeat (first | (with_reducible first | exact HB.out | apply below_alloc | apply pw_below_drewN | apply below_drew1) | exact HB.out)) hb); clear HB; have HB := n0_; clear n0_; (try clear hb); (try clear hb2); (try clear hk); (try clear hi)) | ((with_reducible refine gate_callee (f := 18) rfl ?_); refine goesL_ (some 31) rfl rfl Tryd.func18 (by kernel_rfl) rfl #[.string ((a0 ++ (⟨#[58]⟩ : ByteArray)) ++ a1)] rfl (by (try simp only [List.map_toArray, List.map_cons, List.map_nil]); first | done | rfl | (simp only [List.length_drop, List.length_take]; rfl)) ?_; (with_reducible refine (runes_Split.calls ((a0 ++ (⟨#[58]⟩ : ByteArray)) ++ a1) t169 t170 false _ (Env.below HE.out (by repeat (first | (with_reducible first | exact HB.out | apply below_alloc | apply pw_below_drewN | apply below_drew1) | exact HB.out))) A12.out).mono ?_); rintro e w69 ⟨rfl, hb⟩; refine ⟨_, rfl, ?_⟩; have n0_ := Aside0.mk (below_step (by repeat (first | (with_reducible first | exact HB.out | apply below_alloc | apply pw_below_drewN | apply below_drew1) | exact HB.out)) hb); clear HB; have HB := n0_; clear n0_; (try clear hb); (try clear hb2); (try clear hk); (try clear hi)) | ((with_reducible refine gate_callee (f := 18) rfl ?_); refine goesL_ (some 37) rfl rfl Tryd.func18 (by kernel_rfl) rfl #[.string a0] rfl (by (try simp only [List.map_toArray, List.map_cons, List.map_nil]); first | done | rfl | (simp only [List.length_drop, List.length_take]; rfl)) ?_; (with_reducible refine (runes_Split.calls a0 t172 t173 t174 _ (Env.below HE.out (by repeat (first | (with_reducible first | exact HB.out | apply below_alloc | apply pw_below_drewN | apply below_drew1) | exact HB.out))) A13.out).mono ?_); rintro e w70 ⟨rfl, hb⟩; refine ⟨_, rfl, ?_⟩; have n0_ := Aside0.mk (below_step (by repeat (first | (with_reducible first | exact HB.out | apply below_alloc | apply pw_below_drewN | apply below_drew1) | exact HB.out)) hb); clear HB; have HB := n0_; clear n0_; (try clear hb); (try clear hb2); (try clear hk); (try clear hi)) | (go_at_call 15; (with_reducible refine (brackenlaw1_told.calls  true _ (Env.below HE.out (by repeat (first | (with_reducible first | exact HB.out | apply below_alloc | apply pw_below_drewN | apply below_drew1) | exact HB.out))) hidTrue A14.out).mono ?_); rintro e w71 ⟨rfl, hb⟩; have n0_ := Aside0.mk (below_step (by repeat (first | (with_reducible first | exact HB.out | apply below_alloc | apply pw_below_drewN | apply below_drew1) | exact HB.out)) hb); clear HB; have HB := n0_; clear n0_; (try clear hb); (try clear hb2); (try clear hk); (try clear hi)) | (go_at_call 32; (with_reducible refine (brackenlaw1_splits.calls kj2 a0 t179 _ (Env.below HE.out (by repeat (first | (with_reducible first | exact HB.out | apply below_alloc | apply pw_below_drewN | apply below_drew1) | exact HB.out))) A65.out).mono ?_); rintro e w72 ⟨rfl, hb⟩; have n0_ := Aside0.mk (below_step (by repeat (first | (with_reducible first | exact HB.out | apply below_alloc | apply pw_below_drewN | apply below_drew1) | exact HB.out)) hb); clear HB; have HB := n0_; clear n0_; (try clear hb); (try clear hb2); (try clear hk); (try clear hi)))
                      go_ret
                      exact ⟨by first | rfl | (simp [errW_none, errW_some] <;> rfl) | (simp [*, errW_none, errW_some] <;> rfl), by repeat (first | (with_reducible first | exact HB.out | apply below_alloc | apply pw_below_drewN | apply below_drew1) | exact HB.out)⟩
                    · rw [if_neg c66] at H
                      have c66b0 : (t174 == t179) = false := by simpa using c66
                      (try (have c66b1 : decide (t174 = t179) = false := by simpa using c66))
                      (try (have c66b2 : (t174 == t179) = false := by simpa using c66))
                      (try (have c66b3 : ¬ (t174 = t179) := by simpa using c66))
                      clear c66
                      exact absurd ((Option.some.inj H).trans hTrue.out) (by decide)
                · rw [if_neg c53] at H
                  have c53b0 : (t171 == false) = false := by simpa using c53
                  (try (have c53b1 : decide (t171 = false) = false := by simpa using c53))
                  (try (have c53b2 : (t171 == false) = false := by simpa using c53))
                  (try (have c53b3 : ¬ (t171 = false) := by simpa using c53))
                  clear c53
                  exact absurd ((Option.some.inj H).trans hTrue.out) (by decide)
            · replace c15 := Bool.eq_false_iff.mpr c15
              subst c15
              have H1 : (some false) = some r := by rw [if_neg (show ¬ (false = true) by decide)] at H; exact H
              clear H
              have H := H1
              clear H1
              exact absurd ((Option.some.inj H).trans hTrue.out) (by decide)
          · rw [if_neg c11] at H
            exact absurd H (by simp)
        · rw [if_neg c10] at H
          exact absurd H (by simp)

/-- THE ONE PURE STATEMENT of brackenlaw1_RunesSplits: yours. -/
def brackenlaw1_RunesSplits.Pure : Prop := ∀ (a0 : ByteArray) (a1 : ByteArray), a0.size ≤ 140737488351232 → a1.size ≤ 140737488351232 → ∃ k, brackenlaw1_RunesSplits.f k a0 a1 = some true
theorem brackenlaw1_RunesSplits.walk (P : brackenlaw1_RunesSplits.Pure) (a0 : ByteArray) (a1 : ByteArray) (w : World) (hE : Env w) (w0 : a0.size ≤ 140737488351232) (w1 : a1.size ≤ 140737488351232) :
    Calls Tryd.prog 6 #[.string a0, .string a1] w fun e w' => e = .returned (.bool true) ∧ Below w.heap.size w w' := by
  obtain ⟨k, h⟩ := P a0 a1 w0 w1
  refine (brackenlaw1_RunesSplits.calls k a0 a1 true w hE hidTrue h).mono ?_
  rintro e w' ⟨rfl, hd⟩
  exact ⟨rfl, hd⟩

end Go.Proofs.YtiddhaakbcnbiaaDoor.R2
