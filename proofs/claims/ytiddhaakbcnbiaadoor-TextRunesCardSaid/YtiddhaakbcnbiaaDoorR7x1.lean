-- written by wip/gen.py (this session's own driver of the kit's printer); Lean checks it
import Derived.Test.YtiddhaakbcnbiaaDoorR7x0
namespace Go.Proofs.YtiddhaakbcnbiaaDoor.R7
open Go.Proofs.YtiddhaakbcnbiaaDoor.Giv Go.Proofs.YtiddhaakbcnbiaaDoor.TGiv Go.Proofs.YtiddhaakbcnbiaaDoor.Ref
open Go.RowKit Go.Proofs.YtiddhaakbcnbiaaDoorW.PrintWords Go.Proofs.YtiddhaakbcnbiaaDoorW.PrintLast Go.Proofs.YtiddhaakbcnbiaaDoorW.PrintMore
attribute [local go_sem] max2_int min2_int max_two min_two max_three min_three max_four min_four   -- for this text's walks alone
set_option linter.unusedVariables false
set_option linter.unusedSimpArgs false

/-! ### brackenlaw2_TextRunes: function 11 -/
def brackenlaw2_TextRunes.l0 : Nat → List Int → ByteArray → Bool → Int → Option (Bool)
  | 0, _, _, _, _ => none
  | k + 1, x0, x3, x4, x5 => if x5 < (x0.length : Int) then (if 0 ≤ x5 then (if x3.size + (Utf8.encode (rd x0 x5)).size ≤ 9223372036854775807 then (if x4 = true then ((brackenref1_Char.f (rd x0 x5)).bind fun t103 => (if t103 = true then (brackenlaw2_TextRunes.l0 k x0 (x3 ++ (Utf8.encode (rd x0 x5))) true (wrap64 (x5 + 1))) else (if (rd x0 x5) < 0 then (brackenlaw2_TextRunes.l0 k x0 (x3 ++ (Utf8.encode (rd x0 x5))) true (wrap64 (x5 + 1))) else (if (rd x0 x5) > 1114111 then (brackenlaw2_TextRunes.l0 k x0 (x3 ++ (Utf8.encode (rd x0 x5))) true (wrap64 (x5 + 1))) else (if (rd x0 x5) ≥ 55296 then (brackenlaw2_TextRunes.l0 k x0 (x3 ++ (Utf8.encode (rd x0 x5))) (decide ((rd x0 x5) ≤ 57343)) (wrap64 (x5 + 1))) else (brackenlaw2_TextRunes.l0 k x0 (x3 ++ (Utf8.encode (rd x0 x5))) false (wrap64 (x5 + 1)))))))) else (brackenlaw2_TextRunes.l0 k x0 (x3 ++ (Utf8.encode (rd x0 x5))) false (wrap64 (x5 + 1)))) else (none)) else (none)) else ((brackenlaw2_told.f).bind fun t104 => (if t104 = true then ((text_Valid.f (bytesOf x3)).bind fun t108 => (some (t108 == x4))) else (some false)))
def brackenlaw2_TextRunes.f (k : Nat) (l0 : List Int) : Option (Bool) := if (l0.length : Int) > 40 then ((brackenlaw2_told.f).bind fun t101 => (some t101)) else (brackenlaw2_TextRunes.l0 k l0 (⟨#[]⟩ : ByteArray) true 0)
theorem brackenlaw2_TextRunes.mono_l : ∀ k, (∀ y0 y1 y2 y3, LeO (brackenlaw2_TextRunes.l0 k y0 y1 y2 y3) (brackenlaw2_TextRunes.l0 (k + 1) y0 y1 y2 y3))
  | 0 => fun _ _ _ _ r h => by simp [brackenlaw2_TextRunes.l0] at h
  | k + 1 => by
    have ih0 := brackenlaw2_TextRunes.mono_l k
    · intro y0 y1 y2 y3
      unfold brackenlaw2_TextRunes.l0
      repeat' first
      | (with_reducible exact ih0 _ _ _ _)
      | (with_reducible exact LeO.refl _)
      | (with_reducible exact LeO.none _)
      | (with_reducible refine LeO.ite ?_ ?_)
      | (with_reducible refine LeO.bind ?_ (fun _ => ?_))
      | exact ih0 _ _ _ _
      | exact LeO.none _
      | refine LeO.ite ?_ ?_
      | refine LeO.bind ?_ (fun _ => ?_)
theorem brackenlaw2_TextRunes.mono : ∀ a0 k, LeO (brackenlaw2_TextRunes.f k a0) (brackenlaw2_TextRunes.f (k + 1) a0) := by
  intro a0 k
  have ih0 := brackenlaw2_TextRunes.mono_l k
  unfold brackenlaw2_TextRunes.f
  repeat' first
      | (with_reducible exact ih0 _ _ _ _)
      | (with_reducible exact LeO.refl _)
      | (with_reducible exact LeO.none _)
      | (with_reducible refine LeO.ite ?_ ?_)
      | (with_reducible refine LeO.bind ?_ (fun _ => ?_))
      | exact ih0 _ _ _ _
      | exact LeO.none _
      | refine LeO.ite ?_ ?_
      | refine LeO.bind ?_ (fun _ => ?_)
set_option maxHeartbeats 8000000 in
set_option maxRecDepth 100000 in
theorem brackenlaw2_TextRunes.calls (k : Nat) (A0 : Option Addr) (c0 : Nat) (l0 : List Int) (r : Bool) (w : World) (hE : Env w) (hTrue : Hid (r = true)) (hr0 : Kd.C (Kd.int .i32) w A0 l0.length l0) (hc0 : l0.length ≤ c0) (h : brackenlaw2_TextRunes.f k l0 = some r) :
    Calls Tryd.prog 11 #[.slice A0 l0.length c0] w fun e w' => e = .returned (.bool r) ∧ Below w.heap.size w w' := by
  have HR0 := Aside0.mk hr0
  have HC0 := Aside0.mk hc0
  clear hr0 hc0
  have HE := Aside0.mk hE
  clear hE
  have HB := Aside0.mk (Below.refl w.heap.size w)
  have H : (if (l0.length : Int) > 40 then ((brackenlaw2_told.f).bind fun t101 => (some t101)) else (brackenlaw2_TextRunes.l0 k l0 (⟨#[]⟩ : ByteArray) true 0)) = some r := h
  clear h
  by_cases c2 : (l0.length : Int) > 40
  · rw [if_pos c2] at H
    have c2b0 : decide (40 < (l0.length : Int)) = true := decide_eq_true c2
    have c2b1 : decide (40 < l0.length) = true := decide_eq_true (by omega)
    clear c2
    replace H := Option.bind_eq_some_iff.mp H
    obtain ⟨t101, A30, H⟩ := H
    replace H : (some t101) = some r := H
    have A3 := Aside0.mk A30
    clear A30
    obtain rfl := Option.some.inj H
    go_enter Tryd.func11, Tryd.ntmps11
    go_wp2_with (first | (go_at_call 33; (with_reducible refine (brackenlaw2_told.calls  t101 _ (Env.below HE.out (by repeat (first | (with_reducible first | exact HB.out | apply below_alloc | apply pw_below_drewN | apply below_drew1) | exact HB.out))) A3.out).mono ?_); rintro e w4 ⟨rfl, hb⟩; have n0_ := Aside0.mk (below_step (by repeat (first | (with_reducible first | exact HB.out | apply below_alloc | apply pw_below_drewN | apply below_drew1) | exact HB.out)) hb); clear HB; have HB := n0_; clear n0_; (try clear hb); (try clear hb2); (try clear hk); (try clear hi)))
    go_ret
    exact ⟨by first | rfl | (simp [errW_none, errW_some] <;> rfl) | (simp [*, errW_none, errW_some] <;> rfl), by repeat (first | (with_reducible first | exact HB.out | apply below_alloc | apply pw_below_drewN | apply below_drew1) | exact HB.out)⟩
  · rw [if_neg c2] at H
    have c2b0 : decide (40 < (l0.length : Int)) = false := decide_eq_false c2
    have c2b1 : decide (40 < l0.length) = false := decide_eq_false (by omega)
    clear c2
    have H' := Aside0.mk H
    clear H
    go_enter Tryd.func11, Tryd.ntmps11
    go_wp2
    go_loopg [3, 4, 5] k (fun kq v3 v4 v5 w' => ∃ (x3_1 : ByteArray) (x4_1 : Bool) (x5_1 : Int), v3 = .string x3_1 ∧ v4 = .bool x4_1 ∧ v5 = .int .i64 x5_1 ∧ Aside0 (brackenlaw2_TextRunes.l0 kq l0 x3_1 x4_1 x5_1 = some r) ∧ Aside0 (kq ≤ k) ∧ Aside0 (Below w.heap.size w w'))
    case atStart => exact ⟨((⟨#[]⟩ : ByteArray)), (true), (0), (by first | rfl | (simp; done) | (simp [*]; done)), (by first | rfl | (simp; done) | (simp [*]; done)), (by first | rfl | (simp; done) | (simp [*]; done)), H', ⟨Nat.le_refl _⟩, ⟨by repeat (first | (with_reducible first | exact HB.out | apply below_alloc | apply pw_below_drewN | apply below_drew1) | exact HB.out)⟩⟩
    case round =>
      clear H'
      try clear c1
      try clear c2
      try clear c2b0
      try clear c2b1
      try clear p2
      obtain ⟨x3_1, x4_1, x5_1, rfl, rfl, rfl, HA, HK1, HB⟩ := hrel
      cases gk with
      | zero => exact absurd HA.out (by simp [brackenlaw2_TextRunes.l0])
      | succ k1 =>
        have H := HA.out
        clear HA
        simp only [brackenlaw2_TextRunes.l0] at H
        by_cases c5 : x5_1 < (l0.length : Int)
        · rw [if_pos c5] at H
          have c5b0 : decide (x5_1 < (l0.length : Int)) = true := decide_eq_true c5
          clear c5
          by_cases c6 : 0 ≤ x5_1
          · rw [if_pos c6] at H
            have c6b0 : decide (0 ≤ x5_1) = true := decide_eq_true c6
            clear c6
            by_cases c7 : x3_1.size + (Utf8.encode (rd l0 x5_1)).size ≤ 9223372036854775807
            · rw [if_pos c7] at H
              have c7b0 := eq_true c7
              have c7b1 : decide (x3_1.size + (Utf8.encode (rd l0 x5_1)).size ≤ 9223372036854775807) = true := decide_eq_true c7
              try have c7b2 : (9223372036854775807 < x3_1.size + (Utf8.encode (rd l0 x5_1)).size) = False := eq_false (Nat.not_lt.2 c7)
              by_cases c8 : x4_1 = true
              · subst c8
                have H1 : ((brackenref1_Char.f (rd l0 x5_1)).bind fun t103 => (if t103 = true then (brackenlaw2_TextRunes.l0 k1 l0 (x3_1 ++ (Utf8.encode (rd l0 x5_1))) true (wrap64 (x5_1 + 1))) else (if (rd l0 x5_1) < 0 then (brackenlaw2_TextRunes.l0 k1 l0 (x3_1 ++ (Utf8.encode (rd l0 x5_1))) true (wrap64 (x5_1 + 1))) else (if (rd l0 x5_1) > 1114111 then (brackenlaw2_TextRunes.l0 k1 l0 (x3_1 ++ (Utf8.encode (rd l0 x5_1))) true (wrap64 (x5_1 + 1))) else (if (rd l0 x5_1) ≥ 55296 then (brackenlaw2_TextRunes.l0 k1 l0 (x3_1 ++ (Utf8.encode (rd l0 x5_1))) (decide ((rd l0 x5_1) ≤ 57343)) (wrap64 (x5_1 + 1))) else (brackenlaw2_TextRunes.l0 k1 l0 (x3_1 ++ (Utf8.encode (rd l0 x5_1))) false (wrap64 (x5_1 + 1)))))))) = some r := by rw [if_pos rfl] at H; exact H
                clear H
                have H := H1
                clear H1
                replace H := Option.bind_eq_some_iff.mp H
                obtain ⟨t103, A90, H⟩ := H
                replace H : (if t103 = true then (brackenlaw2_TextRunes.l0 k1 l0 (x3_1 ++ (Utf8.encode (rd l0 x5_1))) true (wrap64 (x5_1 + 1))) else (if (rd l0 x5_1) < 0 then (brackenlaw2_TextRunes.l0 k1 l0 (x3_1 ++ (Utf8.encode (rd l0 x5_1))) true (wrap64 (x5_1 + 1))) else (if (rd l0 x5_1) > 1114111 then (brackenlaw2_TextRunes.l0 k1 l0 (x3_1 ++ (Utf8.encode (rd l0 x5_1))) true (wrap64 (x5_1 + 1))) else (if (rd l0 x5_1) ≥ 55296 then (brackenlaw2_TextRunes.l0 k1 l0 (x3_1 ++ (Utf8.encode (rd l0 x5_1))) (decide ((rd l0 x5_1) ≤ 57343)) (wrap64 (x5_1 + 1))) else (brackenlaw2_TextRunes.l0 k1 l0 (x3_1 ++ (Utf8.encode (rd l0 x5_1))) false (wrap64 (x5_1 + 1))))))) = some r := H
                have A9 := Aside0.mk A90
                clear A90
                by_cases c10 : t103 = true
                · subst c10
                  have H1 : (brackenlaw2_TextRunes.l0 k1 l0 (x3_1 ++ (Utf8.encode (rd l0 x5_1))) true (wrap64 (x5_1 + 1))) = some r := by rw [if_pos rfl] at H; exact H
                  clear H
                  have H := H1
                  clear H1
                  have H' := Aside0.mk H
                  clear H
                  have p102 : 0 ≤ (x5_1 : Int) := of_decide_eq_true (by first | (with_reducible assumption) | assumption)
                  have q102 : x5_1 < (l0.length : Int) := of_decide_eq_true (by first | (with_reducible assumption) | assumption)
                  obtain ⟨ad102, e102, hx102_0⟩ := Kd.at_int HR0.out x5_1 p102 q102
                  cases e102
                  replace hx102_0 := (HB.out.cell (World.block_lt_of_cell? w _ hx102_0)).trans hx102_0
                  replace p102 := eq_true p102
                  replace q102 := eq_true q102
                  go_wp2_with (first | (go_at_call 21; (with_reducible refine (brackenref1_Char.calls (rd l0 x5_1) true _ A9.out).mono ?_); rintro e w' ⟨rfl, ⟨nd, rfl⟩⟩))
                  go_roundg k1
                  case measure => have := HK1.out; omega
                  case rel => exact ⟨(x3_1 ++ (Utf8.encode (rd l0 x5_1))), (true), (wrap64 (x5_1 + 1)), (by first | rfl | (simp; done) | (simp [*]; done)), (by first | rfl | (simp; done) | (simp [*]; done)), (by first | rfl | (simp; done) | (simp [*]; done)), H', ⟨by have := HK1.out; omega⟩, ⟨by repeat (first | (with_reducible first | exact HB.out | apply below_alloc | apply pw_below_drewN | apply below_drew1) | exact HB.out)⟩⟩
                · replace c10 := Bool.eq_false_iff.mpr c10
                  subst c10
                  have H1 : (if (rd l0 x5_1) < 0 then (brackenlaw2_TextRunes.l0 k1 l0 (x3_1 ++ (Utf8.encode (rd l0 x5_1))) true (wrap64 (x5_1 + 1))) else (if (rd l0 x5_1) > 1114111 then (brackenlaw2_TextRunes.l0 k1 l0 (x3_1 ++ (Utf8.encode (rd l0 x5_1))) true (wrap64 (x5_1 + 1))) else (if (rd l0 x5_1) ≥ 55296 then (brackenlaw2_TextRunes.l0 k1 l0 (x3_1 ++ (Utf8.encode (rd l0 x5_1))) (decide ((rd l0 x5_1) ≤ 57343)) (wrap64 (x5_1 + 1))) else (brackenlaw2_TextRunes.l0 k1 l0 (x3_1 ++ (Utf8.encode (rd l0 x5_1))) false (wrap64 (x5_1 + 1)))))) = some r := by rw [if_neg (show ¬ (false = true) by decide)] at H; exact H
                  clear H
                  have H := H1
                  clear H1
                  by_cases c11 : (rd l0 x5_1) < 0
                  · rw [if_pos c11] at H
                    have c11b0 : decide ((rd l0 x5_1) < 0) = true := decide_eq_true c11
                    clear c11
                    have H' := Aside0.mk H
                    clear H
                    have p102 : 0 ≤ (x5_1 : Int) := of_decide_eq_true (by first | (with_reducible assumption) | assumption)
                    have q102 : x5_1 < (l0.length : Int) := of_decide_eq_true (by first | (with_reducible assumption) | assumption)
                    obtain ⟨ad102, e102, hx102_0⟩ := Kd.at_int HR0.out x5_1 p102 q102
                    cases e102
                    replace hx102_0 := (HB.out.cell (World.block_lt_of_cell? w _ hx102_0)).trans hx102_0
                    replace p102 := eq_true p102
                    replace q102 := eq_true q102
                    go_wp2_with (first | (go_at_call 21; (with_reducible refine (brackenref1_Char.calls (rd l0 x5_1) false _ A9.out).mono ?_); rintro e w' ⟨rfl, ⟨nd, rfl⟩⟩))
                    go_roundg k1
                    case measure => have := HK1.out; omega
                    case rel => exact ⟨(x3_1 ++ (Utf8.encode (rd l0 x5_1))), (true), (wrap64 (x5_1 + 1)), (by first | rfl | (simp; done) | (simp [*]; done)), (by first | rfl | (simp; done) | (simp [*]; done)), (by first | rfl | (simp; done) | (simp [*]; done)), H', ⟨by have := HK1.out; omega⟩, ⟨by repeat (first | (with_reducible first | exact HB.out | apply below_alloc | apply pw_below_drewN | apply below_drew1) | exact HB.out)⟩⟩
                  · rw [if_neg c11] at H
                    have c11b0 : decide ((rd l0 x5_1) < 0) = false := decide_eq_false c11
                    clear c11
                    by_cases c12 : (rd l0 x5_1) > 1114111
                    · rw [if_pos c12] at H
                      have c12b0 : decide (1114111 < (rd l0 x5_1)) = true := decide_eq_true c12
                      clear c12
                      have H' := Aside0.mk H
                      clear H
                      have p102 : 0 ≤ (x5_1 : Int) := of_decide_eq_true (by first | (with_reducible assumption) | assumption)
                      have q102 : x5_1 < (l0.length : Int) := of_decide_eq_true (by first | (with_reducible assumption) | assumption)
                      obtain ⟨ad102, e102, hx102_0⟩ := Kd.at_int HR0.out x5_1 p102 q102
                      cases e102
                      replace hx102_0 := (HB.out.cell (World.block_lt_of_cell? w _ hx102_0)).trans hx102_0
                      replace p102 := eq_true p102
                      replace q102 := eq_true q102
                      go_wp2_with (first | (go_at_call 21; (with_reducible refine (brackenref1_Char.calls (rd l0 x5_1) false _ A9.out).mono ?_); rintro e w' ⟨rfl, ⟨nd, rfl⟩⟩))
                      go_roundg k1
                      case measure => have := HK1.out; omega
                      case rel => exact ⟨(x3_1 ++ (Utf8.encode (rd l0 x5_1))), (true), (wrap64 (x5_1 + 1)), (by first | rfl | (simp; done) | (simp [*]; done)), (by first | rfl | (simp; done) | (simp [*]; done)), (by first | rfl | (simp; done) | (simp [*]; done)), H', ⟨by have := HK1.out; omega⟩, ⟨by repeat (first | (with_reducible first | exact HB.out | apply below_alloc | apply pw_below_drewN | apply below_drew1) | exact HB.out)⟩⟩
                    · rw [if_neg c12] at H
                      have c12b0 : decide (1114111 < (rd l0 x5_1)) = false := decide_eq_false c12
                      clear c12
                      by_cases c13 : (rd l0 x5_1) ≥ 55296
                      · rw [if_pos c13] at H
                        have c13b0 : decide (55296 ≤ (rd l0 x5_1)) = true := decide_eq_true c13
                        clear c13
                        have H' := Aside0.mk H
                        clear H
                        have p102 : 0 ≤ (x5_1 : Int) := of_decide_eq_true (by first | (with_reducible assumption) | assumption)
                        have q102 : x5_1 < (l0.length : Int) := of_decide_eq_true (by first | (with_reducible assumption) | assumption)
                        obtain ⟨ad102, e102, hx102_0⟩ := Kd.at_int HR0.out x5_1 p102 q102
                        cases e102
                        replace hx102_0 := (HB.out.cell (World.block_lt_of_cell? w _ hx102_0)).trans hx102_0
                        replace p102 := eq_true p102
                        replace q102 := eq_true q102
                        go_wp2_with (first | (go_at_call 21; (with_reducible refine (brackenref1_Char.calls (rd l0 x5_1) false _ A9.out).mono ?_); rintro e w' ⟨rfl, ⟨nd, rfl⟩⟩))
                        go_roundg k1
                        case measure => have := HK1.out; omega
                        case rel => exact ⟨(x3_1 ++ (Utf8.encode (rd l0 x5_1))), (decide ((rd l0 x5_1) ≤ 57343)), (wrap64 (x5_1 + 1)), (by first | rfl | (simp; done) | (simp [*]; done)), (by first | rfl | (simp; done) | (simp [*]; done)), (by first | rfl | (simp; done) | (simp [*]; done)), H', ⟨by have := HK1.out; omega⟩, ⟨by repeat (first | (with_reducible first | exact HB.out | apply below_alloc | apply pw_below_drewN | apply below_drew1) | exact HB.out)⟩⟩
                      · rw [if_neg c13] at H
                        have c13b0 : decide (55296 ≤ (rd l0 x5_1)) = false := decide_eq_false c13
                        clear c13
                        have H' := Aside0.mk H
                        clear H
                        have p102 : 0 ≤ (x5_1 : Int) := of_decide_eq_true (by first | (with_reducible assumption) | assumption)
                        have q102 : x5_1 < (l0.length : Int) := of_decide_eq_true (by first | (with_reducible assumption) | assumption)
                        obtain ⟨ad102, e102, hx102_0⟩ := Kd.at_int HR0.out x5_1 p102 q102
                        cases e102
                        replace hx102_0 := (HB.out.cell (World.block_lt_of_cell? w _ hx102_0)).trans hx102_0
                        replace p102 := eq_true p102
                        replace q102 := eq_true q102
                        go_wp2_with (first | (go_at_call 21; (with_reducible refine (brackenref1_Char.calls (rd l0 x5_1) false _ A9.out).mono ?_); rintro e w' ⟨rfl, ⟨nd, rfl⟩⟩))
                        go_roundg k1
                        case measure => have := HK1.out; omega
                        case rel => exact ⟨(x3_1 ++ (Utf8.encode (rd l0 x5_1))), (false), (wrap64 (x5_1 + 1)), (by first | rfl | (simp; done) | (simp [*]; done)), (by first | rfl | (simp; done) | (simp [*]; done)), (by first | rfl | (simp; done) | (simp [*]; done)), H', ⟨by have := HK1.out; omega⟩, ⟨by repeat (first | (with_reducible first | exact HB.out | apply below_alloc | apply pw_below_drewN | apply below_drew1) | exact HB.out)⟩⟩
              · replace c8 := Bool.eq_false_iff.mpr c8
                subst c8
                have H1 : (brackenlaw2_TextRunes.l0 k1 l0 (x3_1 ++ (Utf8.encode (rd l0 x5_1))) false (wrap64 (x5_1 + 1))) = some r := by rw [if_neg (show ¬ (false = true) by decide)] at H; exact H
                clear H
                have H := H1
                clear H1
                have H' := Aside0.mk H
                clear H
                have p102 : 0 ≤ (x5_1 : Int) := of_decide_eq_true (by first | (with_reducible assumption) | assumption)
                have q102 : x5_1 < (l0.length : Int) := of_decide_eq_true (by first | (with_reducible assumption) | assumption)
                obtain ⟨ad102, e102, hx102_0⟩ := Kd.at_int HR0.out x5_1 p102 q102
                cases e102
                replace hx102_0 := (HB.out.cell (World.block_lt_of_cell? w _ hx102_0)).trans hx102_0
                replace p102 := eq_true p102
                replace q102 := eq_true q102
                go_wp2
                go_roundg k1
                case measure => have := HK1.out; omega
                case rel => exact ⟨(x3_1 ++ (Utf8.encode (rd l0 x5_1))), (false), (wrap64 (x5_1 + 1)), (by first | rfl | (simp; done) | (simp [*]; done)), (by first | rfl | (simp; done) | (simp [*]; done)), (by first | rfl | (simp; done) | (simp [*]; done)), H', ⟨by have := HK1.out; omega⟩, ⟨by repeat (first | (with_reducible first | exact HB.out | apply below_alloc | apply pw_below_drewN | apply below_drew1) | exact HB.out)⟩⟩
            · rw [if_neg c7] at H
              exact absurd H (by simp)
          · rw [if_neg c6] at H
            exact absurd H (by simp)
        · rw [if_neg c5] at H
          have c5b0 : decide (x5_1 < (l0.length : Int)) = false := decide_eq_false c5
          clear c5
          replace H := Option.bind_eq_some_iff.mp H
          obtain ⟨t104, A140, H⟩ := H
          replace H : (if t104 = true then ((text_Valid.f (bytesOf x3_1)).bind fun t108 => (some (t108 == x4_1))) else (some false)) = some r := H
          have A14 := Aside0.mk A140
          clear A140
          by_cases c15 : t104 = true
          · subst c15
            have H1 : ((text_Valid.f (bytesOf x3_1)).bind fun t108 => (some (t108 == x4_1))) = some r := by rw [if_pos rfl] at H; exact H
            clear H
            have H := H1
            clear H1
            obtain ⟨y105, hy105⟩ : ∃ y_ : List Int, y_ = (bytesOf x3_1) := ⟨_, rfl⟩
            replace H : ((text_Valid.f y105).bind fun t108 => (some (t108 == x4_1))) = some r := by first | (rw [hy105]; with_reducible exact H) | (have H2_ := (Option.bind_some _ _).symm.trans H; rw [hy105]; with_reducible exact H2_) | (have H2_ := (Option.bind_some _ _).symm.trans H; with_reducible exact H2_) | with_reducible exact H | (rw [hy105]; exact H) | exact H
            have Ny105 := Aside0.mk hy105
            clear hy105
            replace H := Option.bind_eq_some_iff.mp H
            obtain ⟨t108, A160, H⟩ := H
            replace H : (some (t108 == x4_1)) = some r := H
            have A16 := Aside0.mk A160
            clear A160
            obtain rfl := Option.some.inj H
            have HSZ_ : Aside0 (x3_1.size < 1000000000000000) := Aside0.mk (by have h_ := A16.out; rw [Ny105.out] at h_; exact valid_len h_)
            go_wp2_with (first | (go_at_call 33; (with_reducible refine (brackenlaw2_told.calls  true _ (Env.below HE.out (by repeat (first | (with_reducible first | exact HB.out | apply below_alloc | apply pw_below_drewN | apply below_drew1) | exact HB.out))) A14.out).mono ?_); rintro e w17 ⟨rfl, hb⟩; have n0_ := Aside0.mk (below_step (by repeat (first | (with_reducible first | exact HB.out | apply below_alloc | apply pw_below_drewN | apply below_drew1) | exact HB.out)) hb); clear HB; have HB := n0_; clear n0_; (try clear hb); (try clear hb2); (try clear hk); (try clear hi)) | ((with_reducible refine gate_dst (N := 49) rfl ?_); (try (refine gate_guard (by rfl) ?_; dsimp only)); refine conv_arm rfl _ rfl x3_1 (by first | omega | (have := HSZ_.out; omega)) rfl y105 Ny105.out ?_; intro A9 c9 w9 hr9 hc9 hb9; have n0_ := Aside0.mk (below_step HB.out hb9); clear HB; have HB := n0_; clear n0_ hb9; have HO9 := Aside0.mk hr9; have HC9 := Aside0.mk hc9; clear hr9 hc9) | (go_at_call 34; (with_reducible refine (text_Valid.calls _ _ y105 t108 _ (Env.below HE.out (by repeat (first | (with_reducible first | exact HB.out | apply below_alloc | apply pw_below_drewN | apply below_drew1) | exact HB.out))) ?side1 ?side2 A16.out).mono ?_); (case side1 => exact reads_C HO9.out); (case side2 => exact HC9.out); rintro e w21 ⟨rfl, hb⟩; have n0_ := Aside0.mk (below_step (by repeat (first | (with_reducible first | exact HB.out | apply below_alloc | apply pw_below_drewN | apply below_drew1) | exact HB.out)) hb); clear HB; have HB := n0_; clear n0_; (try clear hb)))
            go_ret
            exact ⟨by first | rfl | (simp [errW_none, errW_some] <;> rfl) | (simp [*, errW_none, errW_some] <;> rfl), by repeat (first | (with_reducible first | exact HB.out | apply below_alloc | apply pw_below_drewN | apply below_drew1) | exact HB.out)⟩
          · replace c15 := Bool.eq_false_iff.mpr c15
            subst c15
            have H1 : (some false) = some r := by rw [if_neg (show ¬ (false = true) by decide)] at H; exact H
            clear H
            have H := H1
            clear H1
            exact absurd ((Option.some.inj H).trans hTrue.out) (by decide)

/-- THE ONE PURE STATEMENT of brackenlaw2_TextRunes: yours. -/
def brackenlaw2_TextRunes.Pure : Prop := ∀ (l0 : List Int), l0.length ≤ maxLen → l0.length * 4 ≤ 140737488351232 → (∀ x ∈ l0, (Lit.int .i32 x).wf = true) → ∃ k, brackenlaw2_TextRunes.f k l0 = some true
theorem brackenlaw2_TextRunes.walk (P : brackenlaw2_TextRunes.Pure) (a0 : Option Addr) (len0 cap0 : Nat) (z0 : List Int) (w : World) (hE : Env w) (w0 : (a0 = none ∧ len0 = 0 ∧ cap0 = 0 ∧ z0 = []) ∨ ∃ x, a0 = some x ∧ len0 ≤ cap0 ∧ cap0 ≤ maxLen ∧ z0.length = cap0 ∧ (∀ i, i < z0.length → w.cell? (x.add i) = some (.int .i32 (z0.getD i 0))) ∧ ∀ n ∈ z0, (Lit.int .i32 n).wf = true) (y0 : len0 * 4 ≤ 140737488351232) :
    Calls Tryd.prog 11 #[.slice a0 len0 cap0] w fun e w' => e = .returned (.bool true) ∧ Below w.heap.size w w' := by
  obtain ⟨l0, rfl, hr0, hm0, hw0, hc0⟩ := ReadsInt.ofRowC w0
  obtain ⟨k, h⟩ := P l0 hm0 y0 hw0
  refine (brackenlaw2_TextRunes.calls k _ _ l0 true w hE hidTrue (Kd.C_of_reads (d := (0 : Int)) (h1 := fun _ => rfl) hr0) hc0 h).mono ?_
  rintro e w' ⟨rfl, hd⟩
  exact ⟨rfl, hd⟩

-- NOT PRINTED: function 9 (brackenlaw2_TextBad)

end Go.Proofs.YtiddhaakbcnbiaaDoor.R7
