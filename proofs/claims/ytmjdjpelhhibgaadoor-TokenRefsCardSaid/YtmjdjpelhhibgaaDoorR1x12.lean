-- written by wip/gen.py (this session's own driver of the kit's printer); Lean checks it
import Derived.Test.YtmjdjpelhhibgaaDoorR1x0
import Derived.Test.YtmjdjpelhhibgaaDoorR1x8
import Derived.Test.YtmjdjpelhhibgaaDoorR1x10
namespace Go.Proofs.YtmjdjpelhhibgaaDoor.R1
open Go.Proofs.YtmjdjpelhhibgaaDoor.Giv
open Go.RowKit Go.Proofs.YtmjdjpelhhibgaaDoorW.PrintWords Go.Proofs.YtmjdjpelhhibgaaDoorW.PrintLast Go.Proofs.YtmjdjpelhhibgaaDoorW.PrintMore
attribute [local go_sem] max2_int min2_int max_two min_two max_three min_three max_four min_four   -- for this text's walks alone
set_option linter.unusedVariables false
set_option linter.unusedSimpArgs false

/-! ### brackenlaw10_TokenRefs: function 4 -/
mutual
def brackenlaw10_TokenRefs.j0 : Nat → ByteArray → ByteArray → Int → Option (Bool)
  | 0, _, _, _ => none
  | k + 1, x3, x4, x5 => (brackenref1_Char.f x5).bind fun t364 => (brackenlaw10_TokenRefs.l0 k x3 x4 x5 t364 x5)
def brackenlaw10_TokenRefs.l0 : Nat → ByteArray → ByteArray → Int → Bool → Int → Option (Bool)
  | 0, _, _, _, _, _ => none
  | k + 1, x3, x4, x5, x6, x7 => if x7 > 0 then (if 0 ≤ (Int.tmod x7 10) then (if (Int.tmod x7 10) ≤ (wrap32 ((Int.tmod x7 10) + 1)) then (if (wrap32 ((Int.tmod x7 10) + 1)) ≤ 10 then (if ((⟨#[48, 49, 50, 51, 52, 53, 54, 55, 56, 57]⟩ : ByteArray).extract ((Int.tmod x7 10) : Int).toNat ((wrap32 ((Int.tmod x7 10) + 1)) : Int).toNat).size + x3.size ≤ 9223372036854775807 then (brackenlaw10_TokenRefs.l0 k (((⟨#[48, 49, 50, 51, 52, 53, 54, 55, 56, 57]⟩ : ByteArray).extract ((Int.tmod x7 10) : Int).toNat ((wrap32 ((Int.tmod x7 10) + 1)) : Int).toNat) ++ x3) x4 x5 x6 (wrap32 (Int.tdiv x7 10))) else (none)) else (none)) else (none)) else (none)) else (if x3.toList = ([] : List UInt8) then (if 0 ≤ (Int.tmod x7 10) then (if (Int.tmod x7 10) ≤ (wrap32 ((Int.tmod x7 10) + 1)) then (if (wrap32 ((Int.tmod x7 10) + 1)) ≤ 10 then (if ((⟨#[48, 49, 50, 51, 52, 53, 54, 55, 56, 57]⟩ : ByteArray).extract ((Int.tmod x7 10) : Int).toNat ((wrap32 ((Int.tmod x7 10) + 1)) : Int).toNat).size + x3.size ≤ 9223372036854775807 then (brackenlaw10_TokenRefs.l0 k (((⟨#[48, 49, 50, 51, 52, 53, 54, 55, 56, 57]⟩ : ByteArray).extract ((Int.tmod x7 10) : Int).toNat ((wrap32 ((Int.tmod x7 10) + 1)) : Int).toNat) ++ x3) x4 x5 x6 (wrap32 (Int.tdiv x7 10))) else (none)) else (none)) else (none)) else (none)) else (brackenlaw10_TokenRefs.l1 k x3 x4 x5 x6 x5))
def brackenlaw10_TokenRefs.l1 : Nat → ByteArray → ByteArray → Int → Bool → Int → Option (Bool)
  | 0, _, _, _, _, _ => none
  | k + 1, x3, x4, x5, x6, x8 => if x8 > 0 then (if 0 ≤ (Int.tmod x8 16) then (if (Int.tmod x8 16) ≤ (wrap32 ((Int.tmod x8 16) + 1)) then (if (wrap32 ((Int.tmod x8 16) + 1)) ≤ 16 then (if ((⟨#[48, 49, 50, 51, 52, 53, 54, 55, 56, 57, 97, 98, 99, 100, 101, 102]⟩ : ByteArray).extract ((Int.tmod x8 16) : Int).toNat ((wrap32 ((Int.tmod x8 16) + 1)) : Int).toNat).size + x4.size ≤ 9223372036854775807 then (brackenlaw10_TokenRefs.l1 k x3 (((⟨#[48, 49, 50, 51, 52, 53, 54, 55, 56, 57, 97, 98, 99, 100, 101, 102]⟩ : ByteArray).extract ((Int.tmod x8 16) : Int).toNat ((wrap32 ((Int.tmod x8 16) + 1)) : Int).toNat) ++ x4) x5 x6 (wrap32 (Int.tdiv x8 16))) else (none)) else (none)) else (none)) else (none)) else (if x4.toList = ([] : List UInt8) then (if 0 ≤ (Int.tmod x8 16) then (if (Int.tmod x8 16) ≤ (wrap32 ((Int.tmod x8 16) + 1)) then (if (wrap32 ((Int.tmod x8 16) + 1)) ≤ 16 then (if ((⟨#[48, 49, 50, 51, 52, 53, 54, 55, 56, 57, 97, 98, 99, 100, 101, 102]⟩ : ByteArray).extract ((Int.tmod x8 16) : Int).toNat ((wrap32 ((Int.tmod x8 16) + 1)) : Int).toNat).size + x4.size ≤ 9223372036854775807 then (brackenlaw10_TokenRefs.l1 k x3 (((⟨#[48, 49, 50, 51, 52, 53, 54, 55, 56, 57, 97, 98, 99, 100, 101, 102]⟩ : ByteArray).extract ((Int.tmod x8 16) : Int).toNat ((wrap32 ((Int.tmod x8 16) + 1)) : Int).toNat) ++ x4) x5 x6 (wrap32 (Int.tdiv x8 16))) else (none)) else (none)) else (none)) else (none)) else (if 2 + x3.size ≤ 9223372036854775807 then (if 2 + x3.size + 1 ≤ 9223372036854775807 then ((token_CharRef.f (((⟨#[38, 35]⟩ : ByteArray) ++ x3) ++ (⟨#[59]⟩ : ByteArray))).bind fun bt365 => (if 5 + x4.size ≤ 9223372036854775807 then (if 5 + x4.size + 1 ≤ 9223372036854775807 then ((token_CharRef.f (((⟨#[38, 35, 120, 48, 48]⟩ : ByteArray) ++ x4) ++ (⟨#[59]⟩ : ByteArray))).bind fun bt367 => ((token_Next.f k (((⟨#[38, 35]⟩ : ByteArray) ++ x3) ++ (⟨#[59]⟩ : ByteArray)) 0).bind fun bt369 => (if x6 = true then ((brackenlaw10_told.f k).bind fun t379 => (if t379 = true then (if bt365.2 = true then (if bt367.2 = true then (if bt365.1 = x5 then (if bt367.1 = x5 then (if bt369.2.2.2.2.2.2 = 0 then (if bt369.2.2.2.2.2.1 = (wrap64 ((x3.size : Int) + 3)) then (if bt369.1 = 7 then (some (bt369.2.2.1.toList == (Utf8.encode x5).toList)) else (some false)) else (some false)) else (some false)) else (some false)) else (some false)) else (some false)) else (some false)) else (some false))) else ((brackenlaw10_told.f k).bind fun t380 => (if t380 = true then (if bt365.2 = true then (some false) else (if bt367.2 = true then (some false) else (some (bt369.2.2.2.2.2.2 == 2)))) else (some false)))))) else (none)) else (none))) else (none)) else (none)))
end
def brackenlaw10_TokenRefs.f (k : Nat) (a0 : Int) : Option (Bool) := if a0 < 0 then (brackenlaw10_TokenRefs.j0 k (⟨#[]⟩ : ByteArray) (⟨#[]⟩ : ByteArray) (wrap32 (-(wrap32 (a0 + 1))))) else (brackenlaw10_TokenRefs.j0 k (⟨#[]⟩ : ByteArray) (⟨#[]⟩ : ByteArray) a0)
theorem brackenlaw10_TokenRefs.mono_l : ∀ k, (∀ y0 y1 y2, LeO (brackenlaw10_TokenRefs.j0 k y0 y1 y2) (brackenlaw10_TokenRefs.j0 (k + 1) y0 y1 y2)) ∧ (∀ y0 y1 y2 y3 y4, LeO (brackenlaw10_TokenRefs.l0 k y0 y1 y2 y3 y4) (brackenlaw10_TokenRefs.l0 (k + 1) y0 y1 y2 y3 y4)) ∧ (∀ y0 y1 y2 y3 y4, LeO (brackenlaw10_TokenRefs.l1 k y0 y1 y2 y3 y4) (brackenlaw10_TokenRefs.l1 (k + 1) y0 y1 y2 y3 y4))
  | 0 => ⟨fun _ _ _ r h => by simp [brackenlaw10_TokenRefs.j0] at h, fun _ _ _ _ _ r h => by simp [brackenlaw10_TokenRefs.l0] at h, fun _ _ _ _ _ r h => by simp [brackenlaw10_TokenRefs.l1] at h⟩
  | k + 1 => by
    obtain ⟨ih0, ih1, ih2⟩ := brackenlaw10_TokenRefs.mono_l k
    refine ⟨?_, ?_, ?_⟩
    · intro y0 y1 y2
      unfold brackenlaw10_TokenRefs.j0
      repeat' first
      | (with_reducible exact ih0 _ _ _)
      | (with_reducible exact ih1 _ _ _ _ _)
      | (with_reducible exact ih2 _ _ _ _ _)
      | (with_reducible exact brackenlaw10_told.mono _)
      | (with_reducible exact token_Next.mono _ _ _)
      | (with_reducible exact LeO.refl _)
      | (with_reducible exact LeO.none _)
      | (with_reducible refine LeO.ite ?_ ?_)
      | (with_reducible refine LeO.bind ?_ (fun _ => ?_))
      | exact ih0 _ _ _
      | exact ih1 _ _ _ _ _
      | exact ih2 _ _ _ _ _
      | exact brackenlaw10_told.mono _
      | exact token_Next.mono _ _ _
      | exact LeO.none _
      | refine LeO.ite ?_ ?_
      | refine LeO.bind ?_ (fun _ => ?_)
    · intro y0 y1 y2 y3 y4
      unfold brackenlaw10_TokenRefs.l0
      repeat' first
      | (with_reducible exact ih0 _ _ _)
      | (with_reducible exact ih1 _ _ _ _ _)
      | (with_reducible exact ih2 _ _ _ _ _)
      | (with_reducible exact brackenlaw10_told.mono _)
      | (with_reducible exact token_Next.mono _ _ _)
      | (with_reducible exact LeO.refl _)
      | (with_reducible exact LeO.none _)
      | (with_reducible refine LeO.ite ?_ ?_)
      | (with_reducible refine LeO.bind ?_ (fun _ => ?_))
      | exact ih0 _ _ _
      | exact ih1 _ _ _ _ _
      | exact ih2 _ _ _ _ _
      | exact brackenlaw10_told.mono _
      | exact token_Next.mono _ _ _
      | exact LeO.none _
      | refine LeO.ite ?_ ?_
      | refine LeO.bind ?_ (fun _ => ?_)
    · intro y0 y1 y2 y3 y4
      unfold brackenlaw10_TokenRefs.l1
      repeat' first
      | (with_reducible exact ih0 _ _ _)
      | (with_reducible exact ih1 _ _ _ _ _)
      | (with_reducible exact ih2 _ _ _ _ _)
      | (with_reducible exact brackenlaw10_told.mono _)
      | (with_reducible exact token_Next.mono _ _ _)
      | (with_reducible exact LeO.refl _)
      | (with_reducible exact LeO.none _)
      | (with_reducible refine LeO.ite ?_ ?_)
      | (with_reducible refine LeO.bind ?_ (fun _ => ?_))
      | exact ih0 _ _ _
      | exact ih1 _ _ _ _ _
      | exact ih2 _ _ _ _ _
      | exact brackenlaw10_told.mono _
      | exact token_Next.mono _ _ _
      | exact LeO.none _
      | refine LeO.ite ?_ ?_
      | refine LeO.bind ?_ (fun _ => ?_)
theorem brackenlaw10_TokenRefs.mono : ∀ a0 k, LeO (brackenlaw10_TokenRefs.f k a0) (brackenlaw10_TokenRefs.f (k + 1) a0) := by
  intro a0 k
  obtain ⟨ih0, ih1, ih2⟩ := brackenlaw10_TokenRefs.mono_l k
  unfold brackenlaw10_TokenRefs.f
  repeat' first
      | (with_reducible exact ih0 _ _ _)
      | (with_reducible exact ih1 _ _ _ _ _)
      | (with_reducible exact ih2 _ _ _ _ _)
      | (with_reducible exact brackenlaw10_told.mono _)
      | (with_reducible exact token_Next.mono _ _ _)
      | (with_reducible exact LeO.refl _)
      | (with_reducible exact LeO.none _)
      | (with_reducible refine LeO.ite ?_ ?_)
      | (with_reducible refine LeO.bind ?_ (fun _ => ?_))
      | exact ih0 _ _ _
      | exact ih1 _ _ _ _ _
      | exact ih2 _ _ _ _ _
      | exact brackenlaw10_told.mono _
      | exact token_Next.mono _ _ _
      | exact LeO.none _
      | refine LeO.ite ?_ ?_
      | refine LeO.bind ?_ (fun _ => ?_)
set_option maxHeartbeats 8000000 in
set_option maxRecDepth 100000 in
theorem brackenlaw10_TokenRefs.calls (k : Nat) (a0 : Int) (r : Bool) (w : World) (hE : Env w) (hTrue : Hid (r = true)) (h : brackenlaw10_TokenRefs.f k a0 = some r) :
    Calls Tryd.prog 4 #[.int .i32 a0] w fun e w' => e = .returned (.bool r) ∧ Below w.heap.size w w' := by
  have hu27 := Tryd.underlying27
  have HE := Aside0.mk hE
  clear hE
  have HB := Aside0.mk (Below.refl w.heap.size w)
  have H : (if a0 < 0 then (brackenlaw10_TokenRefs.j0 k (⟨#[]⟩ : ByteArray) (⟨#[]⟩ : ByteArray) (wrap32 (-(wrap32 (a0 + 1))))) else (brackenlaw10_TokenRefs.j0 k (⟨#[]⟩ : ByteArray) (⟨#[]⟩ : ByteArray) a0)) = some r := h
  clear h
  have HC2 := Aside0.mk H
  clear H
  go_enter Tryd.func4, Tryd.ntmps4
  go_upto_if 18 with (fail)
  go_cut [5] (fun v5 wc => ∃ (kq : Nat) (x5_1 : Int), v5 = .int .i32 x5_1 ∧ Aside0 (brackenlaw10_TokenRefs.j0 kq (⟨#[]⟩ : ByteArray) (⟨#[]⟩ : ByteArray) x5_1 = some r) ∧ Aside0 (kq ≤ k) ∧ Aside0 (Below w.heap.size w wc))
  case first =>
    have H := HC2.out
    clear HC2
    by_cases c3 : a0 < 0
    · rw [if_pos c3] at H
      have c3b0 : decide (a0 < 0) = true := decide_eq_true c3
      clear c3
      (first | rw [c3b0] | (simp only [i64_w, i32_w]; rw [c3b0]) | skip)
      have H' := Aside0.mk H
      clear H
      go_wp2
      go_meet
      case rel => exact ⟨_, (wrap32 (-(wrap32 (a0 + 1)))), (by first | rfl | (simp; done) | (simp [*]; done)), H', ⟨by first | omega | exact Nat.le_refl _⟩, ⟨by repeat (first | (with_reducible first | exact HB.out | apply below_alloc | apply pw_below_drewN | apply below_drew1) | exact HB.out)⟩⟩
    · rw [if_neg c3] at H
      have c3b0 : decide (a0 < 0) = false := decide_eq_false c3
      clear c3
      (first | rw [c3b0] | (simp only [i64_w, i32_w]; rw [c3b0]) | skip)
      have H' := Aside0.mk H
      clear H
      go_wp2
      go_meet
      case rel => exact ⟨_, (a0), (by first | rfl | (simp; done) | (simp [*]; done)), H', ⟨by first | omega | exact Nat.le_refl _⟩, ⟨by repeat (first | (with_reducible first | exact HB.out | apply below_alloc | apply pw_below_drewN | apply below_drew1) | exact HB.out)⟩⟩
  case rest =>
    clear HC2
    try clear p2
    try clear c3
    try clear c3b0
    try clear p3
    obtain ⟨kq, x5_1, rfl, HA, HJ1, HB⟩ := hcut
    cases kq with
    | zero => exact absurd HA.out (by simp [brackenlaw10_TokenRefs.j0])
    | succ kj1 =>
      have H := HA.out
      clear HA
      simp only [brackenlaw10_TokenRefs.j0] at H
      replace H := Option.bind_eq_some_iff.mp H
      obtain ⟨t364, A40, H⟩ := H
      replace H : (brackenlaw10_TokenRefs.l0 kj1 (⟨#[]⟩ : ByteArray) (⟨#[]⟩ : ByteArray) x5_1 t364 x5_1) = some r := H
      have A4 := Aside0.mk A40
      clear A40
      have H' := Aside0.mk H
      clear H
      go_wp2_with (first | ((with_reducible refine gate_callee (f := 16) rfl ?_); refine goesL_ (some 23) rfl rfl Tryd.func16 (by kernel_rfl) rfl #[.int .i32 x5_1] rfl (by (try simp only [List.map_toArray, List.map_cons, List.map_nil]); first | done | rfl | (simp only [List.length_drop, List.length_take]; rfl)) ?_; (with_reducible refine (brackenref1_Char.calls x5_1 t364 _ A4.out).mono ?_); rintro e w' ⟨rfl, ⟨nd, rfl⟩⟩; refine ⟨_, rfl, ?_⟩))
      go_loopg [3, 7] kj1 (fun kq v3 v7 w' => ∃ (x3_2 : ByteArray) (x7_2 : Int), v3 = .string x3_2 ∧ v7 = .int .i32 x7_2 ∧ Aside0 (brackenlaw10_TokenRefs.l0 kq x3_2 (⟨#[]⟩ : ByteArray) x5_1 t364 x7_2 = some r) ∧ Aside0 (kq ≤ kj1) ∧ Aside0 (Below w.heap.size w w'))
      case atStart => exact ⟨((⟨#[]⟩ : ByteArray)), (x5_1), (by first | rfl | (simp; done) | (simp [*]; done)), (by first | rfl | (simp; done) | (simp [*]; done)), H', ⟨Nat.le_refl _⟩, ⟨by repeat (first | (with_reducible first | exact HB.out | apply below_alloc | apply pw_below_drewN | apply below_drew1) | exact HB.out)⟩⟩
      case round =>
        clear H'
        try clear c1
        try clear p2
        try clear c3
        try clear c3b0
        try clear p3
        try clear c4
        try clear p2
        try clear p3
        obtain ⟨x3_2, x7_2, rfl, rfl, HA, HK2, HB⟩ := hrel
        cases gk with
        | zero => exact absurd HA.out (by simp [brackenlaw10_TokenRefs.l0])
        | succ k2 =>
          have H := HA.out
          clear HA
          simp only [brackenlaw10_TokenRefs.l0] at H
          by_cases c5 : x7_2 > 0
          · rw [if_pos c5] at H
            have c5b0 : decide (0 < x7_2) = true := decide_eq_true c5
            clear c5
            obtain ⟨ji6, hji6⟩ : ∃ j_ : Int, (Int.tmod x7_2 10) = j_ := ⟨_, rfl⟩
            replace H : (if 0 ≤ (ji6) then (if (ji6) ≤ (wrap32 ((ji6) + 1)) then (if (wrap32 ((ji6) + 1)) ≤ 10 then (if ((⟨#[48, 49, 50, 51, 52, 53, 54, 55, 56, 57]⟩ : ByteArray).extract ((ji6) : Int).toNat ((wrap32 ((ji6) + 1)) : Int).toNat).size + x3_2.size ≤ 9223372036854775807 then (brackenlaw10_TokenRefs.l0 k2 (((⟨#[48, 49, 50, 51, 52, 53, 54, 55, 56, 57]⟩ : ByteArray).extract ((ji6) : Int).toNat ((wrap32 ((ji6) + 1)) : Int).toNat) ++ x3_2) (⟨#[]⟩ : ByteArray) x5_1 t364 (wrap32 (Int.tdiv x7_2 10))) else (none)) else (none)) else (none)) else (none)) = some r := by first | (rw [hji6] at H; exact H) | (simp only [hji6] at H ⊢; exact H)
            by_cases c7 : 0 ≤ (ji6)
            · rw [if_pos c7] at H
              have c7b0 := eq_true c7
              have c7b1 : decide (0 ≤ (ji6)) = true := decide_eq_true c7
              clear c7
              by_cases c8 : (ji6) ≤ (wrap32 ((ji6) + 1))
              · rw [if_pos c8] at H
                have c8b0 := eq_true c8
                have c8b1 : decide ((ji6) ≤ (wrap32 ((ji6) + 1))) = true := decide_eq_true c8
                by_cases c9 : (wrap32 ((ji6) + 1)) ≤ 10
                · rw [if_pos c9] at H
                  have c9b0 := eq_true c9
                  have c9b1 : decide ((wrap32 ((ji6) + 1)) ≤ 10) = true := decide_eq_true c9
                  by_cases c10 : ((⟨#[48, 49, 50, 51, 52, 53, 54, 55, 56, 57]⟩ : ByteArray).extract ((ji6) : Int).toNat ((wrap32 ((ji6) + 1)) : Int).toNat).size + x3_2.size ≤ 9223372036854775807
                  · rw [if_pos c10] at H
                    have c10b0 := eq_true c10
                    have c10b1 : decide (((⟨#[48, 49, 50, 51, 52, 53, 54, 55, 56, 57]⟩ : ByteArray).extract ((ji6) : Int).toNat ((wrap32 ((ji6) + 1)) : Int).toNat).size + x3_2.size ≤ 9223372036854775807) = true := decide_eq_true c10
                    try have c10b2 : (9223372036854775807 < ((⟨#[48, 49, 50, 51, 52, 53, 54, 55, 56, 57]⟩ : ByteArray).extract ((ji6) : Int).toNat ((wrap32 ((ji6) + 1)) : Int).toNat).size + x3_2.size) = False := eq_false (Nat.not_lt.2 c10)
                    have H' := Aside0.mk H
                    clear H
                    go_wp2
                    go_roundg k2
                    case measure => have := HJ1.out; have := HK2.out; omega
                    case rel => exact ⟨(((⟨#[48, 49, 50, 51, 52, 53, 54, 55, 56, 57]⟩ : ByteArray).extract ((ji6) : Int).toNat ((wrap32 ((ji6) + 1)) : Int).toNat) ++ x3_2), (wrap32 (Int.tdiv x7_2 10)), (by first | rfl | (simp; done) | (simp only [← hji6] <;> (first | rfl | simp)) | (simp [*]; done)), (by first | rfl | (simp; done) | (simp [*]; done)), H', ⟨by have := HJ1.out; have := HK2.out; omega⟩, ⟨by repeat (first | (with_reducible first | exact HB.out | apply below_alloc | apply pw_below_drewN | apply below_drew1) | exact HB.out)⟩⟩
                  · rw [if_neg c10] at H
                    exact absurd H (by simp)
                · rw [if_neg c9] at H
                  exact absurd H (by simp)
              · rw [if_neg c8] at H
                exact absurd H (by simp)
            · rw [if_neg c7] at H
              exact absurd H (by simp)
          · rw [if_neg c5] at H
            have c5b0 : decide (0 < x7_2) = false := decide_eq_false c5
            clear c5
            by_cases c11 : x3_2.toList = ([] : List UInt8)
            · rw [if_pos c11] at H
              have c11b0 : (x3_2.toList == ([] : List UInt8)) = true := beq_iff_eq.mpr c11
              have c11b1 : (x3_2.toList != ([] : List UInt8)) = false := bne_eq_false_iff_eq.mpr c11
              clear c11
              obtain ⟨ji12, hji12⟩ : ∃ j_ : Int, (Int.tmod x7_2 10) = j_ := ⟨_, rfl⟩
              replace H : (if 0 ≤ (ji12) then (if (ji12) ≤ (wrap32 ((ji12) + 1)) then (if (wrap32 ((ji12) + 1)) ≤ 10 then (if ((⟨#[48, 49, 50, 51, 52, 53, 54, 55, 56, 57]⟩ : ByteArray).extract ((ji12) : Int).toNat ((wrap32 ((ji12) + 1)) : Int).toNat).size + x3_2.size ≤ 9223372036854775807 then (brackenlaw10_TokenRefs.l0 k2 (((⟨#[48, 49, 50, 51, 52, 53, 54, 55, 56, 57]⟩ : ByteArray).extract ((ji12) : Int).toNat ((wrap32 ((ji12) + 1)) : Int).toNat) ++ x3_2) (⟨#[]⟩ : ByteArray) x5_1 t364 (wrap32 (Int.tdiv x7_2 10))) else (none)) else (none)) else (none)) else (none)) = some r := by first | (rw [hji12] at H; exact H) | (simp only [hji12] at H ⊢; exact H)
              by_cases c13 : 0 ≤ (ji12)
              · rw [if_pos c13] at H
                have c13b0 := eq_true c13
                have c13b1 : decide (0 ≤ (ji12)) = true := decide_eq_true c13
                clear c13
                by_cases c14 : (ji12) ≤ (wrap32 ((ji12) + 1))
                · rw [if_pos c14] at H
                  have c14b0 := eq_true c14
                  have c14b1 : decide ((ji12) ≤ (wrap32 ((ji12) + 1))) = true := decide_eq_true c14
                  by_cases c15 : (wrap32 ((ji12) + 1)) ≤ 10
                  · rw [if_pos c15] at H
                    have c15b0 := eq_true c15
                    have c15b1 : decide ((wrap32 ((ji12) + 1)) ≤ 10) = true := decide_eq_true c15
                    by_cases c16 : ((⟨#[48, 49, 50, 51, 52, 53, 54, 55, 56, 57]⟩ : ByteArray).extract ((ji12) : Int).toNat ((wrap32 ((ji12) + 1)) : Int).toNat).size + x3_2.size ≤ 9223372036854775807
                    · rw [if_pos c16] at H
                      have c16b0 := eq_true c16
                      have c16b1 : decide (((⟨#[48, 49, 50, 51, 52, 53, 54, 55, 56, 57]⟩ : ByteArray).extract ((ji12) : Int).toNat ((wrap32 ((ji12) + 1)) : Int).toNat).size + x3_2.size ≤ 9223372036854775807) = true := decide_eq_true c16
                      try have c16b2 : (9223372036854775807 < ((⟨#[48, 49, 50, 51, 52, 53, 54, 55, 56, 57]⟩ : ByteArray).extract ((ji12) : Int).toNat ((wrap32 ((ji12) + 1)) : Int).toNat).size + x3_2.size) = False := eq_false (Nat.not_lt.2 c16)
                      have H' := Aside0.mk H
                      clear H
                      go_wp2
                      go_roundg k2
                      case measure => have := HJ1.out; have := HK2.out; omega
                      case rel => exact ⟨(((⟨#[48, 49, 50, 51, 52, 53, 54, 55, 56, 57]⟩ : ByteArray).extract ((ji12) : Int).toNat ((wrap32 ((ji12) + 1)) : Int).toNat) ++ x3_2), (wrap32 (Int.tdiv x7_2 10)), (by first | rfl | (simp; done) | (simp only [← hji12] <;> (first | rfl | simp)) | (simp [*]; done)), (by first | rfl | (simp; done) | (simp [*]; done)), H', ⟨by have := HJ1.out; have := HK2.out; omega⟩, ⟨by repeat (first | (with_reducible first | exact HB.out | apply below_alloc | apply pw_below_drewN | apply below_drew1) | exact HB.out)⟩⟩
                    · rw [if_neg c16] at H
                      exact absurd H (by simp)
                  · rw [if_neg c15] at H
                    exact absurd H (by simp)
                · rw [if_neg c14] at H
                  exact absurd H (by simp)
              · rw [if_neg c13] at H
                exact absurd H (by simp)
            · rw [if_neg c11] at H
              have c11b0 : (x3_2.toList == ([] : List UInt8)) = false := beq_eq_false_iff_ne.mpr c11
              have c11b1 : (x3_2.toList != ([] : List UInt8)) = true := bne_iff_ne.mpr c11
              have H' := Aside0.mk H
              clear H
              go_wp2
              go_loopg [4, 8] k2 (fun kq v4 v8 w' => ∃ (x4_3 : ByteArray) (x8_3 : Int), v4 = .string x4_3 ∧ v8 = .int .i32 x8_3 ∧ Aside0 (brackenlaw10_TokenRefs.l1 kq x3_2 x4_3 x5_1 t364 x8_3 = some r) ∧ Aside0 (kq ≤ k2) ∧ Aside0 (Below w.heap.size w w'))
              case atStart => exact ⟨((⟨#[]⟩ : ByteArray)), (x5_1), (by first | rfl | (simp; done) | (simp [*]; done)), (by first | rfl | (simp; done) | (simp [*]; done)), H', ⟨Nat.le_refl _⟩, ⟨by repeat (first | (with_reducible first | exact HB.out | apply below_alloc | apply pw_below_drewN | apply below_drew1) | exact HB.out)⟩⟩
              case round =>
                clear H'
                try clear c1
                try clear p2
                try clear c3
                try clear c3b0
                try clear p3
                try clear c4
                try clear c5
                try clear c5b0
                try clear c7
                try clear c7b0
                try clear c7b1
                try clear c8
                try clear c8b0
                try clear c8b1
                try clear c9
                try clear c9b0
                try clear c9b1
                try clear c10
                try clear c10b0
                try clear c10b1
                try clear c10b2
                try clear c11
                try clear c11b0
                try clear c11b1
                try clear c13
                try clear c13b0
                try clear c13b1
                try clear c14
                try clear c14b0
                try clear c14b1
                try clear c15
                try clear c15b0
                try clear c15b1
                try clear c16
                try clear c16b0
                try clear c16b1
                try clear c16b2
                try clear p2
                try clear p3
                obtain ⟨x4_3, x8_3, rfl, rfl, HA, HK3, HB⟩ := hrel
                cases gk with
                | zero => exact absurd HA.out (by simp [brackenlaw10_TokenRefs.l1])
                | succ k3 =>
                  have H := HA.out
                  clear HA
                  simp only [brackenlaw10_TokenRefs.l1] at H
                  by_cases c17 : x8_3 > 0
                  · rw [if_pos c17] at H
                    have c17b0 : decide (0 < x8_3) = true := decide_eq_true c17
                    clear c17
                    obtain ⟨ji18, hji18⟩ : ∃ j_ : Int, (Int.tmod x8_3 16) = j_ := ⟨_, rfl⟩
                    replace H : (if 0 ≤ (ji18) then (if (ji18) ≤ (wrap32 ((ji18) + 1)) then (if (wrap32 ((ji18) + 1)) ≤ 16 then (if ((⟨#[48, 49, 50, 51, 52, 53, 54, 55, 56, 57, 97, 98, 99, 100, 101, 102]⟩ : ByteArray).extract ((ji18) : Int).toNat ((wrap32 ((ji18) + 1)) : Int).toNat).size + x4_3.size ≤ 9223372036854775807 then (brackenlaw10_TokenRefs.l1 k3 x3_2 (((⟨#[48, 49, 50, 51, 52, 53, 54, 55, 56, 57, 97, 98, 99, 100, 101, 102]⟩ : ByteArray).extract ((ji18) : Int).toNat ((wrap32 ((ji18) + 1)) : Int).toNat) ++ x4_3) x5_1 t364 (wrap32 (Int.tdiv x8_3 16))) else (none)) else (none)) else (none)) else (none)) = some r := by first | (rw [hji18] at H; exact H) | (simp only [hji18] at H ⊢; exact H)
                    by_cases c19 : 0 ≤ (ji18)
                    · rw [if_pos c19] at H
                      have c19b0 := eq_true c19
                      have c19b1 : decide (0 ≤ (ji18)) = true := decide_eq_true c19
                      clear c19
                      by_cases c20 : (ji18) ≤ (wrap32 ((ji18) + 1))
                      · rw [if_pos c20] at H
                        have c20b0 := eq_true c20
                        have c20b1 : decide ((ji18) ≤ (wrap32 ((ji18) + 1))) = true := decide_eq_true c20
                        by_cases c21 : (wrap32 ((ji18) + 1)) ≤ 16
                        · rw [if_pos c21] at H
                          have c21b0 := eq_true c21
                          have c21b1 : decide ((wrap32 ((ji18) + 1)) ≤ 16) = true := decide_eq_true c21
                          by_cases c22 : ((⟨#[48, 49, 50, 51, 52, 53, 54, 55, 56, 57, 97, 98, 99, 100, 101, 102]⟩ : ByteArray).extract ((ji18) : Int).toNat ((wrap32 ((ji18) + 1)) : Int).toNat).size + x4_3.size ≤ 9223372036854775807
                          · rw [if_pos c22] at H
                            have c22b0 := eq_true c22
                            have c22b1 : decide (((⟨#[48, 49, 50, 51, 52, 53, 54, 55, 56, 57, 97, 98, 99, 100, 101, 102]⟩ : ByteArray).extract ((ji18) : Int).toNat ((wrap32 ((ji18) + 1)) : Int).toNat).size + x4_3.size ≤ 9223372036854775807) = true := decide_eq_true c22
                            try have c22b2 : (9223372036854775807 < ((⟨#[48, 49, 50, 51, 52, 53, 54, 55, 56, 57, 97, 98, 99, 100, 101, 102]⟩ : ByteArray).extract ((ji18) : Int).toNat ((wrap32 ((ji18) + 1)) : Int).toNat).size + x4_3.size) = False := eq_false (Nat.not_lt.2 c22)
                            have H' := Aside0.mk H
                            clear H
                            go_wp2
                            go_roundg k3
                            case measure => have := HJ1.out; have := HK2.out; have := HK3.out; omega
                            case rel => exact ⟨(((⟨#[48, 49, 50, 51, 52, 53, 54, 55, 56, 57, 97, 98, 99, 100, 101, 102]⟩ : ByteArray).extract ((ji18) : Int).toNat ((wrap32 ((ji18) + 1)) : Int).toNat) ++ x4_3), (wrap32 (Int.tdiv x8_3 16)), (by first | rfl | (simp; done) | (simp only [← hji18] <;> (first | rfl | simp)) | (simp [*]; done)), (by first | rfl | (simp; done) | (simp [*]; done)), H', ⟨by have := HJ1.out; have := HK2.out; have := HK3.out; omega⟩, ⟨by repeat (first | (with_reducible first | exact HB.out | apply below_alloc | apply pw_below_drewN | apply below_drew1) | exact HB.out)⟩⟩
                          · rw [if_neg c22] at H
                            exact absurd H (by simp)
                        · rw [if_neg c21] at H
                          exact absurd H (by simp)
                      · rw [if_neg c20] at H
                        exact absurd H (by simp)
                    · rw [if_neg c19] at H
                      exact absurd H (by simp)
                  · rw [if_neg c17] at H
                    have c17b0 : decide (0 < x8_3) = false := decide_eq_false c17
                    clear c17
                    by_cases c23 : x4_3.toList = ([] : List UInt8)
                    · rw [if_pos c23] at H
                      have c23b0 : (x4_3.toList == ([] : List UInt8)) = true := beq_iff_eq.mpr c23
                      have c23b1 : (x4_3.toList != ([] : List UInt8)) = false := bne_eq_false_iff_eq.mpr c23
                      clear c23
                      obtain ⟨ji24, hji24⟩ : ∃ j_ : Int, (Int.tmod x8_3 16) = j_ := ⟨_, rfl⟩
                      replace H : (if 0 ≤ (ji24) then (if (ji24) ≤ (wrap32 ((ji24) + 1)) then (if (wrap32 ((ji24) + 1)) ≤ 16 then (if ((⟨#[48, 49, 50, 51, 52, 53, 54, 55, 56, 57, 97, 98, 99, 100, 101, 102]⟩ : ByteArray).extract ((ji24) : Int).toNat ((wrap32 ((ji24) + 1)) : Int).toNat).size + x4_3.size ≤ 9223372036854775807 then (brackenlaw10_TokenRefs.l1 k3 x3_2 (((⟨#[48, 49, 50, 51, 52, 53, 54, 55, 56, 57, 97, 98, 99, 100, 101, 102]⟩ : ByteArray).extract ((ji24) : Int).toNat ((wrap32 ((ji24) + 1)) : Int).toNat) ++ x4_3) x5_1 t364 (wrap32 (Int.tdiv x8_3 16))) else (none)) else (none)) else (none)) else (none)) = some r := by first | (rw [hji24] at H; exact H) | (simp only [hji24] at H ⊢; exact H)
                      by_cases c25 : 0 ≤ (ji24)
                      · rw [if_pos c25] at H
                        have c25b0 := eq_true c25
                        have c25b1 : decide (0 ≤ (ji24)) = true := decide_eq_true c25
                        clear c25
                        by_cases c26 : (ji24) ≤ (wrap32 ((ji24) + 1))
                        · rw [if_pos c26] at H
                          have c26b0 := eq_true c26
                          have c26b1 : decide ((ji24) ≤ (wrap32 ((ji24) + 1))) = true := decide_eq_true c26
                          by_cases c27 : (wrap32 ((ji24) + 1)) ≤ 16
                          · rw [if_pos c27] at H
                            have c27b0 := eq_true c27
                            have c27b1 : decide ((wrap32 ((ji24) + 1)) ≤ 16) = true := decide_eq_true c27
                            by_cases c28 : ((⟨#[48, 49, 50, 51, 52, 53, 54, 55, 56, 57, 97, 98, 99, 100, 101, 102]⟩ : ByteArray).extract ((ji24) : Int).toNat ((wrap32 ((ji24) + 1)) : Int).toNat).size + x4_3.size ≤ 9223372036854775807
                            · rw [if_pos c28] at H
                              have c28b0 := eq_true c28
                              have c28b1 : decide (((⟨#[48, 49, 50, 51, 52, 53, 54, 55, 56, 57, 97, 98, 99, 100, 101, 102]⟩ : ByteArray).extract ((ji24) : Int).toNat ((wrap32 ((ji24) + 1)) : Int).toNat).size + x4_3.size ≤ 9223372036854775807) = true := decide_eq_true c28
                              try have c28b2 : (9223372036854775807 < ((⟨#[48, 49, 50, 51, 52, 53, 54, 55, 56, 57, 97, 98, 99, 100, 101, 102]⟩ : ByteArray).extract ((ji24) : Int).toNat ((wrap32 ((ji24) + 1)) : Int).toNat).size + x4_3.size) = False := eq_false (Nat.not_lt.2 c28)
                              have H' := Aside0.mk H
                              clear H
                              go_wp2
                              go_roundg k3
                              case measure => have := HJ1.out; have := HK2.out; have := HK3.out; omega
                              case rel => exact ⟨(((⟨#[48, 49, 50, 51, 52, 53, 54, 55, 56, 57, 97, 98, 99, 100, 101, 102]⟩ : ByteArray).extract ((ji24) : Int).toNat ((wrap32 ((ji24) + 1)) : Int).toNat) ++ x4_3), (wrap32 (Int.tdiv x8_3 16)), (by first | rfl | (simp; done) | (simp only [← hji24] <;> (first | rfl | simp)) | (simp [*]; done)), (by first | rfl | (simp; done) | (simp [*]; done)), H', ⟨by have := HJ1.out; have := HK2.out; have := HK3.out; omega⟩, ⟨by repeat (first | (with_reducible first | exact HB.out | apply below_alloc | apply pw_below_drewN | apply below_drew1) | exact HB.out)⟩⟩
                            · rw [if_neg c28] at H
                              exact absurd H (by simp)
                          · rw [if_neg c27] at H
                            exact absurd H (by simp)
                        · rw [if_neg c26] at H
                          exact absurd H (by simp)
                      · rw [if_neg c25] at H
                        exact absurd H (by simp)
                    · rw [if_neg c23] at H
                      have c23b0 : (x4_3.toList == ([] : List UInt8)) = false := beq_eq_false_iff_ne.mpr c23
                      have c23b1 : (x4_3.toList != ([] : List UInt8)) = true := bne_iff_ne.mpr c23
                      by_cases c29 : 2 + x3_2.size ≤ 9223372036854775807
                      · rw [if_pos c29] at H
                        have c29b0 := eq_true c29
                        have c29b1 : decide (2 + x3_2.size ≤ 9223372036854775807) = true := decide_eq_true c29
                        try have c29b2 : (9223372036854775807 < 2 + x3_2.size) = False := eq_false (Nat.not_lt.2 c29)
                        by_cases c30 : 2 + x3_2.size + 1 ≤ 9223372036854775807
                        · rw [if_pos c30] at H
                          have c30b0 := eq_true c30
                          have c30b1 : decide (2 + x3_2.size + 1 ≤ 9223372036854775807) = true := decide_eq_true c30
                          try have c30b2 : (9223372036854775807 < 2 + x3_2.size + 1) = False := eq_false (Nat.not_lt.2 c30)
                          replace H := Option.bind_eq_some_iff.mp H
                          obtain ⟨⟨t365, t366⟩, A310, H⟩ := H
                          replace H : (if 5 + x4_3.size ≤ 9223372036854775807 then (if 5 + x4_3.size + 1 ≤ 9223372036854775807 then ((token_CharRef.f (((⟨#[38, 35, 120, 48, 48]⟩ : ByteArray) ++ x4_3) ++ (⟨#[59]⟩ : ByteArray))).bind fun bt367 => ((token_Next.f k3 (((⟨#[38, 35]⟩ : ByteArray) ++ x3_2) ++ (⟨#[59]⟩ : ByteArray)) 0).bind fun bt369 => (if t364 = true then ((brackenlaw10_told.f k3).bind fun t379 => (if t379 = true then (if t366 = true then (if bt367.2 = true then (if t365 = x5_1 then (if bt367.1 = x5_1 then (if bt369.2.2.2.2.2.2 = 0 then (if bt369.2.2.2.2.2.1 = (wrap64 ((x3_2.size : Int) + 3)) then (if bt369.1 = 7 then (some (bt369.2.2.1.toList == (Utf8.encode x5_1).toList)) else (some false)) else (some false)) else (some false)) else (some false)) else (some false)) else (some false)) else (some false)) else (some false))) else ((brackenlaw10_told.f k3).bind fun t380 => (if t380 = true then (if t366 = true then (some false) else (if bt367.2 = true then (some false) else (some (bt369.2.2.2.2.2.2 == 2)))) else (some false)))))) else (none)) else (none)) = some r := H
                          have A31 := Aside0.mk A310
                          clear A310
                          by_cases c32 : 5 + x4_3.size ≤ 9223372036854775807
                          · rw [if_pos c32] at H
                            have c32b0 := eq_true c32
                            have c32b1 : decide (5 + x4_3.size ≤ 9223372036854775807) = true := decide_eq_true c32
                            try have c32b2 : (9223372036854775807 < 5 + x4_3.size) = False := eq_false (Nat.not_lt.2 c32)
                            by_cases c33 : 5 + x4_3.size + 1 ≤ 9223372036854775807
                            · rw [if_pos c33] at H
                              have c33b0 := eq_true c33
                              have c33b1 : decide (5 + x4_3.size + 1 ≤ 9223372036854775807) = true := decide_eq_true c33
                              try have c33b2 : (9223372036854775807 < 5 + x4_3.size + 1) = False := eq_false (Nat.not_lt.2 c33)
                              replace H := Option.bind_eq_some_iff.mp H
                              obtain ⟨⟨t367, t368⟩, A340, H⟩ := H
                              replace H : ((token_Next.f k3 (((⟨#[38, 35]⟩ : ByteArray) ++ x3_2) ++ (⟨#[59]⟩ : ByteArray)) 0).bind fun bt369 => (if t364 = true then ((brackenlaw10_told.f k3).bind fun t379 => (if t379 = true then (if t366 = true then (if t368 = true then (if t365 = x5_1 then (if t367 = x5_1 then (if bt369.2.2.2.2.2.2 = 0 then (if bt369.2.2.2.2.2.1 = (wrap64 ((x3_2.size : Int) + 3)) then (if bt369.1 = 7 then (some (bt369.2.2.1.toList == (Utf8.encode x5_1).toList)) else (some false)) else (some false)) else (some false)) else (some false)) else (some false)) else (some false)) else (some false)) else (some false))) else ((brackenlaw10_told.f k3).bind fun t380 => (if t380 = true then (if t366 = true then (some false) else (if t368 = true then (some false) else (some (bt369.2.2.2.2.2.2 == 2)))) else (some false))))) = some r := H
                              have A34 := Aside0.mk A340
                              clear A340
                              replace H := Option.bind_eq_some_iff.mp H
                              obtain ⟨⟨t369, t370, t371, t372, t375, t376, t377⟩, A350, H⟩ := H
                              replace H : (if t364 = true then ((brackenlaw10_told.f k3).bind fun t379 => (if t379 = true then (if t366 = true then (if t368 = true then (if t365 = x5_1 then (if t367 = x5_1 then (if t377 = 0 then (if t376 = (wrap64 ((x3_2.size : Int) + 3)) then (if t369 = 7 then (some (t371.toList == (Utf8.encode x5_1).toList)) else (some false)) else (some false)) else (some false)) else (some false)) else (some false)) else (some false)) else (some false)) else (some false))) else ((brackenlaw10_told.f k3).bind fun t380 => (if t380 = true then (if t366 = true then (some false) else (if t368 = true then (some false) else (some (t377 == 2)))) else (some false)))) = some r := H
                              have A35 := Aside0.mk A350
                              clear A350
                              by_cases c36 : t364 = true
                              · subst c36
                                have H1 : ((brackenlaw10_told.f k3).bind fun t379 => (if t379 = true then (if t366 = true then (if t368 = true then (if t365 = x5_1 then (if t367 = x5_1 then (if t377 = 0 then (if t376 = (wrap64 ((x3_2.size : Int) + 3)) then (if t369 = 7 then (some (t371.toList == (Utf8.encode x5_1).toList)) else (some false)) else (some false)) else (some false)) else (some false)) else (some false)) else (some false)) else (some false)) else (some false))) = some r := by rw [if_pos rfl] at H; exact H
                                clear H
                                have H := H1
                                clear H1
                                replace H := Option.bind_eq_some_iff.mp H
                                obtain ⟨t379, A370, H⟩ := H
                                replace H : (if t379 = true then (if t366 = true then (if t368 = true then (if t365 = x5_1 then (if t367 = x5_1 then (if t377 = 0 then (if t376 = (wrap64 ((x3_2.size : Int) + 3)) then (if t369 = 7 then (some (t371.toList == (Utf8.encode x5_1).toList)) else (some false)) else (some false)) else (some false)) else (some false)) else (some false)) else (some false)) else (some false)) else (some false)) = some r := H
                                have A37 := Aside0.mk A370
                                clear A370
                                by_cases c38 : t379 = true
                                · subst c38
                                  have H1 : (if t366 = true then (if t368 = true then (if t365 = x5_1 then (if t367 = x5_1 then (if t377 = 0 then (if t376 = (wrap64 ((x3_2.size : Int) + 3)) then (if t369 = 7 then (some (t371.toList == (Utf8.encode x5_1).toList)) else (some false)) else (some false)) else (some false)) else (some false)) else (some false)) else (some false)) else (some false)) = some r := by rw [if_pos rfl] at H; exact H
                                  clear H
                                  have H := H1
                                  clear H1
                                  by_cases c39 : t366 = true
                                  · subst c39
                                    have H1 : (if t368 = true then (if t365 = x5_1 then (if t367 = x5_1 then (if t377 = 0 then (if t376 = (wrap64 ((x3_2.size : Int) + 3)) then (if t369 = 7 then (some (t371.toList == (Utf8.encode x5_1).toList)) else (some false)) else (some false)) else (some false)) else (some false)) else (some false)) else (some false)) = some r := by rw [if_pos rfl] at H; exact H
                                    clear H
                                    have H := H1
                                    clear H1
                                    by_cases c40 : t368 = true
                                    · subst c40
                                      have H1 : (if t365 = x5_1 then (if t367 = x5_1 then (if t377 = 0 then (if t376 = (wrap64 ((x3_2.size : Int) + 3)) then (if t369 = 7 then (some (t371.toList == (Utf8.encode x5_1).toList)) else (some false)) else (some false)) else (some false)) else (some false)) else (some false)) = some r := by rw [if_pos rfl] at H; exact H
                                      clear H
                                      have H := H1
                                      clear H1
                                      by_cases c41 : t365 = x5_1
                                      · rw [if_pos c41] at H
                                        have c41b0 : (t365 == x5_1) = true := beq_iff_eq.mpr c41
                                        have c41b1 : (t365 != x5_1) = false := bne_eq_false_iff_eq.mpr c41
                                        clear c41
                                        by_cases c42 : t367 = x5_1
                                        · rw [if_pos c42] at H
                                          have c42b0 : (t367 == x5_1) = true := beq_iff_eq.mpr c42
                                          have c42b1 : (t367 != x5_1) = false := bne_eq_false_iff_eq.mpr c42
                                          clear c42
                                          by_cases c43 : t377 = 0
                                          · rw [if_pos c43] at H
                                            have c43b0 : (t377 == 0) = true := beq_iff_eq.mpr c43
                                            have c43b1 : (t377 != 0) = false := bne_eq_false_iff_eq.mpr c43
                                            clear c43
                                            by_cases c44 : t376 = (wrap64 ((x3_2.size : Int) + 3))
                                            · rw [if_pos c44] at H
                                              have c44b0 : (t376 == (wrap64 ((x3_2.size : Int) + 3))) = true := beq_iff_eq.mpr c44
                                              have c44b1 : (t376 != (wrap64 ((x3_2.size : Int) + 3))) = false := bne_eq_false_iff_eq.mpr c44
                                              try (have c44b2 : (t376 == ((x3_2.size : Int) + 3)) = true := by rw [← c44b0]; congr 1; unfold wrap64; omega)
                                              try (have c44b3 : (t376 != ((x3_2.size : Int) + 3)) = false := by rw [← c44b1]; congr 1; unfold wrap64; omega)
                                              clear c44
                                              by_cases c45 : t369 = 7
                                              · rw [if_pos c45] at H
                                                have c45b0 : (t369 == 7) = true := beq_iff_eq.mpr c45
                                                have c45b1 : (t369 != 7) = false := bne_eq_false_iff_eq.mpr c45
                                                clear c45
                                                obtain rfl := Option.some.inj H
                                                go_wp2_with (first | ((with_reducible refine gate_callee (f := 17) rfl ?_); refine goesL_ (some 62) rfl rfl Tryd.func17 (by kernel_rfl) rfl #[.string (((⟨#[38, 35]⟩ : ByteArray) ++ x3_2) ++ (⟨#[59]⟩ : ByteArray))] rfl (by (try simp only [List.map_toArray, List.map_cons, List.map_nil]); first | done | rfl | (simp only [List.length_drop, List.length_take]; rfl)) ?_; (with_reducible refine (token_CharRef.calls (((⟨#[38, 35]⟩ : ByteArray) ++ x3_2) ++ (⟨#[59]⟩ : ByteArray)) t365 true _ (Env.below HE.out (by repeat (first | (with_reducible first | exact HB.out | apply below_alloc | apply pw_below_drewN | apply below_drew1) | exact HB.out))) A31.out).mono ?_); rintro e w46 ⟨rfl, hb⟩; refine ⟨_, rfl, ?_⟩; have n0_ := Aside0.mk (below_step (by repeat (first | (with_reducible first | exact HB.out | apply below_alloc | apply pw_below_drewN | apply below_drew1) | exact HB.out)) hb); clear HB; have HB := n0_; clear n0_; (try clear hb); (try clear hb2); (try clear hk); (try clear hi)) | ((with_reducible refine gate_callee (f := 17) rfl ?_); refine goesL_ (some 69) rfl rfl Tryd.func17 (by kernel_rfl) rfl #[.string (((⟨#[38, 35, 120, 48, 48]⟩ : ByteArray) ++ x4_3) ++ (⟨#[59]⟩ : ByteArray))] rfl (by (try simp only [List.map_toArray, List.map_cons, List.map_nil]); first | done | rfl | (simp only [List.length_drop, List.length_take]; rfl)) ?_; (with_reducible refine (token_CharRef.calls (((⟨#[38, 35, 120, 48, 48]⟩ : ByteArray) ++ x4_3) ++ (⟨#[59]⟩ : ByteArray)) t367 true _ (Env.below HE.out (by repeat (first | (with_reducible first | exact HB.out | apply below_alloc | apply pw_below_drewN | apply below_drew1) | exact HB.out))) A34.out).mono ?_); rintro e w47 ⟨rfl, hb⟩; refine ⟨_, rfl, ?_⟩; have n0_ := Aside0.mk (below_step (by repeat (first | (with_reducible first | exact HB.out | apply below_alloc | apply pw_below_drewN | apply below_drew1) | exact HB.out)) hb); clear HB; have HB := n0_; clear n0_; (try clear hb); (try clear hb2); (try clear hk); (try clear hi)) | ((with_reducible refine gate_callee (f := 15) rfl ?_); refine goesL_ (some 76) rfl rfl Tryd.func15 (by kernel_rfl) rfl #[.string (((⟨#[38, 35]⟩ : ByteArray) ++ x3_2) ++ (⟨#[59]⟩ : ByteArray)), .int .i64 0] rfl (by (try simp only [List.map_toArray, List.map_cons, List.map_nil]); first | done | rfl | (simp only [List.length_drop, List.length_take]; rfl)) ?_; (with_reducible refine (token_Next.calls k3 (((⟨#[38, 35]⟩ : ByteArray) ++ x3_2) ++ (⟨#[59]⟩ : ByteArray)) 0 t369 t370 t371 t372 t375 t376 t377 _ (Env.below HE.out (by repeat (first | (with_reducible first | exact HB.out | apply below_alloc | apply pw_below_drewN | apply below_drew1) | exact HB.out))) A35.out).mono ?_); rintro e w48 ⟨v373, rfl, ho0, hb⟩; refine ⟨_, rfl, ?_⟩; have n0_ := Aside0.mk (Kd.R_lower ho0 (below_size (by repeat (first | (with_reducible first | exact HB.out | apply below_alloc | apply pw_below_drewN | apply below_drew1) | exact HB.out)))); have n1_ := Aside0.mk (below_step (by repeat (first | (with_reducible first | exact HB.out | apply below_alloc | apply pw_below_drewN | apply below_drew1) | exact HB.out)) hb); clear HB; have HO374 := n0_; have HB := n1_; clear n0_ n1_; (try clear hb); (try clear hb2); (try clear hk); (try clear hi); (try clear ho0)) | ((with_reducible refine gate_dst (N := 13) rfl ?_); (try (refine gate_guard (by rfl) ?_; dsimp only)); refine box_event ?hg (N := 13) ?hd (cs := #[.int .i64 0, .string (⟨#[]⟩ : ByteArray), .string (⟨#[]⟩ : ByteArray), .slice none 0 0, .bool false]) (t := 27) ?hr ?_; (case hd => rfl); (case hg => rfl); (case hr => first | (go_simp; done) | (go_simp; rfl)); intro gb378 hg w49 hbox hb; have n0_ := Aside0.mk (Kd.R_below (by (with_reducible repeat (first | apply Kd.R_alloc | apply Kd.R_drewN | apply Kd.R_drew)); exact HO374.out) hb); have n1_ := Aside0.mk (below_step (by repeat (first | (with_reducible first | exact HB.out | apply below_alloc | apply pw_below_drewN | apply below_drew1) | exact HB.out)) hb); have n2_ := Aside0.mk (hbox); have n3_ := Aside0.mk ((by rw [hg]; exact (below_size (by repeat (first | (with_reducible first | exact HB.out | apply below_alloc | apply pw_below_drewN | apply below_drew1) | exact HB.out))) : w.heap.size ≤ gb378)); have n4_ := Aside0.mk ((by rw [hg]; exact (below_size (by repeat (first | (with_reducible first | exact HB.out | apply below_alloc | apply pw_below_drewN | apply below_drew1) | exact HB.out))) : w.heap.size ≤ gb378)); clear HO374; clear HB; have HO374 := n0_; have HB := n1_; have BK378 := n2_; have GW378 := n3_; have GE378 := n4_; clear n0_ n1_ n2_ n3_ n4_; clear hb hbox hg; have hcz50_0 : w49.cell? ⟨gb378, 0, none⟩ = some (.int .i64 0) := (blk_cell BK378.out 0).trans rfl; have hcz50_1 : w49.cell? ⟨gb378, 1, none⟩ = some (.string (⟨#[]⟩ : ByteArray)) := (blk_cell BK378.out 1).trans rfl; have hcz50_2 : w49.cell? ⟨gb378, 2, none⟩ = some (.string (⟨#[]⟩ : ByteArray)) := (blk_cell BK378.out 2).trans rfl; have hcz50_3 : w49.cell? ⟨gb378, 3, none⟩ = some (.slice none 0 0) := (blk_cell BK378.out 3).trans rfl; have hcz50_4 : w49.cell? ⟨gb378, 4, none⟩ = some (.bool false) := (blk_cell BK378.out 4).trans rfl; have hfz50_0 := blk_frozen BK378.out 0; have hfz50_1 := blk_frozen BK378.out 1; have hfz50_2 := blk_frozen BK378.out 2; have hfz50_3 := blk_frozen BK378.out 3; have hfz50_4 := blk_frozen BK378.out 4; obtain ⟨Ao51, co51, eo51⟩ := Kd.R_slice HO374.out; subst eo51) | (go_at_call 14; (with_reducible refine (brackenlaw10_told.calls k3  true _ (Env.below HE.out (by repeat (first | (with_reducible first | exact HB.out | apply below_alloc | apply pw_below_drewN | apply below_drew1 | refine below_set ?_ GE378.out) | exact HB.out))) hidTrue A37.out).mono ?_); rintro e w52 ⟨rfl, hb⟩; have n0_ := Aside0.mk (Kd.R_below (by (with_reducible repeat (first | apply Kd.R_alloc | apply Kd.R_drewN | apply Kd.R_drew)); exact (Kd.R_mono (Kd.R_far (p := ⟨gb378, 4, none⟩) (Kd.R_far (p := ⟨gb378, 3, none⟩) (Kd.R_far (p := ⟨gb378, 2, none⟩) (Kd.R_far (p := ⟨gb378, 1, none⟩) (Kd.R_far (p := ⟨gb378, 0, none⟩) (Kd.R_types HO374.out BK378.out (by decide)) (fun _ hk => hk.2) (.int .i64 t369)) (fun _ hk => hk.2) (.string t370)) (fun _ hk => hk.2) (.string t371)) (fun _ hk => hk.2) (.slice Ao51 t372.length co51)) (fun _ hk => hk.2) (.bool t375)) (fun _ h_ => h_.1))) hb); have n1_ := Aside0.mk (blk_below (g := gb378) (o := .cells #[.int .i64 t369, .string t370, .string t371, .slice Ao51 t372.length co51, .bool t375] 27 (0, 0)) (by (with_reducible repeat (first | refine blk_drewN ?_ _ | refine blk_drew ?_ | refine blk_alloc ?_ _)); refine blk_put (cs := #[.int .i64 t369, .string t370, .string t371, .slice Ao51 t372.length co51, .bool false]) ?_ 4 _ rfl; (with_reducible repeat (first | refine blk_drewN ?_ _ | refine blk_drew ?_ | refine blk_alloc ?_ _)); refine blk_put (cs := #[.int .i64 t369, .string t370, .string t371, .slice none 0 0, .bool false]) ?_ 3 _ rfl; (with_reducible repeat (first | refine blk_drewN ?_ _ | refine blk_drew ?_ | refine blk_alloc ?_ _)); refine blk_put (cs := #[.int .i64 t369, .string t370, .string (⟨#[]⟩ : ByteArray), .slice none 0 0, .bool false]) ?_ 2 _ rfl; (with_reducible repeat (first | refine blk_drewN ?_ _ | refine blk_drew ?_ | refine blk_alloc ?_ _)); refine blk_put (cs := #[.int .i64 t369, .string (⟨#[]⟩ : ByteArray), .string (⟨#[]⟩ : ByteArray), .slice none 0 0, .bool false]) ?_ 1 _ rfl; (with_reducible repeat (first | refine blk_drewN ?_ _ | refine blk_drew ?_ | refine blk_alloc ?_ _)); refine blk_put (cs := #[.int .i64 0, .string (⟨#[]⟩ : ByteArray), .string (⟨#[]⟩ : ByteArray), .slice none 0 0, .bool false]) ?_ 0 _ rfl; (with_reducible repeat (first | refine blk_drewN ?_ _ | refine blk_drew ?_ | refine blk_alloc ?_ _)); exact BK378.out) hb); have n2_ := Aside0.mk (below_step (by repeat (first | (with_reducible first | exact HB.out | apply below_alloc | apply pw_below_drewN | apply below_drew1 | refine below_set ?_ GE378.out) | exact HB.out)) hb); clear HO374; clear BK378; clear HB; have HO374 := n0_; have BK378 := n1_; have HB := n2_; clear n0_ n1_ n2_; (try clear hb); (try clear hb2); (try clear hk); (try clear hi); have hcz53_0 : w52.cell? ⟨gb378, 0, none⟩ = some (.int .i64 t369) := (blk_cell BK378.out 0).trans rfl; have hcz53_1 : w52.cell? ⟨gb378, 1, none⟩ = some (.string t370) := (blk_cell BK378.out 1).trans rfl; have hcz53_2 : w52.cell? ⟨gb378, 2, none⟩ = some (.string t371) := (blk_cell BK378.out 2).trans rfl; have hcz53_3 : w52.cell? ⟨gb378, 3, none⟩ = some (.slice Ao51 t372.length co51) := (blk_cell BK378.out 3).trans rfl; have hcz53_4 : w52.cell? ⟨gb378, 4, none⟩ = some (.bool t375) := (blk_cell BK378.out 4).trans rfl; have hfz53_0 := blk_frozen BK378.out 0; have hfz53_1 := blk_frozen BK378.out 1; have hfz53_2 := blk_frozen BK378.out 2; have hfz53_3 := blk_frozen BK378.out 3; have hfz53_4 := blk_frozen BK378.out 4))
                                                go_ret
                                                exact ⟨by first | rfl | (simp [errW_none, errW_some] <;> rfl) | (simp [*, errW_none, errW_some] <;> rfl), by repeat (first | (with_reducible first | exact HB.out | apply below_alloc | apply pw_below_drewN | apply below_drew1 | refine below_set ?_ GE378.out) | exact HB.out)⟩
                                              · rw [if_neg c45] at H
                                                have c45b0 : (t369 == 7) = false := beq_eq_false_iff_ne.mpr c45
                                                have c45b1 : (t369 != 7) = true := bne_iff_ne.mpr c45
                                                exact absurd ((Option.some.inj H).trans hTrue.out) (by decide)
                                            · rw [if_neg c44] at H
                                              have c44b0 : (t376 == (wrap64 ((x3_2.size : Int) + 3))) = false := beq_eq_false_iff_ne.mpr c44
                                              have c44b1 : (t376 != (wrap64 ((x3_2.size : Int) + 3))) = true := bne_iff_ne.mpr c44
                                              try (have c44b2 : (t376 == ((x3_2.size : Int) + 3)) = false := by rw [← c44b0]; congr 1; unfold wrap64; omega)
                                              try (have c44b3 : (t376 != ((x3_2.size : Int) + 3)) = true := by rw [← c44b1]; congr 1; unfold wrap64; omega)
                                              exact absurd ((Option.some.inj H).trans hTrue.out) (by decide)
                                          · rw [if_neg c43] at H
                                            have c43b0 : (t377 == 0) = false := beq_eq_false_iff_ne.mpr c43
                                            have c43b1 : (t377 != 0) = true := bne_iff_ne.mpr c43
                                            exact absurd ((Option.some.inj H).trans hTrue.out) (by decide)
                                        · rw [if_neg c42] at H
                                          have c42b0 : (t367 == x5_1) = false := beq_eq_false_iff_ne.mpr c42
                                          have c42b1 : (t367 != x5_1) = true := bne_iff_ne.mpr c42
                                          exact absurd ((Option.some.inj H).trans hTrue.out) (by decide)
                                      · rw [if_neg c41] at H
                                        have c41b0 : (t365 == x5_1) = false := beq_eq_false_iff_ne.mpr c41
                                        have c41b1 : (t365 != x5_1) = true := bne_iff_ne.mpr c41
                                        exact absurd ((Option.some.inj H).trans hTrue.out) (by decide)
                                    · replace c40 := Bool.eq_false_iff.mpr c40
                                      subst c40
                                      have H1 : (some false) = some r := by rw [if_neg (show ¬ (false = true) by decide)] at H; exact H
                                      clear H
                                      have H := H1
                                      clear H1
                                      exact absurd ((Option.some.inj H).trans hTrue.out) (by decide)
                                  · replace c39 := Bool.eq_false_iff.mpr c39
                                    subst c39
                                    have H1 : (some false) = some r := by rw [if_neg (show ¬ (false = true) by decide)] at H; exact H
                                    clear H
                                    have H := H1
                                    clear H1
                                    exact absurd ((Option.some.inj H).trans hTrue.out) (by decide)
                                · replace c38 := Bool.eq_false_iff.mpr c38
                                  subst c38
                                  have H1 : (some false) = some r := by rw [if_neg (show ¬ (false = true) by decide)] at H; exact H
                                  clear H
                                  have H := H1
                                  clear H1
                                  exact absurd ((Option.some.inj H).trans hTrue.out) (by decide)
                              · replace c36 := Bool.eq_false_iff.mpr c36
                                subst c36
                                have H1 : ((brackenlaw10_told.f k3).bind fun t380 => (if t380 = true then (if t366 = true then (some false) else (if t368 = true then (some false) else (some (t377 == 2)))) else (some false))) = some r := by rw [if_neg (show ¬ (false = true) by decide)] at H; exact H
                                clear H
                                have H := H1
                                clear H1
                                replace H := Option.bind_eq_some_iff.mp H
                                obtain ⟨t380, A540, H⟩ := H
                                replace H : (if t380 = true then (if t366 = true then (some false) else (if t368 = true then (some false) else (some (t377 == 2)))) else (some false)) = some r := H
                                have A54 := Aside0.mk A540
                                clear A540
                                by_cases c55 : t380 = true
                                · subst c55
                                  have H1 : (if t366 = true then (some false) else (if t368 = true then (some false) else (some (t377 == 2)))) = some r := by rw [if_pos rfl] at H; exact H
                                  clear H
                                  have H := H1
                                  clear H1
                                  by_cases c56 : t366 = true
                                  · subst c56
                                    have H1 : (some false) = some r := by rw [if_pos rfl] at H; exact H
                                    clear H
                                    have H := H1
                                    clear H1
                                    exact absurd ((Option.some.inj H).trans hTrue.out) (by decide)
                                  · replace c56 := Bool.eq_false_iff.mpr c56
                                    subst c56
                                    have H1 : (if t368 = true then (some false) else (some (t377 == 2))) = some r := by rw [if_neg (show ¬ (false = true) by decide)] at H; exact H
                                    clear H
                                    have H := H1
                                    clear H1
                                    by_cases c57 : t368 = true
                                    · subst c57
                                      have H1 : (some false) = some r := by rw [if_pos rfl] at H; exact H
                                      clear H
                                      have H := H1
                                      clear H1
                                      exact absurd ((Option.some.inj H).trans hTrue.out) (by decide)
                                    · replace c57 := Bool.eq_false_iff.mpr c57
                                      subst c57
                                      have H1 : (some (t377 == 2)) = some r := by rw [if_neg (show ¬ (false = true) by decide)] at H; exact H
                                      clear H
                                      have H := H1
                                      clear H1
                                      obtain rfl := Option.some.inj H
                                      go_wp2_with (first | ((with_reducible refine gate_callee (f := 17) rfl ?_); refine goesL_ (some 62) rfl rfl Tryd.func17 (by kernel_rfl) rfl #[.string (((⟨#[38, 35]⟩ : ByteArray) ++ x3_2) ++ (⟨#[59]⟩ : ByteArray))] rfl (by (try simp only [List.map_toArray, List.map_cons, List.map_nil]); first | done | rfl | (simp only [List.length_drop, List.length_take]; rfl)) ?_; (with_reducible refine (token_CharRef.calls (((⟨#[38, 35]⟩ : ByteArray) ++ x3_2) ++ (⟨#[59]⟩ : ByteArray)) t365 false _ (Env.below HE.out (by repeat (first | (with_reducible first | exact HB.out | apply below_alloc | apply pw_below_drewN | apply below_drew1) | exact HB.out))) A31.out).mono ?_); rintro e w58 ⟨rfl, hb⟩; refine ⟨_, rfl, ?_⟩; have n0_ := Aside0.mk (below_step (by repeat (first | (with_reducible first | exact HB.out | apply below_alloc | apply pw_below_drewN | apply below_drew1) | exact HB.out)) hb); clear HB; have HB := n0_; clear n0_; (try clear hb); (try clear hb2); (try clear hk); (try clear hi)) | ((with_reducible refine gate_callee (f := 17) rfl ?_); refine goesL_ (some 69) rfl rfl Tryd.func17 (by kernel_rfl) rfl #[.string (((⟨#[38, 35, 120, 48, 48]⟩ : ByteArray) ++ x4_3) ++ (⟨#[59]⟩ : ByteArray))] rfl (by (try simp only [List.map_toArray, List.map_cons, List.map_nil]); first | done | rfl | (simp only [List.length_drop, List.length_take]; rfl)) ?_; (with_reducible refine (token_CharRef.calls (((⟨#[38, 35, 120, 48, 48]⟩ : ByteArray) ++ x4_3) ++ (⟨#[59]⟩ : ByteArray)) t367 false _ (Env.below HE.out (by repeat (first | (with_reducible first | exact HB.out | apply below_alloc | apply pw_below_drewN | apply below_drew1) | exact HB.out))) A34.out).mono ?_); rintro e w59 ⟨rfl, hb⟩; refine ⟨_, rfl, ?_⟩; have n0_ := Aside0.mk (below_step (by repeat (first | (with_reducible first | exact HB.out | apply below_alloc | apply pw_below_drewN | apply below_drew1) | exact HB.out)) hb); clear HB; have HB := n0_; clear n0_; (try clear hb); (try clear hb2); (try clear hk); (try clear hi)) | ((with_reducible refine gate_callee (f := 15) rfl ?_); refine goesL_ (some 76) rfl rfl Tryd.func15 (by kernel_rfl) rfl #[.string (((⟨#[38, 35]⟩ : ByteArray) ++ x3_2) ++ (⟨#[59]⟩ : ByteArray)), .int .i64 0] rfl (by (try simp only [List.map_toArray, List.map_cons, List.map_nil]); first | done | rfl | (simp only [List.length_drop, List.length_take]; rfl)) ?_; (with_reducible refine (token_Next.calls k3 (((⟨#[38, 35]⟩ : ByteArray) ++ x3_2) ++ (⟨#[59]⟩ : ByteArray)) 0 t369 t370 t371 t372 t375 t376 t377 _ (Env.below HE.out (by repeat (first | (with_reducible first | exact HB.out | apply below_alloc | apply pw_below_drewN | apply below_drew1) | exact HB.out))) A35.out).mono ?_); rintro e w60 ⟨v373, rfl, ho0, hb⟩; refine ⟨_, rfl, ?_⟩; have n0_ := Aside0.mk (Kd.R_lower ho0 (below_size (by repeat (first | (with_reducible first | exact HB.out | apply below_alloc | apply pw_below_drewN | apply below_drew1) | exact HB.out)))); have n1_ := Aside0.mk (below_step (by repeat (first | (with_reducible first | exact HB.out | apply below_alloc | apply pw_below_drewN | apply below_drew1) | exact HB.out)) hb); clear HB; have HO374 := n0_; have HB := n1_; clear n0_ n1_; (try clear hb); (try clear hb2); (try clear hk); (try clear hi); (try clear ho0)) | ((with_reducible refine gate_dst (N := 13) rfl ?_); (try (refine gate_guard (by rfl) ?_; dsimp only)); refine box_event ?hg (N := 13) ?hd (cs := #[.int .i64 0, .string (⟨#[]⟩ : ByteArray), .string (⟨#[]⟩ : ByteArray), .slice none 0 0, .bool false]) (t := 27) ?hr ?_; (case hd => rfl); (case hg => rfl); (case hr => first | (go_simp; done) | (go_simp; rfl)); intro gb378 hg w61 hbox hb; have n0_ := Aside0.mk (Kd.R_below (by (with_reducible repeat (first | apply Kd.R_alloc | apply Kd.R_drewN | apply Kd.R_drew)); exact HO374.out) hb); have n1_ := Aside0.mk (below_step (by repeat (first | (with_reducible first | exact HB.out | apply below_alloc | apply pw_below_drewN | apply below_drew1) | exact HB.out)) hb); have n2_ := Aside0.mk (hbox); have n3_ := Aside0.mk ((by rw [hg]; exact (below_size (by repeat (first | (with_reducible first | exact HB.out | apply below_alloc | apply pw_below_drewN | apply below_drew1) | exact HB.out))) : w.heap.size ≤ gb378)); have n4_ := Aside0.mk ((by rw [hg]; exact (below_size (by repeat (first | (with_reducible first | exact HB.out | apply below_alloc | apply pw_below_drewN | apply below_drew1) | exact HB.out))) : w.heap.size ≤ gb378)); clear HO374; clear HB; have HO374 := n0_; have HB := n1_; have BK378 := n2_; have GW378 := n3_; have GE378 := n4_; clear n0_ n1_ n2_ n3_ n4_; clear hb hbox hg; have hcz62_0 : w61.cell? ⟨gb378, 0, none⟩ = some (.int .i64 0) := (blk_cell BK378.out 0).trans rfl; have hcz62_1 : w61.cell? ⟨gb378, 1, none⟩ = some (.string (⟨#[]⟩ : ByteArray)) := (blk_cell BK378.out 1).trans rfl; have hcz62_2 : w61.cell? ⟨gb378, 2, none⟩ = some (.string (⟨#[]⟩ : ByteArray)) := (blk_cell BK378.out 2).trans rfl; have hcz62_3 : w61.cell? ⟨gb378, 3, none⟩ = some (.slice none 0 0) := (blk_cell BK378.out 3).trans rfl; have hcz62_4 : w61.cell? ⟨gb378, 4, none⟩ = some (.bool false) := (blk_cell BK378.out 4).trans rfl; have hfz62_0 := blk_frozen BK378.out 0; have hfz62_1 := blk_frozen BK378.out 1; have hfz62_2 := blk_frozen BK378.out 2; have hfz62_3 := blk_frozen BK378.out 3; have hfz62_4 := blk_frozen BK378.out 4; obtain ⟨Ao63, co63, eo63⟩ := Kd.R_slice HO374.out; subst eo63) | (go_at_call 14; (with_reducible refine (brackenlaw10_told.calls k3  true _ (Env.below HE.out (by repeat (first | (with_reducible first | exact HB.out | apply below_alloc | apply pw_below_drewN | apply below_drew1 | refine below_set ?_ GE378.out) | exact HB.out))) hidTrue A54.out).mono ?_); rintro e w64 ⟨rfl, hb⟩; have n0_ := Aside0.mk (Kd.R_below (by (with_reducible repeat (first | apply Kd.R_alloc | apply Kd.R_drewN | apply Kd.R_drew)); exact (Kd.R_mono (Kd.R_far (p := ⟨gb378, 4, none⟩) (Kd.R_far (p := ⟨gb378, 3, none⟩) (Kd.R_far (p := ⟨gb378, 2, none⟩) (Kd.R_far (p := ⟨gb378, 1, none⟩) (Kd.R_far (p := ⟨gb378, 0, none⟩) (Kd.R_types HO374.out BK378.out (by decide)) (fun _ hk => hk.2) (.int .i64 t369)) (fun _ hk => hk.2) (.string t370)) (fun _ hk => hk.2) (.string t371)) (fun _ hk => hk.2) (.slice Ao63 t372.length co63)) (fun _ hk => hk.2) (.bool t375)) (fun _ h_ => h_.1))) hb); have n1_ := Aside0.mk (blk_below (g := gb378) (o := .cells #[.int .i64 t369, .string t370, .string t371, .slice Ao63 t372.length co63, .bool t375] 27 (0, 0)) (by (with_reducible repeat (first | refine blk_drewN ?_ _ | refine blk_drew ?_ | refine blk_alloc ?_ _)); refine blk_put (cs := #[.int .i64 t369, .string t370, .string t371, .slice Ao63 t372.length co63, .bool false]) ?_ 4 _ rfl; (with_reducible repeat (first | refine blk_drewN ?_ _ | refine blk_drew ?_ | refine blk_alloc ?_ _)); refine blk_put (cs := #[.int .i64 t369, .string t370, .string t371, .slice none 0 0, .bool false]) ?_ 3 _ rfl; (with_reducible repeat (first | refine blk_drewN ?_ _ | refine blk_drew ?_ | refine blk_alloc ?_ _)); refine blk_put (cs := #[.int .i64 t369, .string t370, .string (⟨#[]⟩ : ByteArray), .slice none 0 0, .bool false]) ?_ 2 _ rfl; (with_reducible repeat (first | refine blk_drewN ?_ _ | refine blk_drew ?_ | refine blk_alloc ?_ _)); refine blk_put (cs := #[.int .i64 t369, .string (⟨#[]⟩ : ByteArray), .string (⟨#[]⟩ : ByteArray), .slice none 0 0, .bool false]) ?_ 1 _ rfl; (with_reducible repeat (first | refine blk_drewN ?_ _ | refine blk_drew ?_ | refine blk_alloc ?_ _)); refine blk_put (cs := #[.int .i64 0, .string (⟨#[]⟩ : ByteArray), .string (⟨#[]⟩ : ByteArray), .slice none 0 0, .bool false]) ?_ 0 _ rfl; (with_reducible repeat (first | refine blk_drewN ?_ _ | refine blk_drew ?_ | refine blk_alloc ?_ _)); exact BK378.out) hb); have n2_ := Aside0.mk (below_step (by repeat (first | (with_reducible first | exact HB.out | apply below_alloc | apply pw_below_drewN | apply below_drew1 | refine below_set ?_ GE378.out) | exact HB.out)) hb); clear HO374; clear BK378; clear HB; have HO374 := n0_; have BK378 := n1_; have HB := n2_; clear n0_ n1_ n2_; (try clear hb); (try clear hb2); (try clear hk); (try clear hi)))
                                      go_ret
                                      exact ⟨by first | rfl | (simp [errW_none, errW_some] <;> rfl) | (simp [*, errW_none, errW_some] <;> rfl), by repeat (first | (with_reducible first | exact HB.out | apply below_alloc | apply pw_below_drewN | apply below_drew1 | refine below_set ?_ GE378.out) | exact HB.out)⟩
                                · replace c55 := Bool.eq_false_iff.mpr c55
                                  subst c55
                                  have H1 : (some false) = some r := by rw [if_neg (show ¬ (false = true) by decide)] at H; exact H
                                  clear H
                                  have H := H1
                                  clear H1
                                  exact absurd ((Option.some.inj H).trans hTrue.out) (by decide)
                            · rw [if_neg c33] at H
                              exact absurd H (by simp)
                          · rw [if_neg c32] at H
                            exact absurd H (by simp)
                        · rw [if_neg c30] at H
                          exact absurd H (by simp)
                      · rw [if_neg c29] at H
                        exact absurd H (by simp)

/-- THE ONE PURE STATEMENT of brackenlaw10_TokenRefs: yours. -/
def brackenlaw10_TokenRefs.Pure : Prop := ∀ (a0 : Int), (Lit.int .i32 a0).wf = true → ∃ k, brackenlaw10_TokenRefs.f k a0 = some true
theorem brackenlaw10_TokenRefs.walk (P : brackenlaw10_TokenRefs.Pure) (a0 : Int) (w : World) (hE : Env w) (w0 : (Lit.int .i32 a0).wf = true) :
    Calls Tryd.prog 4 #[.int .i32 a0] w fun e w' => e = .returned (.bool true) ∧ Below w.heap.size w w' := by
  obtain ⟨k, h⟩ := P a0 w0
  refine (brackenlaw10_TokenRefs.calls k a0 true w hE hidTrue h).mono ?_
  rintro e w' ⟨rfl, hd⟩
  exact ⟨rfl, hd⟩

end Go.Proofs.YtmjdjpelhhibgaaDoor.R1
