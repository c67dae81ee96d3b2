-- written by wip/gen.py (this session's own driver of the kit's printer); Lean checks it
import Derived.Test.YtmjdjpelhhibgaaGreatDoorR1x0
import Derived.Test.YtmjdjpelhhibgaaGreatDoorR1x1
namespace Go.Proofs.YtmjdjpelhhibgaaGreatDoor.R1
open Go.RowKit Go.Proofs.YtmjdjpelhhibgaaGreatDoorW.PrintWords Go.Proofs.YtmjdjpelhhibgaaGreatDoorW.PrintLast Go.Proofs.YtmjdjpelhhibgaaGreatDoorW.PrintMore
attribute [local go_sem] max2_int min2_int max_two min_two max_three min_three max_four min_four   -- for this text's walks alone
set_option linter.unusedVariables false
set_option linter.unusedSimpArgs false

/-! ### brackenref1_Start: function 127 -/
def brackenref1_Start.f (a0 : Int) : Option (Bool) := (brackenref1_in.f a0 65 90).bind fun t108 => (if t108 = true then (some true) else ((brackenref1_in.f a0 97 122).bind fun t109 => (if t109 = true then (some true) else (if a0 = 95 then (some true) else (if a0 = 58 then (some true) else ((brackenref1_in.f a0 192 214).bind fun t110 => (if t110 = true then (some true) else ((brackenref1_in.f a0 216 246).bind fun t111 => (if t111 = true then (some true) else ((brackenref1_in.f a0 248 767).bind fun t112 => (if t112 = true then (some true) else ((brackenref1_in.f a0 880 893).bind fun t113 => (if t113 = true then (some true) else ((brackenref1_in.f a0 895 8191).bind fun t114 => (if t114 = true then (some true) else ((brackenref1_in.f a0 8204 8205).bind fun t115 => (if t115 = true then (some true) else ((brackenref1_in.f a0 8304 8591).bind fun t116 => (if t116 = true then (some true) else ((brackenref1_in.f a0 11264 12271).bind fun t117 => (if t117 = true then (some true) else ((brackenref1_in.f a0 12289 55295).bind fun t118 => (if t118 = true then (some true) else ((brackenref1_in.f a0 63744 64975).bind fun t119 => (if t119 = true then (some true) else ((brackenref1_in.f a0 65008 65533).bind fun t120 => (if t120 = true then (some true) else ((brackenref1_in.f a0 65536 983039).bind fun t121 => (some t121)))))))))))))))))))))))))))))
set_option maxHeartbeats 8000000 in
set_option maxRecDepth 100000 in
theorem brackenref1_Start.calls (a0 : Int) (r : Bool) (w : World) (h : brackenref1_Start.f a0 = some r) :
    Calls Tryz.prog 127 #[.int .i32 a0] w fun e w' => e = .returned (.bool r) ∧ Drawn0 w w' := by
  have H : ((brackenref1_in.f a0 65 90).bind fun t108 => (if t108 = true then (some true) else ((brackenref1_in.f a0 97 122).bind fun t109 => (if t109 = true then (some true) else (if a0 = 95 then (some true) else (if a0 = 58 then (some true) else ((brackenref1_in.f a0 192 214).bind fun t110 => (if t110 = true then (some true) else ((brackenref1_in.f a0 216 246).bind fun t111 => (if t111 = true then (some true) else ((brackenref1_in.f a0 248 767).bind fun t112 => (if t112 = true then (some true) else ((brackenref1_in.f a0 880 893).bind fun t113 => (if t113 = true then (some true) else ((brackenref1_in.f a0 895 8191).bind fun t114 => (if t114 = true then (some true) else ((brackenref1_in.f a0 8204 8205).bind fun t115 => (if t115 = true then (some true) else ((brackenref1_in.f a0 8304 8591).bind fun t116 => (if t116 = true then (some true) else ((brackenref1_in.f a0 11264 12271).bind fun t117 => (if t117 = true then (some true) else ((brackenref1_in.f a0 12289 55295).bind fun t118 => (if t118 = true then (some true) else ((brackenref1_in.f a0 63744 64975).bind fun t119 => (if t119 = true then (some true) else ((brackenref1_in.f a0 65008 65533).bind fun t120 => (if t120 = true then (some true) else ((brackenref1_in.f a0 65536 983039).bind fun t121 => (some t121)))))))))))))))))))))))))))))) = some r := h
  clear h
  replace H := Option.bind_eq_some_iff.mp H
  obtain ⟨t108, A20, H⟩ := H
  replace H : (if t108 = true then (some true) else ((brackenref1_in.f a0 97 122).bind fun t109 => (if t109 = true then (some true) else (if a0 = 95 then (some true) else (if a0 = 58 then (some true) else ((brackenref1_in.f a0 192 214).bind fun t110 => (if t110 = true then (some true) else ((brackenref1_in.f a0 216 246).bind fun t111 => (if t111 = true then (some true) else ((brackenref1_in.f a0 248 767).bind fun t112 => (if t112 = true then (some true) else ((brackenref1_in.f a0 880 893).bind fun t113 => (if t113 = true then (some true) else ((brackenref1_in.f a0 895 8191).bind fun t114 => (if t114 = true then (some true) else ((brackenref1_in.f a0 8204 8205).bind fun t115 => (if t115 = true then (some true) else ((brackenref1_in.f a0 8304 8591).bind fun t116 => (if t116 = true then (some true) else ((brackenref1_in.f a0 11264 12271).bind fun t117 => (if t117 = true then (some true) else ((brackenref1_in.f a0 12289 55295).bind fun t118 => (if t118 = true then (some true) else ((brackenref1_in.f a0 63744 64975).bind fun t119 => (if t119 = true then (some true) else ((brackenref1_in.f a0 65008 65533).bind fun t120 => (if t120 = true then (some true) else ((brackenref1_in.f a0 65536 983039).bind fun t121 => (some t121))))))))))))))))))))))))))))) = some r := H
  have A2 := Aside0.mk A20
  clear A20
  by_cases c3 : t108 = true
  · subst c3
    have H1 : (some true) = some r := by rw [if_pos rfl] at H; exact H
    clear H
    have H := H1
    clear H1
    obtain rfl := Option.some.inj H
    go_enter Tryz.func127, Tryz.ntmps127
    go_wp2_with (first | ((with_reducible refine gate_callee (f := 41) rfl ?_); refine goesL_ (some 4) rfl rfl Tryz.func41 (by kernel_rfl) rfl #[.int .i32 a0, .int .i32 65, .int .i32 90] rfl (by (try simp only [List.map_toArray, List.map_cons, List.map_nil]); first | done | rfl | (simp only [List.length_drop, List.length_take]; rfl)) ?_; (with_reducible refine (brackenref1_in.calls a0 65 90 true _ A2.out).mono ?_); rintro e w' ⟨rfl, ⟨nd, rfl⟩⟩; refine ⟨_, rfl, ?_⟩))
    go_ret
    exact ⟨by first | rfl | (simp; done) | (simp [*]; done), by repeat (first | exact Drawn0.refl _ | apply Drawn0.step)⟩
  · replace c3 := Bool.eq_false_iff.mpr c3
    subst c3
    have H1 : ((brackenref1_in.f a0 97 122).bind fun t109 => (if t109 = true then (some true) else (if a0 = 95 then (some true) else (if a0 = 58 then (some true) else ((brackenref1_in.f a0 192 214).bind fun t110 => (if t110 = true then (some true) else ((brackenref1_in.f a0 216 246).bind fun t111 => (if t111 = true then (some true) else ((brackenref1_in.f a0 248 767).bind fun t112 => (if t112 = true then (some true) else ((brackenref1_in.f a0 880 893).bind fun t113 => (if t113 = true then (some true) else ((brackenref1_in.f a0 895 8191).bind fun t114 => (if t114 = true then (some true) else ((brackenref1_in.f a0 8204 8205).bind fun t115 => (if t115 = true then (some true) else ((brackenref1_in.f a0 8304 8591).bind fun t116 => (if t116 = true then (some true) else ((brackenref1_in.f a0 11264 12271).bind fun t117 => (if t117 = true then (some true) else ((brackenref1_in.f a0 12289 55295).bind fun t118 => (if t118 = true then (some true) else ((brackenref1_in.f a0 63744 64975).bind fun t119 => (if t119 = true then (some true) else ((brackenref1_in.f a0 65008 65533).bind fun t120 => (if t120 = true then (some true) else ((brackenref1_in.f a0 65536 983039).bind fun t121 => (some t121)))))))))))))))))))))))))))) = some r := by rw [if_neg (show ¬ (false = true) by decide)] at H; exact H
    clear H
    have H := H1
    clear H1
    replace H := Option.bind_eq_some_iff.mp H
    obtain ⟨t109, A40, H⟩ := H
    replace H : (if t109 = true then (some true) else (if a0 = 95 then (some true) else (if a0 = 58 then (some true) else ((brackenref1_in.f a0 192 214).bind fun t110 => (if t110 = true then (some true) else ((brackenref1_in.f a0 216 246).bind fun t111 => (if t111 = true then (some true) else ((brackenref1_in.f a0 248 767).bind fun t112 => (if t112 = true then (some true) else ((brackenref1_in.f a0 880 893).bind fun t113 => (if t113 = true then (some true) else ((brackenref1_in.f a0 895 8191).bind fun t114 => (if t114 = true then (some true) else ((brackenref1_in.f a0 8204 8205).bind fun t115 => (if t115 = true then (some true) else ((brackenref1_in.f a0 8304 8591).bind fun t116 => (if t116 = true then (some true) else ((brackenref1_in.f a0 11264 12271).bind fun t117 => (if t117 = true then (some true) else ((brackenref1_in.f a0 12289 55295).bind fun t118 => (if t118 = true then (some true) else ((brackenref1_in.f a0 63744 64975).bind fun t119 => (if t119 = true then (some true) else ((brackenref1_in.f a0 65008 65533).bind fun t120 => (if t120 = true then (some true) else ((brackenref1_in.f a0 65536 983039).bind fun t121 => (some t121))))))))))))))))))))))))))) = some r := H
    have A4 := Aside0.mk A40
    clear A40
    by_cases c5 : t109 = true
    · subst c5
      have H1 : (some true) = some r := by rw [if_pos rfl] at H; exact H
      clear H
      have H := H1
      clear H1
      obtain rfl := Option.some.inj H
      go_enter Tryz.func127, Tryz.ntmps127
      go_wp2_with (first | ((with_reducible refine gate_callee (f := 41) rfl ?_); refine goesL_ (some 4) rfl rfl Tryz.func41 (by kernel_rfl) rfl #[.int .i32 a0, .int .i32 65, .int .i32 90] rfl (by (try simp only [List.map_toArray, List.map_cons, List.map_nil]); first | done | rfl | (simp only [List.length_drop, List.length_take]; rfl)) ?_; (with_reducible refine (brackenref1_in.calls a0 65 90 false _ A2.out).mono ?_); rintro e w' ⟨rfl, ⟨nd, rfl⟩⟩; refine ⟨_, rfl, ?_⟩) | (go_at_call 41; (with_reducible refine (brackenref1_in.calls a0 97 122 true _ A4.out).mono ?_); rintro e w' ⟨rfl, ⟨nd, rfl⟩⟩))
      go_ret
      exact ⟨by first | rfl | (simp; done) | (simp [*]; done), by repeat (first | exact Drawn0.refl _ | apply Drawn0.step)⟩
    · replace c5 := Bool.eq_false_iff.mpr c5
      subst c5
      have H1 : (if a0 = 95 then (some true) else (if a0 = 58 then (some true) else ((brackenref1_in.f a0 192 214).bind fun t110 => (if t110 = true then (some true) else ((brackenref1_in.f a0 216 246).bind fun t111 => (if t111 = true then (some true) else ((brackenref1_in.f a0 248 767).bind fun t112 => (if t112 = true then (some true) else ((brackenref1_in.f a0 880 893).bind fun t113 => (if t113 = true then (some true) else ((brackenref1_in.f a0 895 8191).bind fun t114 => (if t114 = true then (some true) else ((brackenref1_in.f a0 8204 8205).bind fun t115 => (if t115 = true then (some true) else ((brackenref1_in.f a0 8304 8591).bind fun t116 => (if t116 = true then (some true) else ((brackenref1_in.f a0 11264 12271).bind fun t117 => (if t117 = true then (some true) else ((brackenref1_in.f a0 12289 55295).bind fun t118 => (if t118 = true then (some true) else ((brackenref1_in.f a0 63744 64975).bind fun t119 => (if t119 = true then (some true) else ((brackenref1_in.f a0 65008 65533).bind fun t120 => (if t120 = true then (some true) else ((brackenref1_in.f a0 65536 983039).bind fun t121 => (some t121)))))))))))))))))))))))))) = some r := by rw [if_neg (show ¬ (false = true) by decide)] at H; exact H
      clear H
      have H := H1
      clear H1
      by_cases c6 : a0 = 95
      · rw [if_pos c6] at H
        have c6b0 : (a0 == 95) = true := beq_iff_eq.mpr c6
        have c6b1 : (a0 != 95) = false := bne_eq_false_iff_eq.mpr c6
        clear c6
        obtain rfl := Option.some.inj H
        go_enter Tryz.func127, Tryz.ntmps127
        go_wp2_with (first | ((with_reducible refine gate_callee (f := 41) rfl ?_); refine goesL_ (some 4) rfl rfl Tryz.func41 (by kernel_rfl) rfl #[.int .i32 a0, .int .i32 65, .int .i32 90] rfl (by (try simp only [List.map_toArray, List.map_cons, List.map_nil]); first | done | rfl | (simp only [List.length_drop, List.length_take]; rfl)) ?_; (with_reducible refine (brackenref1_in.calls a0 65 90 false _ A2.out).mono ?_); rintro e w' ⟨rfl, ⟨nd, rfl⟩⟩; refine ⟨_, rfl, ?_⟩) | (go_at_call 41; (with_reducible refine (brackenref1_in.calls a0 97 122 false _ A4.out).mono ?_); rintro e w' ⟨rfl, ⟨nd, rfl⟩⟩))
        go_ret
        exact ⟨by first | rfl | (simp; done) | (simp [*]; done), by repeat (first | exact Drawn0.refl _ | apply Drawn0.step)⟩
      · rw [if_neg c6] at H
        have c6b0 : (a0 == 95) = false := beq_eq_false_iff_ne.mpr c6
        have c6b1 : (a0 != 95) = true := bne_iff_ne.mpr c6
        by_cases c7 : a0 = 58
        · rw [if_pos c7] at H
          have c7b0 : (a0 == 58) = true := beq_iff_eq.mpr c7
          have c7b1 : (a0 != 58) = false := bne_eq_false_iff_eq.mpr c7
          clear c7
          obtain rfl := Option.some.inj H
          go_enter Tryz.func127, Tryz.ntmps127
          go_wp2_with (first | ((with_reducible refine gate_callee (f := 41) rfl ?_); refine goesL_ (some 4) rfl rfl Tryz.func41 (by kernel_rfl) rfl #[.int .i32 a0, .int .i32 65, .int .i32 90] rfl (by (try simp only [List.map_toArray, List.map_cons, List.map_nil]); first | done | rfl | (simp only [List.length_drop, List.length_take]; rfl)) ?_; (with_reducible refine (brackenref1_in.calls a0 65 90 false _ A2.out).mono ?_); rintro e w' ⟨rfl, ⟨nd, rfl⟩⟩; refine ⟨_, rfl, ?_⟩) | (go_at_call 41; (with_reducible refine (brackenref1_in.calls a0 97 122 false _ A4.out).mono ?_); rintro e w' ⟨rfl, ⟨nd, rfl⟩⟩))
          go_ret
          exact ⟨by first | rfl | (simp; done) | (simp [*]; done), by repeat (first | exact Drawn0.refl _ | apply Drawn0.step)⟩
        · rw [if_neg c7] at H
          have c7b0 : (a0 == 58) = false := beq_eq_false_iff_ne.mpr c7
          have c7b1 : (a0 != 58) = true := bne_iff_ne.mpr c7
          replace H := Option.bind_eq_some_iff.mp H
          obtain ⟨t110, A80, H⟩ := H
          replace H : (if t110 = true then (some true) else ((brackenref1_in.f a0 216 246).bind fun t111 => (if t111 = true then (some true) else ((brackenref1_in.f a0 248 767).bind fun t112 => (if t112 = true then (some true) else ((brackenref1_in.f a0 880 893).bind fun t113 => (if t113 = true then (some true) else ((brackenref1_in.f a0 895 8191).bind fun t114 => (if t114 = true then (some true) else ((brackenref1_in.f a0 8204 8205).bind fun t115 => (if t115 = true then (some true) else ((brackenref1_in.f a0 8304 8591).bind fun t116 => (if t116 = true then (some true) else ((brackenref1_in.f a0 11264 12271).bind fun t117 => (if t117 = true then (some true) else ((brackenref1_in.f a0 12289 55295).bind fun t118 => (if t118 = true then (some true) else ((brackenref1_in.f a0 63744 64975).bind fun t119 => (if t119 = true then (some true) else ((brackenref1_in.f a0 65008 65533).bind fun t120 => (if t120 = true then (some true) else ((brackenref1_in.f a0 65536 983039).bind fun t121 => (some t121))))))))))))))))))))))) = some r := H
          have A8 := Aside0.mk A80
          clear A80
          by_cases c9 : t110 = true
          · subst c9
            have H1 : (some true) = some r := by rw [if_pos rfl] at H; exact H
            clear H
            have H := H1
            clear H1
            obtain rfl := Option.some.inj H
            go_enter Tryz.func127, Tryz.ntmps127
            go_wp2_with (first | ((with_reducible refine gate_callee (f := 41) rfl ?_); refine goesL_ (some 4) rfl rfl Tryz.func41 (by kernel_rfl) rfl #[.int .i32 a0, .int .i32 65, .int .i32 90] rfl (by (try simp only [List.map_toArray, List.map_cons, List.map_nil]); first | done | rfl | (simp only [List.length_drop, List.length_take]; rfl)) ?_; (with_reducible refine (brackenref1_in.calls a0 65 90 false _ A2.out).mono ?_); rintro e w' ⟨rfl, ⟨nd, rfl⟩⟩; refine ⟨_, rfl, ?_⟩) | (go_at_call 41; (with_reducible refine (brackenref1_in.calls a0 97 122 false _ A4.out).mono ?_); rintro e w' ⟨rfl, ⟨nd, rfl⟩⟩) | (go_at_call 41; (with_reducible refine (brackenref1_in.calls a0 192 214 true _ A8.out).mono ?_); rintro e w' ⟨rfl, ⟨nd, rfl⟩⟩))
            go_ret
            exact ⟨by first | rfl | (simp; done) | (simp [*]; done), by repeat (first | exact Drawn0.refl _ | apply Drawn0.step)⟩
          · replace c9 := Bool.eq_false_iff.mpr c9
            subst c9
            have H1 : ((brackenref1_in.f a0 216 246).bind fun t111 => (if t111 = true then (some true) else ((brackenref1_in.f a0 248 767).bind fun t112 => (if t112 = true then (some true) else ((brackenref1_in.f a0 880 893).bind fun t113 => (if t113 = true then (some true) else ((brackenref1_in.f a0 895 8191).bind fun t114 => (if t114 = true then (some true) else ((brackenref1_in.f a0 8204 8205).bind fun t115 => (if t115 = true then (some true) else ((brackenref1_in.f a0 8304 8591).bind fun t116 => (if t116 = true then (some true) else ((brackenref1_in.f a0 11264 12271).bind fun t117 => (if t117 = true then (some true) else ((brackenref1_in.f a0 12289 55295).bind fun t118 => (if t118 = true then (some true) else ((brackenref1_in.f a0 63744 64975).bind fun t119 => (if t119 = true then (some true) else ((brackenref1_in.f a0 65008 65533).bind fun t120 => (if t120 = true then (some true) else ((brackenref1_in.f a0 65536 983039).bind fun t121 => (some t121)))))))))))))))))))))) = some r := by rw [if_neg (show ¬ (false = true) by decide)] at H; exact H
            clear H
            have H := H1
            clear H1
            replace H := Option.bind_eq_some_iff.mp H
            obtain ⟨t111, A100, H⟩ := H
            replace H : (if t111 = true then (some true) else ((brackenref1_in.f a0 248 767).bind fun t112 => (if t112 = true then (some true) else ((brackenref1_in.f a0 880 893).bind fun t113 => (if t113 = true then (some true) else ((brackenref1_in.f a0 895 8191).bind fun t114 => (if t114 = true then (some true) else ((brackenref1_in.f a0 8204 8205).bind fun t115 => (if t115 = true then (some true) else ((brackenref1_in.f a0 8304 8591).bind fun t116 => (if t116 = true then (some true) else ((brackenref1_in.f a0 11264 12271).bind fun t117 => (if t117 = true then (some true) else ((brackenref1_in.f a0 12289 55295).bind fun t118 => (if t118 = true then (some true) else ((brackenref1_in.f a0 63744 64975).bind fun t119 => (if t119 = true then (some true) else ((brackenref1_in.f a0 65008 65533).bind fun t120 => (if t120 = true then (some true) else ((brackenref1_in.f a0 65536 983039).bind fun t121 => (some t121))))))))))))))))))))) = some r := H
            have A10 := Aside0.mk A100
            clear A100
            by_cases c11 : t111 = true
            · subst c11
              have H1 : (some true) = some r := by rw [if_pos rfl] at H; exact H
              clear H
              have H := H1
              clear H1
              obtain rfl := Option.some.inj H
              go_enter Tryz.func127, Tryz.ntmps127
              go_wp2_with (first | ((with_reducible refine gate_callee (f := 41) rfl ?_); refine goesL_ (some 4) rfl rfl Tryz.func41 (by kernel_rfl) rfl #[.int .i32 a0, .int .i32 65, .int .i32 90] rfl (by (try simp only [List.map_toArray, List.map_cons, List.map_nil]); first | done | rfl | (simp only [List.length_drop, List.length_take]; rfl)) ?_; (with_reducible refine (brackenref1_in.calls a0 65 90 false _ A2.out).mono ?_); rintro e w' ⟨rfl, ⟨nd, rfl⟩⟩; refine ⟨_, rfl, ?_⟩) | (go_at_call 41; (with_reducible refine (brackenref1_in.calls a0 97 122 false _ A4.out).mono ?_); rintro e w' ⟨rfl, ⟨nd, rfl⟩⟩) | (go_at_call 41; (with_reducible refine (brackenref1_in.calls a0 192 214 false _ A8.out).mono ?_); rintro e w' ⟨rfl, ⟨nd, rfl⟩⟩) | (go_at_call 41; (with_reducible refine (brackenref1_in.calls a0 216 246 true _ A10.out).mono ?_); rintro e w' ⟨rfl, ⟨nd, rfl⟩⟩))
              go_ret
              exact ⟨by first | rfl | (simp; done) | (simp [*]; done), by repeat (first | exact Drawn0.refl _ | apply Drawn0.step)⟩
            · replace c11 := Bool.eq_false_iff.mpr c11
              subst c11
              have H1 : ((brackenref1_in.f a0 248 767).bind fun t112 => (if t112 = true then (some true) else ((brackenref1_in.f a0 880 893).bind fun t113 => (if t113 = true then (some true) else ((brackenref1_in.f a0 895 8191).bind fun t114 => (if t114 = true then (some true) else ((brackenref1_in.f a0 8204 8205).bind fun t115 => (if t115 = true then (some true) else ((brackenref1_in.f a0 8304 8591).bind fun t116 => (if t116 = true then (some true) else ((brackenref1_in.f a0 11264 12271).bind fun t117 => (if t117 = true then (some true) else ((brackenref1_in.f a0 12289 55295).bind fun t118 => (if t118 = true then (some true) else ((brackenref1_in.f a0 63744 64975).bind fun t119 => (if t119 = true then (some true) else ((brackenref1_in.f a0 65008 65533).bind fun t120 => (if t120 = true then (some true) else ((brackenref1_in.f a0 65536 983039).bind fun t121 => (some t121)))))))))))))))))))) = some r := by rw [if_neg (show ¬ (false = true) by decide)] at H; exact H
              clear H
              have H := H1
              clear H1
              replace H := Option.bind_eq_some_iff.mp H
              obtain ⟨t112, A120, H⟩ := H
              replace H : (if t112 = true then (some true) else ((brackenref1_in.f a0 880 893).bind fun t113 => (if t113 = true then (some true) else ((brackenref1_in.f a0 895 8191).bind fun t114 => (if t114 = true then (some true) else ((brackenref1_in.f a0 8204 8205).bind fun t115 => (if t115 = true then (some true) else ((brackenref1_in.f a0 8304 8591).bind fun t116 => (if t116 = true then (some true) else ((brackenref1_in.f a0 11264 12271).bind fun t117 => (if t117 = true then (some true) else ((brackenref1_in.f a0 12289 55295).bind fun t118 => (if t118 = true then (some true) else ((brackenref1_in.f a0 63744 64975).bind fun t119 => (if t119 = true then (some true) else ((brackenref1_in.f a0 65008 65533).bind fun t120 => (if t120 = true then (some true) else ((brackenref1_in.f a0 65536 983039).bind fun t121 => (some t121))))))))))))))))))) = some r := H
              have A12 := Aside0.mk A120
              clear A120
              by_cases c13 : t112 = true
              · subst c13
                have H1 : (some true) = some r := by rw [if_pos rfl] at H; exact H
                clear H
                have H := H1
                clear H1
                obtain rfl := Option.some.inj H
                go_enter Tryz.func127, Tryz.ntmps127
                go_wp2_with (first | ((with_reducible refine gate_callee (f := 41) rfl ?_); refine goesL_ (some 4) rfl rfl Tryz.func41 (by kernel_rfl) rfl #[.int .i32 a0, .int .i32 65, .int .i32 90] rfl (by (try simp only [List.map_toArray, List.map_cons, List.map_nil]); first | done | rfl | (simp only [List.length_drop, List.length_take]; rfl)) ?_; (with_reducible refine (brackenref1_in.calls a0 65 90 false _ A2.out).mono ?_); rintro e w' ⟨rfl, ⟨nd, rfl⟩⟩; refine ⟨_, rfl, ?_⟩) | (go_at_call 41; (with_reducible refine (brackenref1_in.calls a0 97 122 false _ A4.out).mono ?_); rintro e w' ⟨rfl, ⟨nd, rfl⟩⟩) | (go_at_call 41; (with_reducible refine (brackenref1_in.calls a0 192 214 false _ A8.out).mono ?_); rintro e w' ⟨rfl, ⟨nd, rfl⟩⟩) | (go_at_call 41; (with_reducible refine (brackenref1_in.calls a0 216 246 false _ A10.out).mono ?_); rintro e w' ⟨rfl, ⟨nd, rfl⟩⟩) | (go_at_call 41; (with_reducible refine (brackenref1_in.calls a0 248 767 true _ A12.out).mono ?_); rintro e w' ⟨rfl, ⟨nd, rfl⟩⟩))
                go_ret
                exact ⟨by first | rfl | (simp; done) | (simp [*]; done), by repeat (first | exact Drawn0.refl _ | apply Drawn0.step)⟩
              · replace c13 := Bool.eq_false_iff.mpr c13
                subst c13
                have H1 : ((brackenref1_in.f a0 880 893).bind fun t113 => (if t113 = true then (some true) else ((brackenref1_in.f a0 895 8191).bind fun t114 => (if t114 = true then (some true) else ((brackenref1_in.f a0 8204 8205).bind fun t115 => (if t115 = true then (some true) else ((brackenref1_in.f a0 8304 8591).bind fun t116 => (if t116 = true then (some true) else ((brackenref1_in.f a0 11264 12271).bind fun t117 => (if t117 = true then (some true) else ((brackenref1_in.f a0 12289 55295).bind fun t118 => (if t118 = true then (some true) else ((brackenref1_in.f a0 63744 64975).bind fun t119 => (if t119 = true then (some true) else ((brackenref1_in.f a0 65008 65533).bind fun t120 => (if t120 = true then (some true) else ((brackenref1_in.f a0 65536 983039).bind fun t121 => (some t121)))))))))))))))))) = some r := by rw [if_neg (show ¬ (false = true) by decide)] at H; exact H
                clear H
                have H := H1
                clear H1
                replace H := Option.bind_eq_some_iff.mp H
                obtain ⟨t113, A140, H⟩ := H
                replace H : (if t113 = true then (some true) else ((brackenref1_in.f a0 895 8191).bind fun t114 => (if t114 = true then (some true) else ((brackenref1_in.f a0 8204 8205).bind fun t115 => (if t115 = true then (some true) else ((brackenref1_in.f a0 8304 8591).bind fun t116 => (if t116 = true then (some true) else ((brackenref1_in.f a0 11264 12271).bind fun t117 => (if t117 = true then (some true) else ((brackenref1_in.f a0 12289 55295).bind fun t118 => (if t118 = true then (some true) else ((brackenref1_in.f a0 63744 64975).bind fun t119 => (if t119 = true then (some true) else ((brackenref1_in.f a0 65008 65533).bind fun t120 => (if t120 = true then (some true) else ((brackenref1_in.f a0 65536 983039).bind fun t121 => (some t121))))))))))))))))) = some r := H
                have A14 := Aside0.mk A140
                clear A140
                by_cases c15 : t113 = true
                · subst c15
                  have H1 : (some true) = some r := by rw [if_pos rfl] at H; exact H
                  clear H
                  have H := H1
                  clear H1
                  obtain rfl := Option.some.inj H
                  go_enter Tryz.func127, Tryz.ntmps127
                  go_wp2_with (first | ((with_reducible refine gate_callee (f := 41) rfl ?_); refine goesL_ (some 4) rfl rfl Tryz.func41 (by kernel_rfl) rfl #[.int .i32 a0, .int .i32 65, .int .i32 90] rfl (by (try simp only [List.map_toArray, List.map_cons, List.map_nil]); first | done | rfl | (simp only [List.length_drop, List.length_take]; rfl)) ?_; (with_reducible refine (brackenref1_in.calls a0 65 90 false _ A2.out).mono ?_); rintro e w' ⟨rfl, ⟨nd, rfl⟩⟩; refine ⟨_, rfl, ?_⟩) | (go_at_call 41; (with_reducible refine (brackenref1_in.calls a0 97 122 false _ A4.out).mono ?_); rintro e w' ⟨rfl, ⟨nd, rfl⟩⟩) | (go_at_call 41; (with_reducible refine (brackenref1_in.calls a0 192 214 false _ A8.out).mono ?_); rintro e w' ⟨rfl, ⟨nd, rfl⟩⟩) | (go_at_call 41; (with_reducible refine (brackenref1_in.calls a0 216 246 false _ A10.out).mono ?_); rintro e w' ⟨rfl, ⟨nd, rfl⟩⟩) | (go_at_call 41; (with_reducible refine (brackenref1_in.calls a0 248 767 false _ A12.out).mono ?_); rintro e w' ⟨rfl, ⟨nd, rfl⟩⟩) | (go_at_call 41; (with_reducible refine (brackenref1_in.calls a0 880 893 true _ A14.out).mono ?_); rintro e w' ⟨rfl, ⟨nd, rfl⟩⟩))
                  go_ret
                  exact ⟨by first | rfl | (simp; done) | (simp [*]; done), by repeat (first | exact Drawn0.refl _ | apply Drawn0.step)⟩
                · replace c15 := Bool.eq_false_iff.mpr c15
                  subst c15
                  have H1 : ((brackenref1_in.f a0 895 8191).bind fun t114 => (if t114 = true then (some true) else ((brackenref1_in.f a0 8204 8205).bind fun t115 => (if t115 = true then (some true) else ((brackenref1_in.f a0 8304 8591).bind fun t116 => (if t116 = true then (some true) else ((brackenref1_in.f a0 11264 12271).bind fun t117 => (if t117 = true then (some true) else ((brackenref1_in.f a0 12289 55295).bind fun t118 => (if t118 = true then (some true) else ((brackenref1_in.f a0 63744 64975).bind fun t119 => (if t119 = true then (some true) else ((brackenref1_in.f a0 65008 65533).bind fun t120 => (if t120 = true then (some true) else ((brackenref1_in.f a0 65536 983039).bind fun t121 => (some t121)))))))))))))))) = some r := by rw [if_neg (show ¬ (false = true) by decide)] at H; exact H
                  clear H
                  have H := H1
                  clear H1
                  replace H := Option.bind_eq_some_iff.mp H
                  obtain ⟨t114, A160, H⟩ := H
                  replace H : (if t114 = true then (some true) else ((brackenref1_in.f a0 8204 8205).bind fun t115 => (if t115 = true then (some true) else ((brackenref1_in.f a0 8304 8591).bind fun t116 => (if t116 = true then (some true) else ((brackenref1_in.f a0 11264 12271).bind fun t117 => (if t117 = true then (some true) else ((brackenref1_in.f a0 12289 55295).bind fun t118 => (if t118 = true then (some true) else ((brackenref1_in.f a0 63744 64975).bind fun t119 => (if t119 = true then (some true) else ((brackenref1_in.f a0 65008 65533).bind fun t120 => (if t120 = true then (some true) else ((brackenref1_in.f a0 65536 983039).bind fun t121 => (some t121))))))))))))))) = some r := H
                  have A16 := Aside0.mk A160
                  clear A160
                  by_cases c17 : t114 = true
                  · subst c17
                    have H1 : (some true) = some r := by rw [if_pos rfl] at H; exact H
                    clear H
                    have H := H1
                    clear H1
                    obtain rfl := Option.some.inj H
                    go_enter Tryz.func127, Tryz.ntmps127
                    go_wp2_with (first | ((with_reducible refine gate_callee (f := 41) rfl ?_); refine goesL_ (some 4) rfl rfl Tryz.func41 (by kernel_rfl) rfl #[.int .i32 a0, .int .i32 65, .int .i32 90] rfl (by (try simp only [List.map_toArray, List.map_cons, List.map_nil]); first | done | rfl | (simp only [List.length_drop, List.length_take]; rfl)) ?_; (with_reducible refine (brackenref1_in.calls a0 65 90 false _ A2.out).mono ?_); rintro e w' ⟨rfl, ⟨nd, rfl⟩⟩; refine ⟨_, rfl, ?_⟩) | (go_at_call 41; (with_reducible refine (brackenref1_in.calls a0 97 122 false _ A4.out).mono ?_); rintro e w' ⟨rfl, ⟨nd, rfl⟩⟩) | (go_at_call 41; (with_reducible refine (brackenref1_in.calls a0 192 214 false _ A8.out).mono ?_); rintro e w' ⟨rfl, ⟨nd, rfl⟩⟩) | (go_at_call 41; (with_reducible refine (brackenref1_in.calls a0 216 246 false _ A10.out).mono ?_); rintro e w' ⟨rfl, ⟨nd, rfl⟩⟩) | (go_at_call 41; (with_reducible refine (brackenref1_in.calls a0 248 767 false _ A12.out).mono ?_); rintro e w' ⟨rfl, ⟨nd, rfl⟩⟩) | (go_at_call 41; (with_reducible refine (brackenref1_in.calls a0 880 893 false _ A14.out).mono ?_); rintro e w' ⟨rfl, ⟨nd, rfl⟩⟩) | (go_at_call 41; (with_reducible refine (brackenref1_in.calls a0 895 8191 true _ A16.out).mono ?_); rintro e w' ⟨rfl, ⟨nd, rfl⟩⟩))
                    go_ret
                    exact ⟨by first | rfl | (simp; done) | (simp [*]; done), by repeat (first | exact Drawn0.refl _ | apply Drawn0.step)⟩
                  · replace c17 := Bool.eq_false_iff.mpr c17
                    subst c17
                    have H1 : ((brackenref1_in.f a0 8204 8205).bind fun t115 => (if t115 = true then (some true) else ((brackenref1_in.f a0 8304 8591).bind fun t116 => (if t116 = true then (some true) else ((brackenref1_in.f a0 11264 12271).bind fun t117 => (if t117 = true then (some true) else ((brackenref1_in.f a0 12289 55295).bind fun t118 => (if t118 = true then (some true) else ((brackenref1_in.f a0 63744 64975).bind fun t119 => (if t119 = true then (some true) else ((brackenref1_in.f a0 65008 65533).bind fun t120 => (if t120 = true then (some true) else ((brackenref1_in.f a0 65536 983039).bind fun t121 => (some t121)))))))))))))) = some r := by rw [if_neg (show ¬ (false = true) by decide)] at H; exact H
                    clear H
                    have H := H1
                    clear H1
                    replace H := Option.bind_eq_some_iff.mp H
                    obtain ⟨t115, A180, H⟩ := H
                    replace H : (if t115 = true then (some true) else ((brackenref1_in.f a0 8304 8591).bind fun t116 => (if t116 = true then (some true) else ((brackenref1_in.f a0 11264 12271).bind fun t117 => (if t117 = true then (some true) else ((brackenref1_in.f a0 12289 55295).bind fun t118 => (if t118 = true then (some true) else ((brackenref1_in.f a0 63744 64975).bind fun t119 => (if t119 = true then (some true) else ((brackenref1_in.f a0 65008 65533).bind fun t120 => (if t120 = true then (some true) else ((brackenref1_in.f a0 65536 983039).bind fun t121 => (some t121))))))))))))) = some r := H
                    have A18 := Aside0.mk A180
                    clear A180
                    by_cases c19 : t115 = true
                    · subst c19
                      have H1 : (some true) = some r := by rw [if_pos rfl] at H; exact H
                      clear H
                      have H := H1
                      clear H1
                      obtain rfl := Option.some.inj H
                      go_enter Tryz.func127, Tryz.ntmps127
                      go_wp2_with (first | ((with_reducible refine gate_callee (f := 41) rfl ?_); refine goesL_ (some 4) rfl rfl Tryz.func41 (by kernel_rfl) rfl #[.int .i32 a0, .int .i32 65, .int .i32 90] rfl (by (try simp only [List.map_toArray, List.map_cons, List.map_nil]); first | done | rfl | (simp only [List.length_drop, List.length_take]; rfl)) ?_; (with_reducible refine (brackenref1_in.calls a0 65 90 false _ A2.out).mono ?_); rintro e w' ⟨rfl, ⟨nd, rfl⟩⟩; refine ⟨_, rfl, ?_⟩) | (go_at_call 41; (with_reducible refine (brackenref1_in.calls a0 97 122 false _ A4.out).mono ?_); rintro e w' ⟨rfl, ⟨nd, rfl⟩⟩) | (go_at_call 41; (with_reducible refine (brackenref1_in.calls a0 192 214 false _ A8.out).mono ?_); rintro e w' ⟨rfl, ⟨nd, rfl⟩⟩) | (go_at_call 41; (with_reducible refine (brackenref1_in.calls a0 216 246 false _ A10.out).mono ?_); rintro e w' ⟨rfl, ⟨nd, rfl⟩⟩) | (go_at_call 41; (with_reducible refine (brackenref1_in.calls a0 248 767 false _ A12.out).mono ?_); rintro e w' ⟨rfl, ⟨nd, rfl⟩⟩) | (go_at_call 41; (with_reducible refine (brackenref1_in.calls a0 880 893 false _ A14.out).mono ?_); rintro e w' ⟨rfl, ⟨nd, rfl⟩⟩) | (go_at_call 41; (with_reducible refine (brackenref1_in.calls a0 895 8191 false _ A16.out).mono ?_); rintro e w' ⟨rfl, ⟨nd, rfl⟩⟩) | (go_at_call 41; (with_reducible refine (brackenref1_in.calls a0 8204 8205 true _ A18.out).mono ?_); rintro e w' ⟨rfl, ⟨nd, rfl⟩⟩))
                      go_ret
                      exact ⟨by first | rfl | (simp; done) | (simp [*]; done), by repeat (first | exact Drawn0.refl _ | apply Drawn0.step)⟩
                    · replace c19 := Bool.eq_false_iff.mpr c19
                      subst c19
                      have H1 : ((brackenref1_in.f a0 8304 8591).bind fun t116 => (if t116 = true then (some true) else ((brackenref1_in.f a0 11264 12271).bind fun t117 => (if t117 = true then (some true) else ((brackenref1_in.f a0 12289 55295).bind fun t118 => (if t118 = true then (some true) else ((brackenref1_in.f a0 63744 64975).bind fun t119 => (if t119 = true then (some true) else ((brackenref1_in.f a0 65008 65533).bind fun t120 => (if t120 = true then (some true) else ((brackenref1_in.f a0 65536 983039).bind fun t121 => (some t121)))))))))))) = some r := by rw [if_neg (show ¬ (false = true) by decide)] at H; exact H
                      clear H
                      have H := H1
                      clear H1
                      replace H := Option.bind_eq_some_iff.mp H
                      obtain ⟨t116, A200, H⟩ := H
                      replace H : (if t116 = true then (some true) else ((brackenref1_in.f a0 11264 12271).bind fun t117 => (if t117 = true then (some true) else ((brackenref1_in.f a0 12289 55295).bind fun t118 => (if t118 = true then (some true) else ((brackenref1_in.f a0 63744 64975).bind fun t119 => (if t119 = true then (some true) else ((brackenref1_in.f a0 65008 65533).bind fun t120 => (if t120 = true then (some true) else ((brackenref1_in.f a0 65536 983039).bind fun t121 => (some t121))))))))))) = some r := H
                      have A20 := Aside0.mk A200
                      clear A200
                      by_cases c21 : t116 = true
                      · subst c21
                        have H1 : (some true) = some r := by rw [if_pos rfl] at H; exact H
                        clear H
                        have H := H1
                        clear H1
                        obtain rfl := Option.some.inj H
                        go_enter Tryz.func127, Tryz.ntmps127
                        go_wp2_with (first | ((with_reducible refine gate_callee (f := 41) rfl ?_); refine goesL_ (some 4) rfl rfl Tryz.func41 (by kernel_rfl) rfl #[.int .i32 a0, .int .i32 65, .int .i32 90] rfl (by (try simp only [List.map_toArray, List.map_cons, List.map_nil]); first | done | rfl | (simp only [List.length_drop, List.length_take]; rfl)) ?_; (with_reducible refine (brackenref1_in.calls a0 65 90 false _ A2.out).mono ?_); rintro e w' ⟨rfl, ⟨nd, rfl⟩⟩; refine ⟨_, rfl, ?_⟩) | (go_at_call 41; (with_reducible refine (brackenref1_in.calls a0 97 122 false _ A4.out).mono ?_); rintro e w' ⟨rfl, ⟨nd, rfl⟩⟩) | (go_at_call 41; (with_reducible refine (brackenref1_in.calls a0 192 214 false _ A8.out).mono ?_); rintro e w' ⟨rfl, ⟨nd, rfl⟩⟩) | (go_at_call 41; (with_reducible refine (brackenref1_in.calls a0 216 246 false _ A10.out).mono ?_); rintro e w' ⟨rfl, ⟨nd, rfl⟩⟩) | (go_at_call 41; (with_reducible refine (brackenref1_in.calls a0 248 767 false _ A12.out).mono ?_); rintro e w' ⟨rfl, ⟨nd, rfl⟩⟩) | (go_at_call 41; (with_reducible refine (brackenref1_in.calls a0 880 893 false _ A14.out).mono ?_); rintro e w' ⟨rfl, ⟨nd, rfl⟩⟩) | (go_at_call 41; (with_reducible refine (brackenref1_in.calls a0 895 8191 false _ A16.out).mono ?_); rintro e w' ⟨rfl, ⟨nd, rfl⟩⟩) | (go_at_call 41; (with_reducible refine (brackenref1_in.calls a0 8204 8205 false _ A18.out).mono ?_); rintro e w' ⟨rfl, ⟨nd, rfl⟩⟩) | (go_at_call 41; (with_reducible refine (brackenref1_in.calls a0 8304 8591 true _ A20.out).mono ?_); rintro e w' ⟨rfl, ⟨nd, rfl⟩⟩))
                        go_ret
                        exact ⟨by first | rfl | (simp; done) | (simp [*]; done), by repeat (first | exact Drawn0.refl _ | apply Drawn0.step)⟩
                      · replace c21 := Bool.eq_false_iff.mpr c21
                        subst c21
                        have H1 : ((brackenref1_in.f a0 11264 12271).bind fun t117 => (if t117 = true then (some true) else ((brackenref1_in.f a0 12289 55295).bind fun t118 => (if t118 = true then (some true) else ((brackenref1_in.f a0 63744 64975).bind fun t119 => (if t119 = true then (some true) else ((brackenref1_in.f a0 65008 65533).bind fun t120 => (if t120 = true then (some true) else ((brackenref1_in.f a0 65536 983039).bind fun t121 => (some t121)))))))))) = some r := by rw [if_neg (show ¬ (false = true) by decide)] at H; exact H
                        clear H
                        have H := H1
                        clear H1
                        replace H := Option.bind_eq_some_iff.mp H
                        obtain ⟨t117, A220, H⟩ := H
                        replace H : (if t117 = true then (some true) else ((brackenref1_in.f a0 12289 55295).bind fun t118 => (if t118 = true then (some true) else ((brackenref1_in.f a0 63744 64975).bind fun t119 => (if t119 = true then (some true) else ((brackenref1_in.f a0 65008 65533).bind fun t120 => (if t120 = true then (some true) else ((brackenref1_in.f a0 65536 983039).bind fun t121 => (some t121))))))))) = some r := H
                        have A22 := Aside0.mk A220
                        clear A220
                        by_cases c23 : t117 = true
                        · subst c23
                          have H1 : (some true) = some r := by rw [if_pos rfl] at H; exact H
                          clear H
                          have H := H1
                          clear H1
                          obtain rfl := Option.some.inj H
                          go_enter Tryz.func127, Tryz.ntmps127
                          go_wp2_with (first | ((with_reducible refine gate_callee (f := 41) rfl ?_); refine goesL_ (some 4) rfl rfl Tryz.func41 (by kernel_rfl) rfl #[.int .i32 a0, .int .i32 65, .int .i32 90] rfl (by (try simp only [List.map_toArray, List.map_cons, List.map_nil]); first | done | rfl | (simp only [List.length_drop, List.length_take]; rfl)) ?_; (with_reducible refine (brackenref1_in.calls a0 65 90 false _ A2.out).mono ?_); rintro e w' ⟨rfl, ⟨nd, rfl⟩⟩; refine ⟨_, rfl, ?_⟩) | (go_at_call 41; (with_reducible refine (brackenref1_in.calls a0 97 122 false _ A4.out).mono ?_); rintro e w' ⟨rfl, ⟨nd, rfl⟩⟩) | (go_at_call 41; (with_reducible refine (brackenref1_in.calls a0 192 214 false _ A8.out).mono ?_); rintro e w' ⟨rfl, ⟨nd, rfl⟩⟩) | (go_at_call 41; (with_reducible refine (brackenref1_in.calls a0 216 246 false _ A10.out).mono ?_); rintro e w' ⟨rfl, ⟨nd, rfl⟩⟩) | (go_at_call 41; (with_reducible refine (brackenref1_in.calls a0 248 767 false _ A12.out).mono ?_); rintro e w' ⟨rfl, ⟨nd, rfl⟩⟩) | (go_at_call 41; (with_reducible refine (brackenref1_in.calls a0 880 893 false _ A14.out).mono ?_); rintro e w' ⟨rfl, ⟨nd, rfl⟩⟩) | (go_at_call 41; (with_reducible refine (brackenref1_in.calls a0 895 8191 false _ A16.out).mono ?_); rintro e w' ⟨rfl, ⟨nd, rfl⟩⟩) | (go_at_call 41; (with_reducible refine (brackenref1_in.calls a0 8204 8205 false _ A18.out).mono ?_); rintro e w' ⟨rfl, ⟨nd, rfl⟩⟩) | (go_at_call 41; (with_reducible refine (brackenref1_in.calls a0 8304 8591 false _ A20.out).mono ?_); rintro e w' ⟨rfl, ⟨nd, rfl⟩⟩) | (go_at_call 41; (with_reducible refine (brackenref1_in.calls a0 11264 12271 true _ A22.out).mono ?_); rintro e w' ⟨rfl, ⟨nd, rfl⟩⟩))
                          go_ret
                          exact ⟨by first | rfl | (simp; done) | (simp [*]; done), by repeat (first | exact Drawn0.refl _ | apply Drawn0.step)⟩
                        · replace c23 := Bool.eq_false_iff.mpr c23
                          subst c23
                          have H1 : ((brackenref1_in.f a0 12289 55295).bind fun t118 => (if t118 = true then (some true) else ((brackenref1_in.f a0 63744 64975).bind fun t119 => (if t119 = true then (some true) else ((brackenref1_in.f a0 65008 65533).bind fun t120 => (if t120 = true then (some true) else ((brackenref1_in.f a0 65536 983039).bind fun t121 => (some t121)))))))) = some r := by rw [if_neg (show ¬ (false = true) by decide)] at H; exact H
                          clear H
                          have H := H1
                          clear H1
                          replace H := Option.bind_eq_some_iff.mp H
                          obtain ⟨t118, A240, H⟩ := H
                          replace H : (if t118 = true then (some true) else ((brackenref1_in.f a0 63744 64975).bind fun t119 => (if t119 = true then (some true) else ((brackenref1_in.f a0 65008 65533).bind fun t120 => (if t120 = true then (some true) else ((brackenref1_in.f a0 65536 983039).bind fun t121 => (some t121))))))) = some r := H
                          have A24 := Aside0.mk A240
                          clear A240
                          by_cases c25 : t118 = true
                          · subst c25
                            have H1 : (some true) = some r := by rw [if_pos rfl] at H; exact H
                            clear H
                            have H := H1
                            clear H1
                            obtain rfl := Option.some.inj H
                            go_enter Tryz.func127, Tryz.ntmps127
                            go_wp2_with (first | ((with_reducible refine gate_callee (f := 41) rfl ?_); refine goesL_ (some 4) rfl rfl Tryz.func41 (by kernel_rfl) rfl #[.int .i32 a0, .int .i32 65, .int .i32 90] rfl (by (try simp only [List.map_toArray, List.map_cons, List.map_nil]); first | done | rfl | (simp only [List.length_drop, List.length_take]; rfl)) ?_; (with_reducible refine (brackenref1_in.calls a0 65 90 false _ A2.out).mono ?_); rintro e w' ⟨rfl, ⟨nd, rfl⟩⟩; refine ⟨_, rfl, ?_⟩) | (go_at_call 41; (with_reducible refine (brackenref1_in.calls a0 97 122 false _ A4.out).mono ?_); rintro e w' ⟨rfl, ⟨nd, rfl⟩⟩) | (go_at_call 41; (with_reducible refine (brackenref1_in.calls a0 192 214 false _ A8.out).mono ?_); rintro e w' ⟨rfl, ⟨nd, rfl⟩⟩) | (go_at_call 41; (with_reducible refine (brackenref1_in.calls a0 216 246 false _ A10.out).mono ?_); rintro e w' ⟨rfl, ⟨nd, rfl⟩⟩) | (go_at_call 41; (with_reducible refine (brackenref1_in.calls a0 248 767 false _ A12.out).mono ?_); rintro e w' ⟨rfl, ⟨nd, rfl⟩⟩) | (go_at_call 41; (with_reducible refine (brackenref1_in.calls a0 880 893 false _ A14.out).mono ?_); rintro e w' ⟨rfl, ⟨nd, rfl⟩⟩) | (go_at_call 41; (with_reducible refine (brackenref1_in.calls a0 895 8191 false _ A16.out).mono ?_); rintro e w' ⟨rfl, ⟨nd, rfl⟩⟩) | (go_at_call 41; (with_reducible refine (brackenref1_in.calls a0 8204 8205 false _ A18.out).mono ?_); rintro e w' ⟨rfl, ⟨nd, rfl⟩⟩) | (go_at_call 41; (with_reducible refine (brackenref1_in.calls a0 8304 8591 false _ A20.out).mono ?_); rintro e w' ⟨rfl, ⟨nd, rfl⟩⟩) | (go_at_call 41; (with_reducible refine (brackenref1_in.calls a0 11264 12271 false _ A22.out).mono ?_); rintro e w' ⟨rfl, ⟨nd, rfl⟩⟩) | (go_at_call 41; (with_reducible refine (brackenref1_in.calls a0 12289 55295 true _ A24.out).mono ?_); rintro e w' ⟨rfl, ⟨nd, rfl⟩⟩))
                            go_ret
                            exact ⟨by first | rfl | (simp; done) | (simp [*]; done), by repeat (first | exact Drawn0.refl _ | apply Drawn0.step)⟩
                          · replace c25 := Bool.eq_false_iff.mpr c25
                            subst c25
                            have H1 : ((brackenref1_in.f a0 63744 64975).bind fun t119 => (if t119 = true then (some true) else ((brackenref1_in.f a0 65008 65533).bind fun t120 => (if t120 = true then (some true) else ((brackenref1_in.f a0 65536 983039).bind fun t121 => (some t121)))))) = some r := by rw [if_neg (show ¬ (false = true) by decide)] at H; exact H
                            clear H
                            have H := H1
                            clear H1
                            replace H := Option.bind_eq_some_iff.mp H
                            obtain ⟨t119, A260, H⟩ := H
                            replace H : (if t119 = true then (some true) else ((brackenref1_in.f a0 65008 65533).bind fun t120 => (if t120 = true then (some true) else ((brackenref1_in.f a0 65536 983039).bind fun t121 => (some t121))))) = some r := H
                            have A26 := Aside0.mk A260
                            clear A260
                            by_cases c27 : t119 = true
                            · subst c27
                              have H1 : (some true) = some r := by rw [if_pos rfl] at H; exact H
                              clear H
                              have H := H1
                              clear H1
                              obtain rfl := Option.some.inj H
                              go_enter Tryz.func127, Tryz.ntmps127
                              go_wp2_with (first | ((with_reducible refine gate_callee (f := 41) rfl ?_); refine goesL_ (some 4) rfl rfl Tryz.func41 (by kernel_rfl) rfl #[.int .i32 a0, .int .i32 65, .int .i32 90] rfl (by (try simp only [List.map_toArray, List.map_cons, List.map_nil]); first | done | rfl | (simp only [List.length_drop, List.length_take]; rfl)) ?_; (with_reducible refine (brackenref1_in.calls a0 65 90 false _ A2.out).mono ?_); rintro e w' ⟨rfl, ⟨nd, rfl⟩⟩; refine ⟨_, rfl, ?_⟩) | (go_at_call 41; (with_reducible refine (brackenref1_in.calls a0 97 122 false _ A4.out).mono ?_); rintro e w' ⟨rfl, ⟨nd, rfl⟩⟩) | (go_at_call 41; (with_reducible refine (brackenref1_in.calls a0 192 214 false _ A8.out).mono ?_); rintro e w' ⟨rfl, ⟨nd, rfl⟩⟩) | (go_at_call 41; (with_reducible refine (brackenref1_in.calls a0 216 246 false _ A10.out).mono ?_); rintro e w' ⟨rfl, ⟨nd, rfl⟩⟩) | (go_at_call 41; (with_reducible refine (brackenref1_in.calls a0 248 767 false _ A12.out).mono ?_); rintro e w' ⟨rfl, ⟨nd, rfl⟩⟩) | (go_at_call 41; (with_reducible refine (brackenref1_in.calls a0 880 893 false _ A14.out).mono ?_); rintro e w' ⟨rfl, ⟨nd, rfl⟩⟩) | (go_at_call 41; (with_reducible refine (brackenref1_in.calls a0 895 8191 false _ A16.out).mono ?_); rintro e w' ⟨rfl, ⟨nd, rfl⟩⟩) | (go_at_call 41; (with_reducible refine (brackenref1_in.calls a0 8204 8205 false _ A18.out).mono ?_); rintro e w' ⟨rfl, ⟨nd, rfl⟩⟩) | (go_at_call 41; (with_reducible refine (brackenref1_in.calls a0 8304 8591 false _ A20.out).mono ?_); rintro e w' ⟨rfl, ⟨nd, rfl⟩⟩) | (go_at_call 41; (with_reducible refine (brackenref1_in.calls a0 11264 12271 false _ A22.out).mono ?_); rintro e w' ⟨rfl, ⟨nd, rfl⟩⟩) | (go_at_call 41; (with_reducible refine (brackenref1_in.calls a0 12289 55295 false _ A24.out).mono ?_); rintro e w' ⟨rfl, ⟨nd, rfl⟩⟩) | (go_at_call 41; (with_reducible refine (brackenref1_in.calls a0 63744 64975 true _ A26.out).mono ?_); rintro e w' ⟨rfl, ⟨nd, rfl⟩⟩))
                              go_ret
                              exact ⟨by first | rfl | (simp; done) | (simp [*]; done), by repeat (first | exact Drawn0.refl _ | apply Drawn0.step)⟩
                            · replace c27 := Bool.eq_false_iff.mpr c27
                              subst c27
                              have H1 : ((brackenref1_in.f a0 65008 65533).bind fun t120 => (if t120 = true then (some true) else ((brackenref1_in.f a0 65536 983039).bind fun t121 => (some t121)))) = some r := by rw [if_neg (show ¬ (false = true) by decide)] at H; exact H
                              clear H
                              have H := H1
                              clear H1
                              replace H := Option.bind_eq_some_iff.mp H
                              obtain ⟨t120, A280, H⟩ := H
                              replace H : (if t120 = true then (some true) else ((brackenref1_in.f a0 65536 983039).bind fun t121 => (some t121))) = some r := H
                              have A28 := Aside0.mk A280
                              clear A280
                              by_cases c29 : t120 = true
                              · subst c29
                                have H1 : (some true) = some r := by rw [if_pos rfl] at H; exact H
                                clear H
                                have H := H1
                                clear H1
                                obtain rfl := Option.some.inj H
                                go_enter Tryz.func127, Tryz.ntmps127
                                go_wp2_with (first | ((with_reducible refine gate_callee (f := 41) rfl ?_); refine goesL_ (some 4) rfl rfl Tryz.func41 (by kernel_rfl) rfl #[.int .i32 a0, .int .i32 65, .int .i32 90] rfl (by (try simp only [List.map_toArray, List.map_cons, List.map_nil]); first | done | rfl | (simp only [List.length_drop, List.length_take]; rfl)) ?_; (with_reducible refine (brackenref1_in.calls a0 65 90 false _ A2.out).mono ?_); rintro e w' ⟨rfl, ⟨nd, rfl⟩⟩; refine ⟨_, rfl, ?_⟩) | (go_at_call 41; (with_reducible refine (brackenref1_in.calls a0 97 122 false _ A4.out).mono ?_); rintro e w' ⟨rfl, ⟨nd, rfl⟩⟩) | (go_at_call 41; (with_reducible refine (brackenref1_in.calls a0 192 214 false _ A8.out).mono ?_); rintro e w' ⟨rfl, ⟨nd, rfl⟩⟩) | (go_at_call 41; (with_reducible refine (brackenref1_in.calls a0 216 246 false _ A10.out).mono ?_); rintro e w' ⟨rfl, ⟨nd, rfl⟩⟩) | (go_at_call 41; (with_reducible refine (brackenref1_in.calls a0 248 767 false _ A12.out).mono ?_); rintro e w' ⟨rfl, ⟨nd, rfl⟩⟩) | (go_at_call 41; (with_reducible refine (brackenref1_in.calls a0 880 893 false _ A14.out).mono ?_); rintro e w' ⟨rfl, ⟨nd, rfl⟩⟩) | (go_at_call 41; (with_reducible refine (brackenref1_in.calls a0 895 8191 false _ A16.out).mono ?_); rintro e w' ⟨rfl, ⟨nd, rfl⟩⟩) | (go_at_call 41; (with_reducible refine (brackenref1_in.calls a0 8204 8205 false _ A18.out).mono ?_); rintro e w' ⟨rfl, ⟨nd, rfl⟩⟩) | (go_at_call 41; (with_reducible refine (brackenref1_in.calls a0 8304 8591 false _ A20.out).mono ?_); rintro e w' ⟨rfl, ⟨nd, rfl⟩⟩) | (go_at_call 41; (with_reducible refine (brackenref1_in.calls a0 11264 12271 false _ A22.out).mono ?_); rintro e w' ⟨rfl, ⟨nd, rfl⟩⟩) | (go_at_call 41; (with_reducible refine (brackenref1_in.calls a0 12289 55295 false _ A24.out).mono ?_); rintro e w' ⟨rfl, ⟨nd, rfl⟩⟩) | (go_at_call 41; (with_reducible refine (brackenref1_in.calls a0 63744 64975 false _ A26.out).mono ?_); rintro e w' ⟨rfl, ⟨nd, rfl⟩⟩) | (go_at_call 41; (with_reducible refine (brackenref1_in.calls a0 65008 65533 true _ A28.out).mono ?_); rintro e w' ⟨rfl, ⟨nd, rfl⟩⟩))
                                go_ret
                                exact ⟨by first | rfl | (simp; done) | (simp [*]; done), by repeat (first | exact Drawn0.refl _ | apply Drawn0.step)⟩
                              · replace c29 := Bool.eq_false_iff.mpr c29
                                subst c29
                                have H1 : ((brackenref1_in.f a0 65536 983039).bind fun t121 => (some t121)) = some r := by rw [if_neg (show ¬ (false = true) by decide)] at H; exact H
                                clear H
                                have H := H1
                                clear H1
                                replace H := Option.bind_eq_some_iff.mp H
                                obtain ⟨t121, A300, H⟩ := H
                                replace H : (some t121) = some r := H
                                have A30 := Aside0.mk A300
                                clear A300
                                obtain rfl := Option.some.inj H
                                go_enter Tryz.func127, Tryz.ntmps127
                                go_wp2_with (first | ((with_reducible refine gate_callee (f := 41) rfl ?_); refine goesL_ (some 4) rfl rfl Tryz.func41 (by kernel_rfl) rfl #[.int .i32 a0, .int .i32 65, .int .i32 90] rfl (by (try simp only [List.map_toArray, List.map_cons, List.map_nil]); first | done | rfl | (simp only [List.length_drop, List.length_take]; rfl)) ?_; (with_reducible refine (brackenref1_in.calls a0 65 90 false _ A2.out).mono ?_); rintro e w' ⟨rfl, ⟨nd, rfl⟩⟩; refine ⟨_, rfl, ?_⟩) | (go_at_call 41; (with_reducible refine (brackenref1_in.calls a0 97 122 false _ A4.out).mono ?_); rintro e w' ⟨rfl, ⟨nd, rfl⟩⟩) | (go_at_call 41; (with_reducible refine (brackenref1_in.calls a0 192 214 false _ A8.out).mono ?_); rintro e w' ⟨rfl, ⟨nd, rfl⟩⟩) | (go_at_call 41; (with_reducible refine (brackenref1_in.calls a0 216 246 false _ A10.out).mono ?_); rintro e w' ⟨rfl, ⟨nd, rfl⟩⟩) | (go_at_call 41; (with_reducible refine (brackenref1_in.calls a0 248 767 false _ A12.out).mono ?_); rintro e w' ⟨rfl, ⟨nd, rfl⟩⟩) | (go_at_call 41; (with_reducible refine (brackenref1_in.calls a0 880 893 false _ A14.out).mono ?_); rintro e w' ⟨rfl, ⟨nd, rfl⟩⟩) | (go_at_call 41; (with_reducible refine (brackenref1_in.calls a0 895 8191 false _ A16.out).mono ?_); rintro e w' ⟨rfl, ⟨nd, rfl⟩⟩) | (go_at_call 41; (with_reducible refine (brackenref1_in.calls a0 8204 8205 false _ A18.out).mono ?_); rintro e w' ⟨rfl, ⟨nd, rfl⟩⟩) | (go_at_call 41; (with_reducible refine (brackenref1_in.calls a0 8304 8591 false _ A20.out).mono ?_); rintro e w' ⟨rfl, ⟨nd, rfl⟩⟩) | (go_at_call 41; (with_reducible refine (brackenref1_in.calls a0 11264 12271 false _ A22.out).mono ?_); rintro e w' ⟨rfl, ⟨nd, rfl⟩⟩) | (go_at_call 41; (with_reducible refine (brackenref1_in.calls a0 12289 55295 false _ A24.out).mono ?_); rintro e w' ⟨rfl, ⟨nd, rfl⟩⟩) | (go_at_call 41; (with_reducible refine (brackenref1_in.calls a0 63744 64975 false _ A26.out).mono ?_); rintro e w' ⟨rfl, ⟨nd, rfl⟩⟩) | (go_at_call 41; (with_reducible refine (brackenref1_in.calls a0 65008 65533 false _ A28.out).mono ?_); rintro e w' ⟨rfl, ⟨nd, rfl⟩⟩) | (go_at_call 41; (with_reducible refine (brackenref1_in.calls a0 65536 983039 t121 _ A30.out).mono ?_); rintro e w' ⟨rfl, ⟨nd, rfl⟩⟩))
                                go_ret
                                exact ⟨by first | rfl | (simp; done) | (simp [*]; done), by repeat (first | exact Drawn0.refl _ | apply Drawn0.step)⟩

/-! ### brackenref1_Part: function 126 -/
def brackenref1_Part.f (a0 : Int) : Option (Bool) := (brackenref1_Start.f a0).bind fun t122 => (if t122 = true then (some true) else (if a0 = 45 then (some true) else (if a0 = 46 then (some true) else ((brackenref1_in.f a0 48 57).bind fun t123 => (if t123 = true then (some true) else (if a0 = 183 then (some true) else ((brackenref1_in.f a0 768 879).bind fun t124 => (if t124 = true then (some true) else ((brackenref1_in.f a0 8255 8256).bind fun t125 => (some t125))))))))))
set_option maxHeartbeats 8000000 in
set_option maxRecDepth 100000 in
theorem brackenref1_Part.calls (a0 : Int) (r : Bool) (w : World) (h : brackenref1_Part.f a0 = some r) :
    Calls Tryz.prog 126 #[.int .i32 a0] w fun e w' => e = .returned (.bool r) ∧ Drawn0 w w' := by
  have H : ((brackenref1_Start.f a0).bind fun t122 => (if t122 = true then (some true) else (if a0 = 45 then (some true) else (if a0 = 46 then (some true) else ((brackenref1_in.f a0 48 57).bind fun t123 => (if t123 = true then (some true) else (if a0 = 183 then (some true) else ((brackenref1_in.f a0 768 879).bind fun t124 => (if t124 = true then (some true) else ((brackenref1_in.f a0 8255 8256).bind fun t125 => (some t125))))))))))) = some r := h
  clear h
  replace H := Option.bind_eq_some_iff.mp H
  obtain ⟨t122, A20, H⟩ := H
  replace H : (if t122 = true then (some true) else (if a0 = 45 then (some true) else (if a0 = 46 then (some true) else ((brackenref1_in.f a0 48 57).bind fun t123 => (if t123 = true then (some true) else (if a0 = 183 then (some true) else ((brackenref1_in.f a0 768 879).bind fun t124 => (if t124 = true then (some true) else ((brackenref1_in.f a0 8255 8256).bind fun t125 => (some t125)))))))))) = some r := H
  have A2 := Aside0.mk A20
  clear A20
  by_cases c3 : t122 = true
  · subst c3
    have H1 : (some true) = some r := by rw [if_pos rfl] at H; exact H
    clear H
    have H := H1
    clear H1
    obtain rfl := Option.some.inj H
    go_enter Tryz.func126, Tryz.ntmps126
    go_wp2_with (first | ((with_reducible refine gate_callee (f := 127) rfl ?_); refine goesL_ (some 4) rfl rfl Tryz.func127 (by kernel_rfl) rfl #[.int .i32 a0] rfl (by (try simp only [List.map_toArray, List.map_cons, List.map_nil]); first | done | rfl | (simp only [List.length_drop, List.length_take]; rfl)) ?_; (with_reducible refine (brackenref1_Start.calls a0 true _ A2.out).mono ?_); rintro e w' ⟨rfl, ⟨nd, rfl⟩⟩; refine ⟨_, rfl, ?_⟩))
    go_ret
    exact ⟨by first | rfl | (simp; done) | (simp [*]; done), by repeat (first | exact Drawn0.refl _ | apply Drawn0.step)⟩
  · replace c3 := Bool.eq_false_iff.mpr c3
    subst c3
    have H1 : (if a0 = 45 then (some true) else (if a0 = 46 then (some true) else ((brackenref1_in.f a0 48 57).bind fun t123 => (if t123 = true then (some true) else (if a0 = 183 then (some true) else ((brackenref1_in.f a0 768 879).bind fun t124 => (if t124 = true then (some true) else ((brackenref1_in.f a0 8255 8256).bind fun t125 => (some t125))))))))) = some r := by rw [if_neg (show ¬ (false = true) by decide)] at H; exact H
    clear H
    have H := H1
    clear H1
    by_cases c4 : a0 = 45
    · rw [if_pos c4] at H
      have c4b0 : (a0 == 45) = true := beq_iff_eq.mpr c4
      have c4b1 : (a0 != 45) = false := bne_eq_false_iff_eq.mpr c4
      clear c4
      obtain rfl := Option.some.inj H
      go_enter Tryz.func126, Tryz.ntmps126
      go_wp2_with (first | ((with_reducible refine gate_callee (f := 127) rfl ?_); refine goesL_ (some 4) rfl rfl Tryz.func127 (by kernel_rfl) rfl #[.int .i32 a0] rfl (by (try simp only [List.map_toArray, List.map_cons, List.map_nil]); first | done | rfl | (simp only [List.length_drop, List.length_take]; rfl)) ?_; (with_reducible refine (brackenref1_Start.calls a0 false _ A2.out).mono ?_); rintro e w' ⟨rfl, ⟨nd, rfl⟩⟩; refine ⟨_, rfl, ?_⟩))
      go_ret
      exact ⟨by first | rfl | (simp; done) | (simp [*]; done), by repeat (first | exact Drawn0.refl _ | apply Drawn0.step)⟩
    · rw [if_neg c4] at H
      have c4b0 : (a0 == 45) = false := beq_eq_false_iff_ne.mpr c4
      have c4b1 : (a0 != 45) = true := bne_iff_ne.mpr c4
      by_cases c5 : a0 = 46
      · rw [if_pos c5] at H
        have c5b0 : (a0 == 46) = true := beq_iff_eq.mpr c5
        have c5b1 : (a0 != 46) = false := bne_eq_false_iff_eq.mpr c5
        clear c5
        obtain rfl := Option.some.inj H
        go_enter Tryz.func126, Tryz.ntmps126
        go_wp2_with (first | ((with_reducible refine gate_callee (f := 127) rfl ?_); refine goesL_ (some 4) rfl rfl Tryz.func127 (by kernel_rfl) rfl #[.int .i32 a0] rfl (by (try simp only [List.map_toArray, List.map_cons, List.map_nil]); first | done | rfl | (simp only [List.length_drop, List.length_take]; rfl)) ?_; (with_reducible refine (brackenref1_Start.calls a0 false _ A2.out).mono ?_); rintro e w' ⟨rfl, ⟨nd, rfl⟩⟩; refine ⟨_, rfl, ?_⟩))
        go_ret
        exact ⟨by first | rfl | (simp; done) | (simp [*]; done), by repeat (first | exact Drawn0.refl _ | apply Drawn0.step)⟩
      · rw [if_neg c5] at H
        have c5b0 : (a0 == 46) = false := beq_eq_false_iff_ne.mpr c5
        have c5b1 : (a0 != 46) = true := bne_iff_ne.mpr c5
        replace H := Option.bind_eq_some_iff.mp H
        obtain ⟨t123, A60, H⟩ := H
        replace H : (if t123 = true then (some true) else (if a0 = 183 then (some true) else ((brackenref1_in.f a0 768 879).bind fun t124 => (if t124 = true then (some true) else ((brackenref1_in.f a0 8255 8256).bind fun t125 => (some t125)))))) = some r := H
        have A6 := Aside0.mk A60
        clear A60
        by_cases c7 : t123 = true
        · subst c7
          have H1 : (some true) = some r := by rw [if_pos rfl] at H; exact H
          clear H
          have H := H1
          clear H1
          obtain rfl := Option.some.inj H
          go_enter Tryz.func126, Tryz.ntmps126
          go_wp2_with (first | ((with_reducible refine gate_callee (f := 127) rfl ?_); refine goesL_ (some 4) rfl rfl Tryz.func127 (by kernel_rfl) rfl #[.int .i32 a0] rfl (by (try simp only [List.map_toArray, List.map_cons, List.map_nil]); first | done | rfl | (simp only [List.length_drop, List.length_take]; rfl)) ?_; (with_reducible refine (brackenref1_Start.calls a0 false _ A2.out).mono ?_); rintro e w' ⟨rfl, ⟨nd, rfl⟩⟩; refine ⟨_, rfl, ?_⟩) | (go_at_call 41; (with_reducible refine (brackenref1_in.calls a0 48 57 true _ A6.out).mono ?_); rintro e w' ⟨rfl, ⟨nd, rfl⟩⟩))
          go_ret
          exact ⟨by first | rfl | (simp; done) | (simp [*]; done), by repeat (first | exact Drawn0.refl _ | apply Drawn0.step)⟩
        · replace c7 := Bool.eq_false_iff.mpr c7
          subst c7
          have H1 : (if a0 = 183 then (some true) else ((brackenref1_in.f a0 768 879).bind fun t124 => (if t124 = true then (some true) else ((brackenref1_in.f a0 8255 8256).bind fun t125 => (some t125))))) = some r := by rw [if_neg (show ¬ (false = true) by decide)] at H; exact H
          clear H
          have H := H1
          clear H1
          by_cases c8 : a0 = 183
          · rw [if_pos c8] at H
            have c8b0 : (a0 == 183) = true := beq_iff_eq.mpr c8
            have c8b1 : (a0 != 183) = false := bne_eq_false_iff_eq.mpr c8
            clear c8
            obtain rfl := Option.some.inj H
            go_enter Tryz.func126, Tryz.ntmps126
            go_wp2_with (first | ((with_reducible refine gate_callee (f := 127) rfl ?_); refine goesL_ (some 4) rfl rfl Tryz.func127 (by kernel_rfl) rfl #[.int .i32 a0] rfl (by (try simp only [List.map_toArray, List.map_cons, List.map_nil]); first | done | rfl | (simp only [List.length_drop, List.length_take]; rfl)) ?_; (with_reducible refine (brackenref1_Start.calls a0 false _ A2.out).mono ?_); rintro e w' ⟨rfl, ⟨nd, rfl⟩⟩; refine ⟨_, rfl, ?_⟩) | (go_at_call 41; (with_reducible refine (brackenref1_in.calls a0 48 57 false _ A6.out).mono ?_); rintro e w' ⟨rfl, ⟨nd, rfl⟩⟩))
            go_ret
            exact ⟨by first | rfl | (simp; done) | (simp [*]; done), by repeat (first | exact Drawn0.refl _ | apply Drawn0.step)⟩
          · rw [if_neg c8] at H
            have c8b0 : (a0 == 183) = false := beq_eq_false_iff_ne.mpr c8
            have c8b1 : (a0 != 183) = true := bne_iff_ne.mpr c8
            replace H := Option.bind_eq_some_iff.mp H
            obtain ⟨t124, A90, H⟩ := H
            replace H : (if t124 = true then (some true) else ((brackenref1_in.f a0 8255 8256).bind fun t125 => (some t125))) = some r := H
            have A9 := Aside0.mk A90
            clear A90
            by_cases c10 : t124 = true
            · subst c10
              have H1 : (some true) = some r := by rw [if_pos rfl] at H; exact H
              clear H
              have H := H1
              clear H1
              obtain rfl := Option.some.inj H
              go_enter Tryz.func126, Tryz.ntmps126
              go_wp2_with (first | ((with_reducible refine gate_callee (f := 127) rfl ?_); refine goesL_ (some 4) rfl rfl Tryz.func127 (by kernel_rfl) rfl #[.int .i32 a0] rfl (by (try simp only [List.map_toArray, List.map_cons, List.map_nil]); first | done | rfl | (simp only [List.length_drop, List.length_take]; rfl)) ?_; (with_reducible refine (brackenref1_Start.calls a0 false _ A2.out).mono ?_); rintro e w' ⟨rfl, ⟨nd, rfl⟩⟩; refine ⟨_, rfl, ?_⟩) | (go_at_call 41; (with_reducible refine (brackenref1_in.calls a0 48 57 false _ A6.out).mono ?_); rintro e w' ⟨rfl, ⟨nd, rfl⟩⟩) | (go_at_call 41; (with_reducible refine (brackenref1_in.calls a0 768 879 true _ A9.out).mono ?_); rintro e w' ⟨rfl, ⟨nd, rfl⟩⟩))
              go_ret
              exact ⟨by first | rfl | (simp; done) | (simp [*]; done), by repeat (first | exact Drawn0.refl _ | apply Drawn0.step)⟩
            · replace c10 := Bool.eq_false_iff.mpr c10
              subst c10
              have H1 : ((brackenref1_in.f a0 8255 8256).bind fun t125 => (some t125)) = some r := by rw [if_neg (show ¬ (false = true) by decide)] at H; exact H
              clear H
              have H := H1
              clear H1
              replace H := Option.bind_eq_some_iff.mp H
              obtain ⟨t125, A110, H⟩ := H
              replace H : (some t125) = some r := H
              have A11 := Aside0.mk A110
              clear A110
              obtain rfl := Option.some.inj H
              go_enter Tryz.func126, Tryz.ntmps126
              go_wp2_with (first | ((with_reducible refine gate_callee (f := 127) rfl ?_); refine goesL_ (some 4) rfl rfl Tryz.func127 (by kernel_rfl) rfl #[.int .i32 a0] rfl (by (try simp only [List.map_toArray, List.map_cons, List.map_nil]); first | done | rfl | (simp only [List.length_drop, List.length_take]; rfl)) ?_; (with_reducible refine (brackenref1_Start.calls a0 false _ A2.out).mono ?_); rintro e w' ⟨rfl, ⟨nd, rfl⟩⟩; refine ⟨_, rfl, ?_⟩) | (go_at_call 41; (with_reducible refine (brackenref1_in.calls a0 48 57 false _ A6.out).mono ?_); rintro e w' ⟨rfl, ⟨nd, rfl⟩⟩) | (go_at_call 41; (with_reducible refine (brackenref1_in.calls a0 768 879 false _ A9.out).mono ?_); rintro e w' ⟨rfl, ⟨nd, rfl⟩⟩) | (go_at_call 41; (with_reducible refine (brackenref1_in.calls a0 8255 8256 t125 _ A11.out).mono ?_); rintro e w' ⟨rfl, ⟨nd, rfl⟩⟩))
              go_ret
              exact ⟨by first | rfl | (simp; done) | (simp [*]; done), by repeat (first | exact Drawn0.refl _ | apply Drawn0.step)⟩

/-! ### brackenref1_Run: function 110 -/
def brackenref1_Run.l0 : Nat → ByteArray → Int → Int → Option (Int)
  | 0, _, _, _ => none
  | k + 1, x0, x1, x5 => (brackenref1_One.f k x0 x5).bind fun bt126 => (if bt126.2 = 0 then (some x5) else ((brackenref1_Part.f bt126.1).bind fun t128 => (if t128 = true then (if x5 = x1 then ((brackenref1_Start.f bt126.1).bind fun t129 => (if t129 = true then (brackenref1_Run.l0 k x0 x1 (wrap64 (x5 + bt126.2))) else (some x5))) else (brackenref1_Run.l0 k x0 x1 (wrap64 (x5 + bt126.2)))) else (some x5))))
def brackenref1_Run.f (k : Nat) (a0 : ByteArray) (a1 : Int) : Option (Int) := brackenref1_Run.l0 k a0 a1 a1
theorem brackenref1_Run.mono_l : ∀ k, (∀ y0 y1 y2, LeO (brackenref1_Run.l0 k y0 y1 y2) (brackenref1_Run.l0 (k + 1) y0 y1 y2))
  | 0 => fun _ _ _ r h => by simp [brackenref1_Run.l0] at h
  | k + 1 => by
    have ih0 := brackenref1_Run.mono_l k
    · intro y0 y1 y2
      unfold brackenref1_Run.l0
      repeat' first
      | (with_reducible exact ih0 _ _ _)
      | (with_reducible exact brackenref1_One.mono _ _ _)
      | (with_reducible exact LeO.refl _)
      | (with_reducible exact LeO.none _)
      | (with_reducible refine LeO.ite ?_ ?_)
      | (with_reducible refine LeO.bind ?_ (fun _ => ?_))
      | exact ih0 _ _ _
      | exact brackenref1_One.mono _ _ _
      | exact LeO.none _
      | refine LeO.ite ?_ ?_
      | refine LeO.bind ?_ (fun _ => ?_)
theorem brackenref1_Run.mono : ∀ a0 a1 k, LeO (brackenref1_Run.f k a0 a1) (brackenref1_Run.f (k + 1) a0 a1) := by
  intro a0 a1 k
  have ih0 := brackenref1_Run.mono_l k
  unfold brackenref1_Run.f
  repeat' first
      | (with_reducible exact ih0 _ _ _)
      | (with_reducible exact brackenref1_One.mono _ _ _)
      | (with_reducible exact LeO.refl _)
      | (with_reducible exact LeO.none _)
      | (with_reducible refine LeO.ite ?_ ?_)
      | (with_reducible refine LeO.bind ?_ (fun _ => ?_))
      | exact ih0 _ _ _
      | exact brackenref1_One.mono _ _ _
      | exact LeO.none _
      | refine LeO.ite ?_ ?_
      | refine LeO.bind ?_ (fun _ => ?_)
set_option maxHeartbeats 8000000 in
set_option maxRecDepth 100000 in
theorem brackenref1_Run.calls (k : Nat) (a0 : ByteArray) (a1 : Int) (r : Int) (w : World) (h : brackenref1_Run.f k a0 a1 = some r) :
    Calls Tryz.prog 110 #[.string a0, .int .i64 a1] w fun e w' => e = .returned (.int .i64 r) ∧ Drawn0 w w' := by
  have H : (brackenref1_Run.l0 k a0 a1 a1) = some r := h
  clear h
  have H' := Aside0.mk H
  clear H
  go_enter Tryz.func110, Tryz.ntmps110
  go_wp2
  go_loopg [5] k (fun kq v5 w' => ∃ (x5_1 : Int), v5 = .int .i64 x5_1 ∧ Aside0 (brackenref1_Run.l0 kq a0 a1 x5_1 = some r) ∧ Aside0 (kq ≤ k) ∧ Drawn0 w w')
  case atStart => exact ⟨(a1), (by first | rfl | (simp; done) | (simp [*]; done)), H', ⟨Nat.le_refl _⟩, by repeat (first | exact Drawn0.refl _ | apply Drawn0.step)⟩
  case round =>
    clear H'
    try clear c1
    try clear p2
    obtain ⟨x5_1, rfl, HA, HK1, ⟨m1, rfl⟩⟩ := hrel
    cases gk with
    | zero => exact absurd HA.out (by simp [brackenref1_Run.l0])
    | succ k1 =>
      have H := HA.out
      clear HA
      simp only [brackenref1_Run.l0] at H
      replace H := Option.bind_eq_some_iff.mp H
      obtain ⟨⟨t126, t127⟩, A30, H⟩ := H
      replace H : (if t127 = 0 then (some x5_1) else ((brackenref1_Part.f t126).bind fun t128 => (if t128 = true then (if x5_1 = a1 then ((brackenref1_Start.f t126).bind fun t129 => (if t129 = true then (brackenref1_Run.l0 k1 a0 a1 (wrap64 (x5_1 + t127))) else (some x5_1))) else (brackenref1_Run.l0 k1 a0 a1 (wrap64 (x5_1 + t127)))) else (some x5_1)))) = some r := H
      have A3 := Aside0.mk A30
      clear A30
      by_cases c4 : t127 = 0
      · rw [if_pos c4] at H
        have c4b0 : (t127 == 0) = true := beq_iff_eq.mpr c4
        have c4b1 : (t127 != 0) = false := bne_eq_false_iff_eq.mpr c4
        clear c4
        obtain rfl := Option.some.inj H
        go_wp2_with (first | ((with_reducible refine gate_callee (f := 25) rfl ?_); refine goesL_ (some 12) rfl rfl Tryz.func25 (by kernel_rfl) rfl #[.string a0, .int .i64 x5_1] rfl (by (try simp only [List.map_toArray, List.map_cons, List.map_nil]); first | done | rfl | (simp only [List.length_drop, List.length_take]; rfl)) ?_; (with_reducible refine (brackenref1_One.calls k1 a0 x5_1 t126 t127 _ A3.out).mono ?_); rintro e w' ⟨rfl, ⟨nd, rfl⟩⟩; refine ⟨_, rfl, ?_⟩))
        go_ret
        exact ⟨by first | rfl | (simp; done) | (simp [*]; done), by repeat (first | exact Drawn0.refl _ | apply Drawn0.step)⟩
      · rw [if_neg c4] at H
        have c4b0 : (t127 == 0) = false := beq_eq_false_iff_ne.mpr c4
        have c4b1 : (t127 != 0) = true := bne_iff_ne.mpr c4
        replace H := Option.bind_eq_some_iff.mp H
        obtain ⟨t128, A50, H⟩ := H
        replace H : (if t128 = true then (if x5_1 = a1 then ((brackenref1_Start.f t126).bind fun t129 => (if t129 = true then (brackenref1_Run.l0 k1 a0 a1 (wrap64 (x5_1 + t127))) else (some x5_1))) else (brackenref1_Run.l0 k1 a0 a1 (wrap64 (x5_1 + t127)))) else (some x5_1)) = some r := H
        have A5 := Aside0.mk A50
        clear A50
        by_cases c6 : t128 = true
        · subst c6
          have H1 : (if x5_1 = a1 then ((brackenref1_Start.f t126).bind fun t129 => (if t129 = true then (brackenref1_Run.l0 k1 a0 a1 (wrap64 (x5_1 + t127))) else (some x5_1))) else (brackenref1_Run.l0 k1 a0 a1 (wrap64 (x5_1 + t127)))) = some r := by rw [if_pos rfl] at H; exact H
          clear H
          have H := H1
          clear H1
          by_cases c7 : x5_1 = a1
          · rw [if_pos c7] at H
            have c7b0 : (x5_1 == a1) = true := beq_iff_eq.mpr c7
            have c7b1 : (x5_1 != a1) = false := bne_eq_false_iff_eq.mpr c7
            clear c7
            replace H := Option.bind_eq_some_iff.mp H
            obtain ⟨t129, A80, H⟩ := H
            replace H : (if t129 = true then (brackenref1_Run.l0 k1 a0 a1 (wrap64 (x5_1 + t127))) else (some x5_1)) = some r := H
            have A8 := Aside0.mk A80
            clear A80
            by_cases c9 : t129 = true
            · subst c9
              have H1 : (brackenref1_Run.l0 k1 a0 a1 (wrap64 (x5_1 + t127))) = some r := by rw [if_pos rfl] at H; exact H
              clear H
              have H := H1
              clear H1
              have H' := Aside0.mk H
              clear H
              go_wp2_with (first | ((with_reducible refine gate_callee (f := 25) rfl ?_); refine goesL_ (some 12) rfl rfl Tryz.func25 (by kernel_rfl) rfl #[.string a0, .int .i64 x5_1] rfl (by (try simp only [List.map_toArray, List.map_cons, List.map_nil]); first | done | rfl | (simp only [List.length_drop, List.length_take]; rfl)) ?_; (with_reducible refine (brackenref1_One.calls k1 a0 x5_1 t126 t127 _ A3.out).mono ?_); rintro e w' ⟨rfl, ⟨nd, rfl⟩⟩; refine ⟨_, rfl, ?_⟩) | (go_at_call 126; (with_reducible refine (brackenref1_Part.calls t126 true _ A5.out).mono ?_); rintro e w' ⟨rfl, ⟨nd, rfl⟩⟩) | (go_at_call 127; (with_reducible refine (brackenref1_Start.calls t126 true _ A8.out).mono ?_); rintro e w' ⟨rfl, ⟨nd, rfl⟩⟩))
              go_roundg k1
              case measure => have := HK1.out; omega
              case rel => exact ⟨(wrap64 (x5_1 + t127)), (by first | rfl | (simp; done) | (simp [*]; done)), H', ⟨by have := HK1.out; omega⟩, by repeat (first | exact Drawn0.refl _ | apply Drawn0.step)⟩
            · replace c9 := Bool.eq_false_iff.mpr c9
              subst c9
              have H1 : (some x5_1) = some r := by rw [if_neg (show ¬ (false = true) by decide)] at H; exact H
              clear H
              have H := H1
              clear H1
              obtain rfl := Option.some.inj H
              go_wp2_with (first | ((with_reducible refine gate_callee (f := 25) rfl ?_); refine goesL_ (some 12) rfl rfl Tryz.func25 (by kernel_rfl) rfl #[.string a0, .int .i64 x5_1] rfl (by (try simp only [List.map_toArray, List.map_cons, List.map_nil]); first | done | rfl | (simp only [List.length_drop, List.length_take]; rfl)) ?_; (with_reducible refine (brackenref1_One.calls k1 a0 x5_1 t126 t127 _ A3.out).mono ?_); rintro e w' ⟨rfl, ⟨nd, rfl⟩⟩; refine ⟨_, rfl, ?_⟩) | (go_at_call 126; (with_reducible refine (brackenref1_Part.calls t126 true _ A5.out).mono ?_); rintro e w' ⟨rfl, ⟨nd, rfl⟩⟩) | (go_at_call 127; (with_reducible refine (brackenref1_Start.calls t126 false _ A8.out).mono ?_); rintro e w' ⟨rfl, ⟨nd, rfl⟩⟩))
              go_ret
              exact ⟨by first | rfl | (simp; done) | (simp [*]; done), by repeat (first | exact Drawn0.refl _ | apply Drawn0.step)⟩
          · rw [if_neg c7] at H
            have c7b0 : (x5_1 == a1) = false := beq_eq_false_iff_ne.mpr c7
            have c7b1 : (x5_1 != a1) = true := bne_iff_ne.mpr c7
            have H' := Aside0.mk H
            clear H
            go_wp2_with (first | ((with_reducible refine gate_callee (f := 25) rfl ?_); refine goesL_ (some 12) rfl rfl Tryz.func25 (by kernel_rfl) rfl #[.string a0, .int .i64 x5_1] rfl (by (try simp only [List.map_toArray, List.map_cons, List.map_nil]); first | done | rfl | (simp only [List.length_drop, List.length_take]; rfl)) ?_; (with_reducible refine (brackenref1_One.calls k1 a0 x5_1 t126 t127 _ A3.out).mono ?_); rintro e w' ⟨rfl, ⟨nd, rfl⟩⟩; refine ⟨_, rfl, ?_⟩) | (go_at_call 126; (with_reducible refine (brackenref1_Part.calls t126 true _ A5.out).mono ?_); rintro e w' ⟨rfl, ⟨nd, rfl⟩⟩))
            go_roundg k1
            case measure => have := HK1.out; omega
            case rel => exact ⟨(wrap64 (x5_1 + t127)), (by first | rfl | (simp; done) | (simp [*]; done)), H', ⟨by have := HK1.out; omega⟩, by repeat (first | exact Drawn0.refl _ | apply Drawn0.step)⟩
        · replace c6 := Bool.eq_false_iff.mpr c6
          subst c6
          have H1 : (some x5_1) = some r := by rw [if_neg (show ¬ (false = true) by decide)] at H; exact H
          clear H
          have H := H1
          clear H1
          obtain rfl := Option.some.inj H
          go_wp2_with (first | ((with_reducible refine gate_callee (f := 25) rfl ?_); refine goesL_ (some 12) rfl rfl Tryz.func25 (by kernel_rfl) rfl #[.string a0, .int .i64 x5_1] rfl (by (try simp only [List.map_toArray, List.map_cons, List.map_nil]); first | done | rfl | (simp only [List.length_drop, List.length_take]; rfl)) ?_; (with_reducible refine (brackenref1_One.calls k1 a0 x5_1 t126 t127 _ A3.out).mono ?_); rintro e w' ⟨rfl, ⟨nd, rfl⟩⟩; refine ⟨_, rfl, ?_⟩) | (go_at_call 126; (with_reducible refine (brackenref1_Part.calls t126 false _ A5.out).mono ?_); rintro e w' ⟨rfl, ⟨nd, rfl⟩⟩))
          go_ret
          exact ⟨by first | rfl | (simp; done) | (simp [*]; done), by repeat (first | exact Drawn0.refl _ | apply Drawn0.step)⟩

/-! ### brackenref1_Name: function 94 -/
def brackenref1_Name.f (k : Nat) (a0 : ByteArray) : Option (Bool) := if a0.toList = ([] : List UInt8) then (some false) else ((brackenref1_Run.f k a0 0).bind fun t130 => (some (t130 == (a0.size : Int))))
theorem brackenref1_Name.mono : ∀ a0 k, LeO (brackenref1_Name.f k a0) (brackenref1_Name.f (k + 1) a0) := by
  intro a0 k
  unfold brackenref1_Name.f
  repeat' first
      | (with_reducible exact brackenref1_Run.mono _ _ _)
      | (with_reducible exact LeO.refl _)
      | (with_reducible exact LeO.none _)
      | (with_reducible refine LeO.ite ?_ ?_)
      | (with_reducible refine LeO.bind ?_ (fun _ => ?_))
      | exact brackenref1_Run.mono _ _ _
      | exact LeO.none _
      | refine LeO.ite ?_ ?_
      | refine LeO.bind ?_ (fun _ => ?_)
set_option maxHeartbeats 8000000 in
set_option maxRecDepth 100000 in
theorem brackenref1_Name.calls (k : Nat) (a0 : ByteArray) (r : Bool) (w : World) (h : brackenref1_Name.f k a0 = some r) :
    Calls Tryz.prog 94 #[.string a0] w fun e w' => e = .returned (.bool r) ∧ Drawn0 w w' := by
  have H : (if a0.toList = ([] : List UInt8) then (some false) else ((brackenref1_Run.f k a0 0).bind fun t130 => (some (t130 == (a0.size : Int))))) = some r := h
  clear h
  by_cases c2 : a0.toList = ([] : List UInt8)
  · rw [if_pos c2] at H
    have c2b0 : (a0.toList == ([] : List UInt8)) = true := beq_iff_eq.mpr c2
    have c2b1 : (a0.toList != ([] : List UInt8)) = false := bne_eq_false_iff_eq.mpr c2
    clear c2
    obtain rfl := Option.some.inj H
    go_enter Tryz.func94, Tryz.ntmps94
    go_wp2
    go_ret
    exact ⟨by first | rfl | (simp; done) | (simp [*]; done), by repeat (first | exact Drawn0.refl _ | apply Drawn0.step)⟩
  · rw [if_neg c2] at H
    have c2b0 : (a0.toList == ([] : List UInt8)) = false := beq_eq_false_iff_ne.mpr c2
    have c2b1 : (a0.toList != ([] : List UInt8)) = true := bne_iff_ne.mpr c2
    replace H := Option.bind_eq_some_iff.mp H
    obtain ⟨t130, A30, H⟩ := H
    replace H : (some (t130 == (a0.size : Int))) = some r := H
    have A3 := Aside0.mk A30
    clear A30
    obtain rfl := Option.some.inj H
    go_enter Tryz.func94, Tryz.ntmps94
    go_wp2_with (first | (go_at_call 110; (with_reducible refine (brackenref1_Run.calls k a0 0 t130 _ A3.out).mono ?_); rintro e w' ⟨rfl, ⟨nd, rfl⟩⟩))
    go_ret
    exact ⟨by first | rfl | (simp; done) | (simp [*]; done), by repeat (first | exact Drawn0.refl _ | apply Drawn0.step)⟩

/-! ### brackenref1_NCName: function 68 -/
def brackenref1_NCName.l0 : Nat → ByteArray → Int → Option (Bool)
  | 0, _, _ => none
  | k + 1, x0, x3 => if x3 < (x0.size : Int) then (if 0 ≤ x3 then (if (bt x0 x3) = 58 then (some false) else (brackenref1_NCName.l0 k x0 (wrap64 (x3 + 1)))) else (none)) else ((brackenref1_Name.f k x0).bind fun t131 => (some t131))
def brackenref1_NCName.f (k : Nat) (a0 : ByteArray) : Option (Bool) := brackenref1_NCName.l0 k a0 0
theorem brackenref1_NCName.mono_l : ∀ k, (∀ y0 y1, LeO (brackenref1_NCName.l0 k y0 y1) (brackenref1_NCName.l0 (k + 1) y0 y1))
  | 0 => fun _ _ r h => by simp [brackenref1_NCName.l0] at h
  | k + 1 => by
    have ih0 := brackenref1_NCName.mono_l k
    · intro y0 y1
      unfold brackenref1_NCName.l0
      repeat' first
      | (with_reducible exact ih0 _ _)
      | (with_reducible exact brackenref1_Name.mono _ _)
      | (with_reducible exact LeO.refl _)
      | (with_reducible exact LeO.none _)
      | (with_reducible refine LeO.ite ?_ ?_)
      | (with_reducible refine LeO.bind ?_ (fun _ => ?_))
      | exact ih0 _ _
      | exact brackenref1_Name.mono _ _
      | exact LeO.none _
      | refine LeO.ite ?_ ?_
      | refine LeO.bind ?_ (fun _ => ?_)
theorem brackenref1_NCName.mono : ∀ a0 k, LeO (brackenref1_NCName.f k a0) (brackenref1_NCName.f (k + 1) a0) := by
  intro a0 k
  have ih0 := brackenref1_NCName.mono_l k
  unfold brackenref1_NCName.f
  repeat' first
      | (with_reducible exact ih0 _ _)
      | (with_reducible exact brackenref1_Name.mono _ _)
      | (with_reducible exact LeO.refl _)
      | (with_reducible exact LeO.none _)
      | (with_reducible refine LeO.ite ?_ ?_)
      | (with_reducible refine LeO.bind ?_ (fun _ => ?_))
      | exact ih0 _ _
      | exact brackenref1_Name.mono _ _
      | exact LeO.none _
      | refine LeO.ite ?_ ?_
      | refine LeO.bind ?_ (fun _ => ?_)
set_option maxHeartbeats 8000000 in
set_option maxRecDepth 100000 in
theorem brackenref1_NCName.calls (k : Nat) (a0 : ByteArray) (r : Bool) (w : World) (h : brackenref1_NCName.f k a0 = some r) :
    Calls Tryz.prog 68 #[.string a0] w fun e w' => e = .returned (.bool r) ∧ Drawn0 w w' := by
  have H : (brackenref1_NCName.l0 k a0 0) = some r := h
  clear h
  have H' := Aside0.mk H
  clear H
  go_enter Tryz.func68, Tryz.ntmps68
  go_wp2
  go_loopg [3] k (fun kq v3 w' => ∃ (x3_1 : Int), v3 = .int .i64 x3_1 ∧ Aside0 (brackenref1_NCName.l0 kq a0 x3_1 = some r) ∧ Aside0 (kq ≤ k) ∧ Drawn0 w w')
  case atStart => exact ⟨(0), (by first | rfl | (simp; done) | (simp [*]; done)), H', ⟨Nat.le_refl _⟩, by repeat (first | exact Drawn0.refl _ | apply Drawn0.step)⟩
  case round =>
    clear H'
    obtain ⟨x3_1, rfl, HA, HK1, ⟨m1, rfl⟩⟩ := hrel
    cases gk with
    | zero => exact absurd HA.out (by simp [brackenref1_NCName.l0])
    | succ k1 =>
      have H := HA.out
      clear HA
      simp only [brackenref1_NCName.l0] at H
      by_cases c2 : x3_1 < (a0.size : Int)
      · rw [if_pos c2] at H
        have c2b0 : decide (x3_1 < (a0.size : Int)) = true := decide_eq_true c2
        clear c2
        by_cases c3 : 0 ≤ x3_1
        · rw [if_pos c3] at H
          have c3b0 : decide (0 ≤ x3_1) = true := decide_eq_true c3
          clear c3
          by_cases c5 : (bt a0 x3_1) = 58
          · rw [if_pos c5] at H
            have c5b0 : ((bt a0 x3_1) == 58) = true := beq_iff_eq.mpr c5
            have c5b1 : ((bt a0 x3_1) != 58) = false := bne_eq_false_iff_eq.mpr c5
            clear c5
            obtain rfl := Option.some.inj H
            have p4 : 0 ≤ (x3_1 : Int) := of_decide_eq_true (by first | (with_reducible assumption) | assumption)
            have q4 : x3_1 < (a0.size : Int) := of_decide_eq_true (by first | (with_reducible assumption) | assumption)
            have hx4 := bt_at a0 x3_1
            replace p4 := eq_true p4
            replace q4 := eq_true q4
            go_wp2
            go_ret
            exact ⟨by first | rfl | (simp; done) | (simp [*]; done), by repeat (first | exact Drawn0.refl _ | apply Drawn0.step)⟩
          · rw [if_neg c5] at H
            have c5b0 : ((bt a0 x3_1) == 58) = false := beq_eq_false_iff_ne.mpr c5
            have c5b1 : ((bt a0 x3_1) != 58) = true := bne_iff_ne.mpr c5
            have H' := Aside0.mk H
            clear H
            have p4 : 0 ≤ (x3_1 : Int) := of_decide_eq_true (by first | (with_reducible assumption) | assumption)
            have q4 : x3_1 < (a0.size : Int) := of_decide_eq_true (by first | (with_reducible assumption) | assumption)
            have hx4 := bt_at a0 x3_1
            replace p4 := eq_true p4
            replace q4 := eq_true q4
            go_wp2
            go_roundg k1
            case measure => have := HK1.out; omega
            case rel => exact ⟨(wrap64 (x3_1 + 1)), (by first | rfl | (simp; done) | (simp [*]; done)), H', ⟨by have := HK1.out; omega⟩, by repeat (first | exact Drawn0.refl _ | apply Drawn0.step)⟩
        · rw [if_neg c3] at H
          exact absurd H (by simp)
      · rw [if_neg c2] at H
        have c2b0 : decide (x3_1 < (a0.size : Int)) = false := decide_eq_false c2
        clear c2
        replace H := Option.bind_eq_some_iff.mp H
        obtain ⟨t131, A60, H⟩ := H
        replace H : (some t131) = some r := H
        have A6 := Aside0.mk A60
        clear A60
        obtain rfl := Option.some.inj H
        go_wp2_with (first | ((with_reducible refine gate_callee (f := 94) rfl ?_); refine goesL_ (some 15) rfl rfl Tryz.func94 (by kernel_rfl) rfl #[.string a0] rfl (by (try simp only [List.map_toArray, List.map_cons, List.map_nil]); first | done | rfl | (simp only [List.length_drop, List.length_take]; rfl)) ?_; (with_reducible refine (brackenref1_Name.calls k1 a0 t131 _ A6.out).mono ?_); rintro e w' ⟨rfl, ⟨nd, rfl⟩⟩; refine ⟨_, rfl, ?_⟩))
        go_ret
        exact ⟨by first | rfl | (simp; done) | (simp [*]; done), by repeat (first | exact Drawn0.refl _ | apply Drawn0.step)⟩

/-! ### brackenref1_Space: function 45 -/
def brackenref1_Space.f (a0 : Int) : Option (Bool) := if a0 = 32 then (some true) else (if a0 = 9 then (some true) else (if a0 = 13 then (some true) else (some (a0 == 10))))
set_option maxHeartbeats 8000000 in
set_option maxRecDepth 100000 in
theorem brackenref1_Space.calls (a0 : Int) (r : Bool) (w : World) (h : brackenref1_Space.f a0 = some r) :
    Calls Tryz.prog 45 #[.int .i32 a0] w fun e w' => e = .returned (.bool r) ∧ Drawn0 w w' := by
  have H : (if a0 = 32 then (some true) else (if a0 = 9 then (some true) else (if a0 = 13 then (some true) else (some (a0 == 10))))) = some r := h
  clear h
  by_cases c2 : a0 = 32
  · rw [if_pos c2] at H
    have c2b0 : (a0 == 32) = true := beq_iff_eq.mpr c2
    have c2b1 : (a0 != 32) = false := bne_eq_false_iff_eq.mpr c2
    clear c2
    obtain rfl := Option.some.inj H
    go_enter Tryz.func45, Tryz.ntmps45
    go_wp2
    go_ret
    exact ⟨by first | rfl | (simp; done) | (simp [*]; done), by repeat (first | exact Drawn0.refl _ | apply Drawn0.step)⟩
  · rw [if_neg c2] at H
    have c2b0 : (a0 == 32) = false := beq_eq_false_iff_ne.mpr c2
    have c2b1 : (a0 != 32) = true := bne_iff_ne.mpr c2
    by_cases c3 : a0 = 9
    · rw [if_pos c3] at H
      have c3b0 : (a0 == 9) = true := beq_iff_eq.mpr c3
      have c3b1 : (a0 != 9) = false := bne_eq_false_iff_eq.mpr c3
      clear c3
      obtain rfl := Option.some.inj H
      go_enter Tryz.func45, Tryz.ntmps45
      go_wp2
      go_ret
      exact ⟨by first | rfl | (simp; done) | (simp [*]; done), by repeat (first | exact Drawn0.refl _ | apply Drawn0.step)⟩
    · rw [if_neg c3] at H
      have c3b0 : (a0 == 9) = false := beq_eq_false_iff_ne.mpr c3
      have c3b1 : (a0 != 9) = true := bne_iff_ne.mpr c3
      by_cases c4 : a0 = 13
      · rw [if_pos c4] at H
        have c4b0 : (a0 == 13) = true := beq_iff_eq.mpr c4
        have c4b1 : (a0 != 13) = false := bne_eq_false_iff_eq.mpr c4
        clear c4
        obtain rfl := Option.some.inj H
        go_enter Tryz.func45, Tryz.ntmps45
        go_wp2
        go_ret
        exact ⟨by first | rfl | (simp; done) | (simp [*]; done), by repeat (first | exact Drawn0.refl _ | apply Drawn0.step)⟩
      · rw [if_neg c4] at H
        have c4b0 : (a0 == 13) = false := beq_eq_false_iff_ne.mpr c4
        have c4b1 : (a0 != 13) = true := bne_iff_ne.mpr c4
        obtain rfl := Option.some.inj H
        go_enter Tryz.func45, Tryz.ntmps45
        go_wp2
        go_ret
        exact ⟨by first | rfl | (simp; done) | (simp [*]; done), by repeat (first | exact Drawn0.refl _ | apply Drawn0.step)⟩

end Go.Proofs.YtmjdjpelhhibgaaGreatDoor.R1
