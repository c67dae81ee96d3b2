/- The law ValueBack, walked. -/
import Derived.Test.YtmjdjpelhhibgaaGreatDoorVTold
import Derived.Test.YtmjdjpelhhibgaaGreatDoorVBackP
import Derived.Test.YtmjdjpelhhibgaaGreatDoorVRef
namespace Go.Proofs.YtmjdjpelhhibgaaGreatDoor.Val
open Go Go.RowKit Go.Proofs.YtmjdjpelhhibgaaGreatDoor.Rf Go.Proofs.YtmjdjpelhhibgaaGreatDoor.Spec Go.Proofs.YtmjdjpelhhibgaaGreatDoor.Giv
set_option linter.unusedVariables false
set_option linter.unusedSimpArgs false
theorem valid_any (s : ByteArray) (hs : s.size ≤ 140737488351232) : ∃ b : Bool, ∀ w, Calls Tryz.prog 12 #[.string s] w fun e w' => e = .returned (.bool b) ∧ Below w.heap.size w w' := by
  refine ⟨Ref.charsB s, fun w => ?_⟩
  refine (Ref.brackenref1_Valid.calls s _ w (by unfold Ref.brackenref1_Valid.f; rw [if_pos hs])).mono ?_
  rintro e w' ⟨rfl, ⟨n, rfl⟩⟩
  exact ⟨rfl, ⟨rfl, rfl, rfl, Nat.le_refl _, fun _ _ => rfl⟩⟩
set_option maxRecDepth 100000 in
set_option maxHeartbeats 4000000 in
theorem text0_any (w : World) : Calls Tryz.prog 14 #[.slice none 0 0, .int .i64 0] w fun e w' => e = .returned (.string ⟨#[]⟩) ∧ Below w.heap.size w w' := by
  go_enter Tryz.func14, Tryz.ntmps14
  go_wp2
  go_loop [7, 6] (fun i s => i = .int .i64 0 ∧ s = .string ⟨#[]⟩) (fun _ _ => 0)
  case atStart => exact ⟨rfl, rfl⟩
  case round =>
    obtain ⟨rfl, rfl⟩ := hrel
    go_wp2
    go_ret
    exact ⟨rfl, (Below.refl _ _).alloc (Nat.le_refl _) _⟩
theorem rowE_nil (w : World) (A : Option Addr) : RowE w A [] := fun i hi => absurd hi (Nat.not_lt_zero i)
set_option maxRecDepth 100000 in
set_option maxHeartbeats 4000000 in
theorem back_walk (s : ByteArray) (w : World) (hE : Env w) (hs : s.size ≤ 140737488351232) : Calls Tryz.prog 4 #[.string s] w fun e w' => e = .returned (.bool true) ∧ Below w.heap.size w w' := by
  have HE := Lib.hid hE
  clear hE
  by_cases h60 : 60 < s.size
  · have h60' : (s.size : Int) > 60 := by omega
    have h60d : decide ((s.size : Int) > 60) = true := by simpa using h60'
    go_enter Tryz.func4, Tryz.ntmps4
    go_wp2_with (go_at_call 11; refine (told_any _ HE.out).mono ?_; rintro e w1 ⟨rfl, hb1⟩)
    go_ret
    exact ⟨rfl, hb1⟩
  · have h60' : ¬ (s.size : Int) > 60 := by omega
    have h60d : decide ((s.size : Int) > 60) = false := by simpa using h60'
    obtain ⟨b, cV⟩ := valid_any s hs
    cases b with
    | false =>
      go_enter Tryz.func4, Tryz.ntmps4
      go_wp2_with (first | (go_at_call 12; refine (cV _).mono ?_; rintro e w0 ⟨rfl, hb0⟩) | (go_at_call 11; refine (told_any _ (HE.out.below hb0)).mono ?_; rintro e w1 ⟨rfl, hb1⟩))
      go_ret
      exact ⟨rfl, hb0.trans (hb1.mono hb0.size)⟩
    | true =>
      have cA := fun W => Rep.attr_any s (by omega) W
      obtain ⟨T, hT⟩ : ∃ T : ByteArray, T = ⟨(Rep.repl Rep.attrM s.data.toList).toArray⟩ := ⟨_, rfl⟩
      rw [← hT] at cA
      have hTl : T.data.toList = Rep.repl Rep.attrM s.data.toList := by rw [hT]
      have hTz : T.size ≤ 6060 := by
        have h1 := Rep.repl_length Rep.attrM s.data.toList
        have h2 := Rep.moreAll_bd Rep.attrM (by decide) s.data.toList
        have h3 : s.data.toList.length = s.size := rfl
        have h4 : T.data.toList.length = T.size := rfl
        rw [hTl] at h4
        omega
      have hsg : ∀ (k : Nat) (h : k < T.size), signC (T[k]'h) = false := fun k h => back_sign s.data.toList _ (by
        rw [← hTl]
        exact List.mem_of_getElem? (Lib.data_getElem? T k h))
      have hrun : runT [] 0 (s.data.toList.length + 1) false T.data.toList ⟨[], [], 0⟩ = some (0, ⟨s.data.toList, [], 0⟩) := by
        rw [hTl, back_all]
        rfl
      have hsl : s.data.toList.length = s.size := rfl
      have hrs : readS 1 0 s.data.toList = s := by unfold readS; rw [if_pos rfl, if_neg (by decide)]
      have HSG := Lib.hid hsg
      have HRUN := Lib.hid hrun
      have HRS := Lib.hid hrs
      clear hT hTl hsg hrun hrs
      go_enter Tryz.func4, Tryz.ntmps4
      go_wp2_with (first | (go_at_call 12; refine (cV _).mono ?_; rintro e w0 ⟨rfl, hb0⟩) | (go_at_call 13; refine (cA _).mono ?_; rintro e w1 ⟨rfl, hb1⟩))
      have HB1 := Lib.hid (hb0.trans (hb1.mono hb0.size))
      clear hb0 hb1
      go_loop [4] (fun i => ∃ k : Nat, i = .int .i64 k ∧ k ≤ T.size) (fun i => T.size - (intOf i).toNat)
      case atStart => exact ⟨0, rfl, by omega⟩
      case round =>
        obtain ⟨k, rfl, hk⟩ := hrel
        by_cases hlt : k < T.size
        · obtain ⟨c, hc⟩ : ∃ c, T[k]'hlt = c := ⟨_, rfl⟩
          have hg := HSG.out k hlt
          rw [hc] at hg
          unfold signC at hg
          simp only [Bool.or_eq_false_iff, beq_eq_false_iff_ne] at hg
          obtain ⟨g1, g2, g3, g4, g5⟩ := hg
          have e1 : ((c.toNat : Int) == 60) = false := by rw [beq_eq_false_iff_ne]; intro e; exact g1 (UInt8.toNat_inj.1 (by show c.toNat = 60; omega))
          have e2 : ((c.toNat : Int) == 34) = false := by rw [beq_eq_false_iff_ne]; intro e; exact g2 (UInt8.toNat_inj.1 (by show c.toNat = 34; omega))
          have e3 : ((c.toNat : Int) == 9) = false := by rw [beq_eq_false_iff_ne]; intro e; exact g3 (UInt8.toNat_inj.1 (by show c.toNat = 9; omega))
          have e4 : ((c.toNat : Int) == 10) = false := by rw [beq_eq_false_iff_ne]; intro e; exact g4 (UInt8.toNat_inj.1 (by show c.toNat = 10; omega))
          have e5 : ((c.toNat : Int) == 13) = false := by rw [beq_eq_false_iff_ne]; intro e; exact g5 (UInt8.toNat_inj.1 (by show c.toNat = 13; omega))
          clear g1 g2 g3 g4 g5
          go_wp2
          go_round
          case rel => exact ⟨k + 1, by go_num, by omega⟩
          case measure => simp [intOf]; omega
        · go_wp2_with fail
          refine (new_RS _ _ 0 _ _ [] w1 (rowE_nil _ _) rfl (by omega)).mono ?_
          rintro e w2 ⟨p, rfl, h2⟩
          have HE1 := Lib.hid (HE.out.below HB1.out)
          go_wp2_with fail
          refine (RS.read h2 HE1.out (entR_small [] (by simp)) (by decide) (by decide) 0 (by decide) (by decide) T (by omega) 1 (s.data.toList.length + 1) (by simp; omega) 0 _ HRUN.out (by show s.data.toList.length ≤ _; omega) s HRS.out).mono ?_
          rintro e w3 ⟨rfl, h3⟩
          have HB3 := Lib.hid (HB1.out.trans (h3.bel.mono HB1.out.size))
          clear h2 h3
          go_wp2_with (first | (go_at_call 11; refine (told_any _ (HE.out.below HB3.out)).mono ?_; rintro e w4 ⟨rfl, hb4⟩) | (go_at_call 14; refine (text0_any _).mono ?_; rintro e w5 ⟨rfl, hb5⟩))
          go_ret
          exact ⟨rfl, HB3.out.trans ((hb4.trans (hb5.mono hb4.size)).mono HB3.out.size)⟩
end Go.Proofs.YtmjdjpelhhibgaaGreatDoor.Val
