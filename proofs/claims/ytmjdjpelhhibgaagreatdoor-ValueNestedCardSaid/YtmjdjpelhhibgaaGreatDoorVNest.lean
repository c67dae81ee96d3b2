/- The walk of ValueNested. -/
import Derived.Test.YtmjdjpelhhibgaaGreatDoorVNestA
import Derived.Test.YtmjdjpelhhibgaaGreatDoorVRoom
namespace Go.Proofs.YtmjdjpelhhibgaaGreatDoor.Val
open Go Go.RowKit Go.Proofs.YtmjdjpelhhibgaaGreatDoor.Rf Go.Proofs.YtmjdjpelhhibgaaGreatDoor.Spec Go.Proofs.YtmjdjpelhhibgaaGreatDoor.Giv
set_option linter.unusedVariables false
set_option linter.unusedSimpArgs false
theorem num_of (x : Int) (n : Nat) (hn : 0 < n) (hn2 : n ≤ 100) : ∃ k : Nat, k < n ∧ wrap64 (1 + wrap64 ((IntKind.u64.wrap x).tmod (n : Int))) = ((k + 1 : Nat) : Int) := by
  have hw : 0 ≤ IntKind.u64.wrap x := by unfold IntKind.wrap; simp [IntKind.bits, IntKind.signed]; omega
  have h0 : 0 ≤ Int.tmod (IntKind.u64.wrap x) (n : Int) := Int.tmod_nonneg _ hw
  have h1 : Int.tmod (IntKind.u64.wrap x) (n : Int) < (n : Int) := Int.tmod_lt_of_pos _ (by omega)
  refine ⟨((IntKind.u64.wrap x).tmod n).toNat, by omega, ?_⟩
  unfold wrap64
  omega
theorem most_of (x : Int) : ∃ M : Nat, M < 6000 ∧ wrap64 ((IntKind.u64.wrap x).tmod 6000) = (M : Int) := by
  have hw : 0 ≤ IntKind.u64.wrap x := by unfold IntKind.wrap; simp [IntKind.bits, IntKind.signed]; omega
  have h0 : 0 ≤ Int.tmod (IntKind.u64.wrap x) 6000 := Int.tmod_nonneg _ hw
  have h1 : Int.tmod (IntKind.u64.wrap x) 6000 < 6000 := Int.tmod_lt_of_pos _ (by omega)
  refine ⟨((IntKind.u64.wrap x).tmod 6000).toNat, by omega, ?_⟩
  unfold wrap64
  omega
set_option maxRecDepth 100000 in
set_option maxHeartbeats 4000000 in
theorem nested_c (a b c : Int) (w : World) (hE : Env w) : Calls Tryz.prog 8 #[.int .i64 a, .int .i64 b, .int .i64 c] w fun e w' => e = .returned (.bool true) ∧ Below w.heap.size w w' := by
  have HE := Lib.hid hE
  clear hE
  obtain ⟨i0, hi, hz0, hz1, hz2⟩ := info_parts infoE
  obtain ⟨n, hn6, hn⟩ := num_of a 6 (by omega) (by omega)
  obtain ⟨k, hk3, hk⟩ := num_of b 3 (by omega) (by omega)
  obtain ⟨M, hM6, hM⟩ := most_of c
  have hn : wrap64 (1 + wrap64 ((IntKind.u64.wrap a).tmod 6)) = ((n + 1 : Nat) : Int) := hn
  have hk : wrap64 (1 + wrap64 ((IntKind.u64.wrap b).tmod 3)) = ((k + 1 : Nat) : Int) := hk
  have hnest0 := nest_start w
  have hd0 : (w.alloc (.cells #[.string ⟨#[]⟩, .slice none 0 0, .slice none 0 0] 30)).heap[w.heap.size]? = _ := heap_alloc_new _ _
  have hown0 : (w.alloc (.cells #[.string ⟨#[]⟩, .slice none 0 0, .slice none 0 0] 30)).ownsRow (w.heap.size + 1) 26 3 (.slice none 0 0) 0 (cellsE []) := World.ownsRow_nil _ _ _ _
  have HK0 := Lib.hid (fun W0 w1 gg cap o1 => @nest_kept w _ W0 w1 [] gg cap _ o1 ⟨⟨#[97]⟩, ⟨#[120]⟩, false⟩ hnest0 hd0 hown0)
  clear hnest0 hd0
  go_enter Tryz.func8, Tryz.ntmps8
  go_wp2_with (at_builtin; go_loud (refine wpList_append_own _ rfl _ _ 27 rfl (w.heap.size + 1) 26 i0 (.agg #[.string ⟨#[]⟩, .string ⟨#[]⟩, .bool false]) 3 40 Tryz.underlying27 hi hz0 hz1 hz2 rfl (by decide) (.slice none 0 0) 0 (cellsE []) rfl (hown0.alloc _) ⟨w.heap.size + 1, 0, none⟩ 1 1 [.string ⟨#[97]⟩, .string ⟨#[120]⟩, .bool false] rfl rfl (by have h_ := cells_block (w.alloc (.cells #[.string ⟨#[]⟩, .slice none 0 0, .slice none 0 0] 30)) #[.string ⟨#[97]⟩, .string ⟨#[120]⟩, .bool false] 26; simpa using h_) (by intro u hu; simp at hu; rcases hu with rfl | rfl | rfl <;> rfl) (by unfold maxLen; omega) (by omega) (by simp <;> omega) ?_; intro v2 w3 hown2 hgrow2 _; obtain ⟨g, cap2, rfl⟩ := own_shape3 hown2; obtain ⟨d2, g2, hdz2, hR2⟩ := HK0.out _ _ _ _ _ rfl rfl rfl rfl hgrow2 hown2; have HR2 := Lib.hid hR2; clear hR2 hown2 hgrow2))
  obtain ⟨wA, hWA⟩ : ∃ W, W = w3.setCell ⟨w.heap.size, 1, none⟩ (.slice (some ⟨g, 0, none⟩) 1 cap2) := ⟨_, rfl⟩
  rw [← hWA]
  have HR3 : Hid (NestR w (nestE (k + 1) 0) wA) := by rw [hWA]; exact HR2.out
  clear hWA HR2 HK0 d2 g2 hdz2 hown0
  go_loopw [12, 13, 14] (fun x y z wr => ∃ p : Nat, p ≤ n ∧ x = .string ⟨(nestT (k + 1) p).toArray⟩ ∧ y = .int .i64 (nestC (k + 1) p : Nat) ∧ z = .int .i64 ((p : Int) + 1) ∧ Hid (NestR w (nestE (k + 1) p) wr)) (fun _ _ z _ => 7 - (intOf z).toNat)
  case atStart => exact ⟨0, by omega, rfl, rfl, rfl, HR3⟩
  case round =>
    obtain ⟨p, hp, rfl, rfl, rfl, hR⟩ := hrel
    clear HR3
    obtain ⟨hT, hC⟩ := nest_small (k + 1) p (by omega) (by omega)
    obtain ⟨T, hTe⟩ : ∃ T : ByteArray, (⟨(nestT (k + 1) p).toArray⟩ : ByteArray) = T := ⟨_, rfl⟩
    rw [hTe]
    obtain ⟨C, hCe⟩ : ∃ C : Nat, nestC (k + 1) p = C := ⟨_, rfl⟩
    rw [hCe] at hC
    rw [hCe]
    have HT := Lib.hid hTe
    have HC := Lib.hid hCe
    have HTs := Lib.hid hT
    clear hTe hCe hT
    by_cases hlt : p < n
    · go_wp2_with fail
      go_loop [15, 16, 17, 18] (fun x y z u => ∃ j : Nat, j ≤ k + 1 ∧ x = .string ⟨(refs j (nmC p)).toArray⟩ ∧ y = .string (tms j (nestT (k + 1) p)) ∧ z = .int .i64 ((j : Int) * (C : Int)) ∧ u = .int .i64 (j : Int)) (fun _ _ _ u => 5 - (intOf u).toNat)
      case atStart => exact ⟨0, by omega, rfl, rfl, by simp, rfl⟩
      case round =>
        obtain ⟨j, hj, rfl, rfl, rfl, rfl⟩ := hrel
        have hVs := refs_size j (nmC p)
        have hUs := tms_small j _ (by omega) HTs.out
        have hTs : T.size ≤ 300 := by rw [← HT.out]; exact HTs.out
        have hVn := refs_string j (nmC p)
        have hUn := tms_succ j (nestT (k + 1) p)
        rw [HT.out] at hUn
        obtain ⟨V, hV⟩ : ∃ V : ByteArray, (⟨(refs j (nmC p)).toArray⟩ : ByteArray) = V := ⟨_, rfl⟩
        obtain ⟨U, hU⟩ : ∃ U : ByteArray, tms j (nestT (k + 1) p) = U := ⟨_, rfl⟩
        rw [hV] at hVs hVn
        rw [hU] at hUs hUn
        rw [hV, hU]
        have HVn := Lib.hid hVn
        have HUn := Lib.hid hUn
        have HV := Lib.hid hV
        have HU := Lib.hid hU
        clear hVn hUn hV hU
        by_cases hlj : j < k + 1
        · have hmul : wrap64 ((j : Int) * (C : Int) + (C : Int)) = ((j + 1 : Nat) : Int) * (C : Int) := by
            have h1 : j * C ≤ 3 * 2000 := Nat.mul_le_mul (by omega) hC
            have h2 : (j : Int) * (C : Int) = ((j * C : Nat) : Int) := by push_cast; rfl
            have h3 : ((j + 1 : Nat) : Int) * (C : Int) = ((j * C : Nat) : Int) + (C : Int) := by push_cast; rw [Int.add_mul, Int.one_mul]
            rw [h3, h2]
            unfold wrap64
            omega
          have HM := Lib.hid hmul
          have hab := abc_at p (by omega)
          have HAB := Lib.hid hab
          clear hmul hab
          go_wp2_with fail
          go_round
          case rel => exact ⟨j + 1, by omega, by have h1 : (⟨#[97, 98, 99, 100, 101, 102, 103, 104]⟩ : ByteArray).extract p (p + 1) = ⟨#[nmC p]⟩ := HAB.out; rw [h1, HVn.out], by rw [HUn.out], by rw [HM.out], by go_num⟩
          case measure => simp [intOf]; omega
        · obtain rfl : j = k + 1 := by omega
          obtain ⟨hB, v, hd, hown, hsz⟩ := hR.out
          have d1 : wr.cell? ⟨w.heap.size, 1, none⟩ = some v := cell_of hd 1
          have g1 := frozen_of hd 1
          have hdz : w.heap.size < wr.heap.size := by omega
          have hHK := fun W0 w1 gg cap o1 => @nest_kept w wr W0 w1 (nestE (k + 1) p) gg cap v o1 ⟨⟨#[nmC (p + 1)]⟩, V, false⟩ hR.out hd hown
          rw [nestE_len] at hHK hown
          have HK := Lib.hid hHK
          clear hHK
          have hs1 : IntKind.i64.wrap ((p : Int) + 1 + 1) = (p : Int) + 1 + 1 := IntWalk.i64_in _ (by omega)
          have hs2 : ((p : Int) + 1 + 1).toNat = p + 2 := by omega
          have hs5 : ((p : Int) + 1).toNat = p + 1 := by omega
          have hs3 : (0 : Int) ≤ (p : Int) + 1 + 1 := by omega
          have hs4 : (p : Int) + 1 + 1 ≤ 8 := by omega
          have hsl : ∀ W, (Instr.slice 9 (.string ⟨#[97, 98, 99, 100, 101, 102, 103, 104]⟩) (some (.int .i64 ((p : Int) + 1))) (some (.int .i64 ((p : Int) + 1 + 1))) none).run Tryz.prog W = .ok (.string ⟨#[nmC (p + 1)]⟩) W := fun W => slice8 (p + 1) (by omega) W
          clear hB hsz
          go_wp2_with fail
          go_region_law ((refine step_append_lies _ (by rfl) _ _ _ (by rfl) (w.heap.size + 1) 26 i0 _ 3 40 Tryz.underlying27 hi hz0 hz1 hz2 rfl (by omega) v (p + 1) (cellsE (nestE (k + 1) p)) (by rfl) ((hown.alloc _).drew) ⟨wr.heap.size, 0, none⟩ 1 1 [.string ⟨#[nmC (p + 1)]⟩, .string V, .bool false] (by rfl) (by rfl) (by have h_ := cells_block wr #[.string ⟨#[nmC (p + 1)]⟩, .string V, .bool false] 26; simpa using h_) (by intro u hu; simp at hu; rcases hu with rfl | rfl | rfl <;> rfl) (by omega) (by unfold maxLen; omega) (by omega) (by simp; omega) (wr.heap.size + 1) (by simp) ?_; intro gg cap w1 hown1 hgrow hat hlt3; obtain ⟨d2, g2, hdz2, hR2⟩ := HK.out (wr.alloc (.cells #[.string ⟨#[nmC (p + 1)]⟩, .string V, .bool false] 26)).drew _ _ _ _ rfl rfl rfl rfl hgrow hown1; have HR2 := Lib.hid hR2; clear hR2 hown1 hgrow hat))
          all_goals
            clear hs1 hs2 hs3 hs4 hs5 hsl d1 g1 d2 g2 hd hown HK hi hz0 hz1 hz2
            go_wp2_with fail
            go_roundw
            case rel =>
              have hc1 : wrap64 (((k : Int) + 1) * (C : Int) + 3 * ((k : Int) + 1)) = ((nestC (k + 1) (p + 1) : Nat) : Int) := by
                have e1 : nestC (k + 1) (p + 1) = (k + 1) * C + 3 * (k + 1) := by rw [← HC.out]; rfl
                have h1 : (k + 1) * C ≤ 3 * 2000 := Nat.mul_le_mul (by omega) hC
                have h2 : ((k : Int) + 1) * (C : Int) = (((k + 1) * C : Nat) : Int) := by push_cast; rfl
                rw [e1, h2]
                unfold wrap64
                omega
              have he1 : nestE (k + 1) (p + 1) = nestE (k + 1) p ++ [⟨⟨#[nmC (p + 1)]⟩, V, false⟩] := by rw [← HV.out]; rfl
              exact ⟨p + 1, by omega, by rw [← HU.out]; rfl, by rw [hc1], by go_num, by rw [he1]; exact HR2⟩
            case measure => simp [intOf]; omega
    · obtain rfl : p = n := by omega
      obtain ⟨hB, v, hd, hown, hsz⟩ := hR.out
      rw [nestE_len] at hown
      obtain ⟨g', cap', rfl, _, hrow⟩ := rowE_of_own hown (by omega)
      have d0 : wr.cell? ⟨w.heap.size, 0, none⟩ = some (.string ⟨#[]⟩) := cell_of hd 0
      have d1 : wr.cell? ⟨w.heap.size, 1, none⟩ = some (.slice (some ⟨g', 0, none⟩) (p + 1) cap') := cell_of hd 1
      have d2 : wr.cell? ⟨w.heap.size, 2, none⟩ = some (.slice none 0 0) := cell_of hd 2
      have hdz : w.heap.size < wr.heap.size := by omega
      have HNEW := new_RS ⟨#[]⟩ (some ⟨g', 0, none⟩) (p + 1) cap' (.slice none 0 0) (nestE (k + 1) p) wr hrow (nestE_len _ _) (by omega)
      have HB := Lib.hid hB
      have HE1 := Lib.hid (HE.out.below hB)
      have hab := abc_at p (by omega)
      have HAB := Lib.hid hab
      have hTs : T.size ≤ 300 := by rw [← HT.out]; exact HTs.out
      clear hd hown hR hi hz0 hz1 hz2 hlt hrow hB hab hsz
      go_wp2_with fail
      refine HNEW.mono ?_
      clear HNEW
      rintro e w1 ⟨q, rfl, h1⟩
      have hraw : (⟨#[38]⟩ : ByteArray) ++ (⟨#[97, 98, 99, 100, 101, 102, 103, 104]⟩ : ByteArray).extract p (p + 1) ++ ⟨#[59]⟩ = ⟨#[38, nmC p, 59]⟩ := by
        have h1 : (⟨#[97, 98, 99, 100, 101, 102, 103, 104]⟩ : ByteArray).extract p (p + 1) = ⟨#[nmC p]⟩ := HAB.out
        rw [h1]; apply ByteArray.ext; simp
      have HRAW := Lib.hid hraw
      clear hraw
      go_wp2_with fail
      rw [HRAW.out]
      by_cases hCM : C ≤ M
      · have hrd : readS 1 0 (nestT (k + 1) p) = T := by unfold readS; rw [if_pos rfl, if_neg (by decide)]; exact HT.out
        refine (RS.read h1 HE1.out (entR_small _ (nestE_small (k + 1) p (by omega))) (by decide) (by decide) (M : Int) (by omega) (by omega) ⟨#[38, nmC p, 59]⟩ (by show 3 < 4294967281; decide) 1 60 (by decide) 0 ⟨nestT (k + 1) p, [], (nestC (k + 1) p : Nat)⟩ (nest_ok p (k + 1) (by omega) (by omega) (by omega) (M : Int) (by rw [HC.out]; omega)) (Nat.le_trans HTs.out (by decide)) T hrd).mono ?_
        clear h1
        rintro e w3 ⟨rfl, h3⟩
        have h3 : RS wr w3 q (nestE (k + 1) p) [] (nestC (k + 1) p : Nat) := h3
        rw [HC.out] at h3
        have HB3 := Lib.hid (HB.out.trans (h3.bel.mono HB.out.size))
        go_wp2_with (go_at_call 11; refine (told_any _ (HE.out.below HB3.out)).mono ?_; rintro e w4 ⟨rfl, hb4⟩; replace h3 := h3.below hb4)
        refine h3.spent.mono ?_
        rintro e w5 ⟨rfl, rfl⟩
        go_wp2_with fail
        refine h3.depth.mono ?_
        rintro e w5 ⟨rfl, rfl⟩
        go_wp2_with fail
        go_ret
        exact ⟨rfl, HB.out.trans (h3.bel.mono HB.out.size)⟩
      · obtain ⟨st, hst⟩ := nest_no p (k + 1) (by omega) (by omega) (by omega) (M : Int) (by rw [HC.out]; omega)
        have hso := runT_small hst (by decide) 6000 (by decide) (by omega)
        have hrd : readS 1 3 st.out = ⟨#[]⟩ := by unfold readS; rw [if_neg (by decide)]
        refine (RS.read h1 HE1.out (entR_small _ (nestE_small (k + 1) p (by omega))) (by decide) (by decide) (M : Int) (by omega) (by omega) ⟨#[38, nmC p, 59]⟩ (by show 3 < 4294967281; decide) 1 60 (by decide) 3 st hst (Nat.le_trans hso (by simp)) ⟨#[]⟩ hrd).mono ?_
        clear h1
        rintro e w3 ⟨rfl, h3⟩
        have HB3 := Lib.hid (HB.out.trans (h3.bel.mono HB.out.size))
        clear h3 hst hso hrd
        go_wp2_with (go_at_call 11; refine (told_any _ (HE.out.below HB3.out)).mono ?_; rintro e w4 ⟨rfl, hb4⟩)
        go_ret
        exact ⟨rfl, HB3.out.trans (hb4.mono HB3.out.size)⟩
theorem nested_walk (a b c : Int) (w : World) (hE : Env w) {P Q R : Prop} (hP : P) (hQ : Q) (hR : R) : Calls Tryz.prog 8 #[.int .i64 a, .int .i64 b, .int .i64 c] w fun e w' => e = .returned (.bool true) ∧ Below w.heap.size w w' :=
  nested_c a b c w hE
end Go.Proofs.YtmjdjpelhhibgaaGreatDoor.Val
