-- written by wip/gen.py (this session's own driver of the kit's printer); Lean checks it
import Derived.Test.YtmjdjpelhhibgaaDoorKX
import Derived.Test.YtmjdjpelhhibgaaDoorR1x0
namespace Go.Proofs.YtmjdjpelhhibgaaDoor.R1
open Go.Proofs.YtmjdjpelhhibgaaDoor.Giv
open Go.RowKit Go.Proofs.YtmjdjpelhhibgaaDoorW.PrintWords Go.Proofs.YtmjdjpelhhibgaaDoorW.PrintLast Go.Proofs.YtmjdjpelhhibgaaDoorW.PrintMore
attribute [local go_sem] max2_int min2_int max_two min_two max_three min_three max_four min_four   -- for this text's walks alone
set_option linter.unusedVariables false
set_option linter.unusedSimpArgs false

/-! ### token_plain: function 59 -/
def token_plain.f (a0 : ByteArray) (a1 : Int) : Option (Int × ByteArray × ByteArray × (List (S42)) × Bool × Int × Bool) := if 0 ≤ a1 then (if a1 ≤ (a0.size : Int) then ((strings_IndexAny.f (a0.extract (a1 : Int).toNat a0.size) (⟨#[60, 38]⟩ : ByteArray)).bind fun t166 => (if t166 ≥ 0 then (if a1 ≤ (wrap64 (a1 + t166)) then (if (wrap64 (a1 + t166)) ≤ (a0.size : Int) then ((strings_Contains.f (a0.extract (a1 : Int).toNat ((wrap64 (a1 + t166)) : Int).toNat) (⟨#[93, 93, 62]⟩ : ByteArray)).bind fun t168 => (some (1, (⟨#[]⟩ : ByteArray), a0.extract (a1 : Int).toNat ((wrap64 (a1 + t166)) : Int).toNat, ([] : List (S42)), false, wrap64 (a1 + t166), !t168))) else (none)) else (none)) else (if (a0.size : Int) ≤ (a0.size : Int) then ((strings_Contains.f (a0.extract (a1 : Int).toNat a0.size) (⟨#[93, 93, 62]⟩ : ByteArray)).bind fun t170 => (some (1, (⟨#[]⟩ : ByteArray), a0.extract (a1 : Int).toNat a0.size, ([] : List (S42)), false, (a0.size : Int), !t170))) else (none)))) else (none)) else (none)
def token_plain.T6 : Bool × List (List Nat × List Nat) := (true, [([], []), ([], []), ([], []), ([2], [2]), ([3], [3]), ([4], [4]), ([0, 4, 0], [0]), ([1, 6, 0, 1, 6], [1]), ([5, 7, 0, 1, 2, 3, 4, 5, 6, 7], [5])])
def token_plain.B6 : List Nat := [0, 0, 0, 4, 12, 28, 29, 95, 255]
theorem token_plain.tab6 : rtab .any (opsOf Tryd.f59 6) = token_plain.T6 := by kernel_rfl
theorem token_plain.bits6 : waitsOk token_plain.T6.2 token_plain.B6 = true := by kernel_rfl
set_option maxHeartbeats 8000000 in
set_option maxRecDepth 100000 in
theorem token_plain.calls (a0 : ByteArray) (a1 : Int) (r1 : Int) (r2 : ByteArray) (r3 : ByteArray) (r4 : List (S42)) (r5 : Bool) (r6 : Int) (r7 : Bool) (w : World) (hE : Env w) (h : token_plain.f a0 a1 = some (r1, r2, r3, r4, r5, r6, r7)) :
  Calls Tryd.prog 59 #[.string a0, .int .i64 a1] w fun e w' => ∃ v3_ : Value, e = .returned (.tuple #[.agg #[.int .i64 r1, .string r2, .string r3, v3_, .bool r5], .int .i64 r6, .bool r7]) ∧ Kd.R k42 42 w' w.heap.size (fun _ => True) v3_ r4 ∧ Below w.heap.size w w' := by
 have hu27 := Tryd.underlying27
 have HE := Aside0.mk hE
 clear hE
 have HB := Aside0.mk (Below.refl w.heap.size w)
 have H : (if 0 ≤ a1 then (if a1 ≤ (a0.size : Int) then ((strings_IndexAny.f (a0.extract (a1 : Int).toNat a0.size) (⟨#[60, 38]⟩ : ByteArray)).bind fun t166 => (if t166 ≥ 0 then (if a1 ≤ (wrap64 (a1 + t166)) then (if (wrap64 (a1 + t166)) ≤ (a0.size : Int) then ((strings_Contains.f (a0.extract (a1 : Int).toNat ((wrap64 (a1 + t166)) : Int).toNat) (⟨#[93, 93, 62]⟩ : ByteArray)).bind fun t168 => (some (1, (⟨#[]⟩ : ByteArray), a0.extract (a1 : Int).toNat ((wrap64 (a1 + t166)) : Int).toNat, ([] : List (S42)), false, wrap64 (a1 + t166), !t168))) else (none)) else (none)) else (if (a0.size : Int) ≤ (a0.size : Int) then ((strings_Contains.f (a0.extract (a1 : Int).toNat a0.size) (⟨#[93, 93, 62]⟩ : ByteArray)).bind fun t170 => (some (1, (⟨#[]⟩ : ByteArray), a0.extract (a1 : Int).toNat a0.size, ([] : List (S42)), false, (a0.size : Int), !t170))) else (none)))) else (none)) else (none)) = some (r1, r2, r3, r4, r5, r6, r7) := h
 clear h
 by_cases c3 : 0 ≤ a1
 ·rw [if_pos c3] at H
  have c3b0 := eq_true c3
  have c3b1 := decide_eq_true c3
  clear c3
  by_cases c4 : a1 ≤ (a0.size : Int)
  ·rw [if_pos c4] at H
   have c4b0 := eq_true c4
   have c4b1 := decide_eq_true c4
   clear c4
   replace H := Option.bind_eq_some_iff.mp H
   obtain ⟨t166, A50, H⟩ := H
   try dsimp only at H
   have A5 := Aside0.mk A50
   clear A50
   by_cases c6 : t166 ≥ 0
   ·rw [if_pos c6] at H
    have c6b0 : decide (0 ≤ t166) = true := decide_eq_true c6
    clear c6
    have c7b0 := eq_true (of_decide_eq_true (by first | (with_reducible assumption) | assumption) : 0 ≤ a1)
    by_cases c8 : a1 ≤ (wrap64 (a1 + t166))
    ·rw [if_pos c8] at H
     have c8b0 := eq_true c8
     have c8b1 := decide_eq_true c8
     by_cases c9 : (wrap64 (a1 + t166)) ≤ (a0.size : Int)
     ·rw [if_pos c9] at H
      have c9b0 := eq_true c9
      have c9b1 := decide_eq_true c9
      replace H := Option.bind_eq_some_iff.mp H
      obtain ⟨t168, A100, H⟩ := H
      try dsimp only at H
      have A10 := Aside0.mk A100
      clear A100
      simp only [Option.some.injEq, Prod.mk.injEq] at H
      obtain ⟨rfl, rfl, rfl, rfl, rfl, rfl, rfl⟩ := H
      go_enter Tryd.func59, Tryd.ntmps59
      try go_wp2_with (first | ((with_reducible refine gate_dst (N := 4) rfl ?_); refine box_event ?hg (N := 4) ?hd (cs := #[.int .i64 0, .string ⟨#[]⟩, .string ⟨#[]⟩, .slice none 0 0, .bool false]) (t := 27) ?hr ?_; (case hd => rfl); (case hg => rfl); (case hr => first | (go_simp; done) | (go_simp; rfl)); intro gb165 hg w11 hbox hb; have n0_ := Aside0.mk (below_step (by repeat (first | (with_reducible first | exact HB.out | apply below_alloc | apply pw_below_drewN | apply below_drew1) | exact HB.out)) hb); have n1_ := Aside0.mk (hbox); have n2_ := Aside0.mk ((by rw [hg]; exact (below_size (by repeat (first | (with_reducible first | exact HB.out | apply below_alloc | apply pw_below_drewN | apply below_drew1) | exact HB.out))) : w.heap.size ≤ gb165)); have n3_ := Aside0.mk ((by rw [hg]; exact (below_size (by repeat (first | (with_reducible first | exact HB.out | apply below_alloc | apply pw_below_drewN | apply below_drew1) | exact HB.out))) : w.heap.size ≤ gb165)); clear HB; have HB := n0_; have BK165 := n1_; have GW165 := n2_; have GE165 := n3_; clear n0_ n1_ n2_ n3_; clear hb hbox hg) | ((with_reducible refine gate_callee (f := 85) rfl ?_); refine goesL_ (some 15) rfl rfl Tryd.func85 (by kernel_rfl) rfl #[.string (a0.extract (a1 : Int).toNat a0.size), .string ⟨#[60, 38]⟩] rfl (by (try simp only [List.map_toArray, List.map_cons, List.map_nil]); first | done | rfl | (simp only [List.length_drop, List.length_take]; rfl)) ?_; (with_reducible refine (strings_IndexAny.calls (a0.extract (a1 : Int).toNat a0.size) (⟨#[60, 38]⟩ : ByteArray) t166 _ (Env.below HE.out (by repeat (first | (with_reducible first | exact HB.out | apply below_alloc | apply pw_below_drewN | apply below_drew1 | refine below_set ?_ GE165.out) | exact HB.out))) A5.out).mono ?_); rintro e w12 ⟨rfl, hb⟩; refine ⟨_, rfl, ?_⟩; have n0_ := Aside0.mk (blk_below (g := gb165) (o := .cells #[.int .i64 0, .string ⟨#[]⟩, .string ⟨#[]⟩, .slice none 0 0, .bool false] 27 (0, 0)) (by (with_reducible repeat (first | refine blk_drewN ?_ _ | refine blk_drew ?_ | refine blk_alloc ?_ _)); exact BK165.out) hb); have n1_ := Aside0.mk (below_step (by repeat (first | (with_reducible first | exact HB.out | apply below_alloc | apply pw_below_drewN | apply below_drew1 | refine below_set ?_ GE165.out) | exact HB.out)) hb); clear BK165; clear HB; have BK165 := n0_; have HB := n1_; clear n0_ n1_; (try clear hb); (try clear hb2); (try clear hk); (try clear hi)) | ((with_reducible refine gate_dst (N := 9) rfl ?_); refine box_event ?hg (N := 9) ?hd (cs := #[.int .i64 0, .string ⟨#[]⟩, .string ⟨#[]⟩, .slice none 0 0, .bool false]) (t := 27) ?hr ?_; (case hd => rfl); (case hg => rfl); (case hr => first | (go_simp; done) | (go_simp; rfl)); intro gb167 hg w13 hbox hb; have n0_ := Aside0.mk (blk_below (g := gb165) (o := .cells #[.int .i64 0, .string ⟨#[]⟩, .string ⟨#[]⟩, .slice none 0 0, .bool false] 27 (0, 0)) (by (with_reducible repeat (first | refine blk_drewN ?_ _ | refine blk_drew ?_ | refine blk_alloc ?_ _)); exact BK165.out) hb); have n1_ := Aside0.mk (below_step (by repeat (first | (with_reducible first | exact HB.out | apply below_alloc | apply pw_below_drewN | apply below_drew1 | refine below_set ?_ GE165.out) | exact HB.out)) hb); have n2_ := Aside0.mk (hbox); have n3_ := Aside0.mk ((by rw [hg]; exact (below_size (by repeat (first | (with_reducible first | exact HB.out | apply below_alloc | apply pw_below_drewN | apply below_drew1 | refine below_set ?_ GE165.out) | exact HB.out))) : w.heap.size ≤ gb167)); have n4_ := Aside0.mk ((by rw [hg]; exact (below_size (by repeat (first | (with_reducible first | exact HB.out | apply below_alloc | apply pw_below_drewN | apply below_drew1 | refine below_set ?_ GE165.out) | exact HB.out))) : w.heap.size ≤ gb167)); have n5_ := Aside0.mk ((by rw [hg]; exact Nat.ne_of_lt (blk_lt (g := gb165) (o := .cells #[.int .i64 0, .string ⟨#[]⟩, .string ⟨#[]⟩, .slice none 0 0, .bool false] 27 (0, 0)) (by (with_reducible repeat (first | refine blk_drewN ?_ _ | refine blk_drew ?_ | refine blk_alloc ?_ _)); exact BK165.out)) : gb165 ≠ gb167)); have n6_ := Aside0.mk ((by rw [hg]; exact Nat.ne_of_gt (blk_lt (g := gb165) (o := .cells #[.int .i64 0, .string ⟨#[]⟩, .string ⟨#[]⟩, .slice none 0 0, .bool false] 27 (0, 0)) (by (with_reducible repeat (first | refine blk_drewN ?_ _ | refine blk_drew ?_ | refine blk_alloc ?_ _)); exact BK165.out)) : gb167 ≠ gb165)); clear BK165; clear HB; have BK165 := n0_; have HB := n1_; have BK167 := n2_; have GW167 := n3_; have GE167 := n4_; have NB165_167 := n5_; have NB167_165 := n6_; clear n0_ n1_ n2_ n3_ n4_ n5_ n6_; clear hb hbox hg; have hnb14 := NB167_165.out; have hnc14 := NB165_167.out; have hcz15_0 : w13.cell? ⟨gb167, 0, none⟩ = some (.int .i64 0) := (blk_cell BK167.out 0).trans rfl; have hcz15_1 : w13.cell? ⟨gb167, 1, none⟩ = some (.string ⟨#[]⟩) := (blk_cell BK167.out 1).trans rfl; have hcz15_2 : w13.cell? ⟨gb167, 2, none⟩ = some (.string ⟨#[]⟩) := (blk_cell BK167.out 2).trans rfl; have hcz15_3 : w13.cell? ⟨gb167, 3, none⟩ = some (.slice none 0 0) := (blk_cell BK167.out 3).trans rfl; have hcz15_4 : w13.cell? ⟨gb167, 4, none⟩ = some (.bool false) := (blk_cell BK167.out 4).trans rfl; have hfz15_0 := blk_frozen BK167.out 0; have hfz15_1 := blk_frozen BK167.out 1; have hfz15_2 := blk_frozen BK167.out 2; have hfz15_3 := blk_frozen BK167.out 3; have hfz15_4 := blk_frozen BK167.out 4))
      have n0_ : Aside0 ((((((w13.setCell ⟨gb167, 0, none⟩ (.int .i64 1)).setCell ⟨gb167, 1, none⟩ (.string ⟨#[]⟩)).setCell ⟨gb167, 2, none⟩ (.string (a0.extract (a1 : Int).toNat ((wrap64 (a1 + t166)) : Int).toNat))).setCell ⟨gb167, 3, none⟩ (.slice none 0 0)).setCell ⟨gb167, 4, none⟩ (.bool false)).heap[gb165]? = some (.cells #[.int .i64 0, .string ⟨#[]⟩, .string ⟨#[]⟩, .slice none 0 0, .bool false] 27 (0, 0))) := ⟨by (with_reducible repeat (first | refine blk_drewN ?_ _ | refine blk_drew ?_ | refine blk_alloc ?_ _)); refine blk_far ?_ NB165_167.out _; (with_reducible repeat (first | refine blk_drewN ?_ _ | refine blk_drew ?_ | refine blk_alloc ?_ _)); refine blk_far ?_ NB165_167.out _; (with_reducible repeat (first | refine blk_drewN ?_ _ | refine blk_drew ?_ | refine blk_alloc ?_ _)); refine blk_far ?_ NB165_167.out _; (with_reducible repeat (first | refine blk_drewN ?_ _ | refine blk_drew ?_ | refine blk_alloc ?_ _)); refine blk_far ?_ NB165_167.out _; (with_reducible repeat (first | refine blk_drewN ?_ _ | refine blk_drew ?_ | refine blk_alloc ?_ _)); refine blk_far ?_ NB165_167.out _; (with_reducible repeat (first | refine blk_drewN ?_ _ | refine blk_drew ?_ | refine blk_alloc ?_ _)); exact BK165.out⟩
      have n1_ : Aside0 ((((((w13.setCell ⟨gb167, 0, none⟩ (.int .i64 1)).setCell ⟨gb167, 1, none⟩ (.string ⟨#[]⟩)).setCell ⟨gb167, 2, none⟩ (.string (a0.extract (a1 : Int).toNat ((wrap64 (a1 + t166)) : Int).toNat))).setCell ⟨gb167, 3, none⟩ (.slice none 0 0)).setCell ⟨gb167, 4, none⟩ (.bool false)).heap[gb167]? = some (.cells #[.int .i64 1, .string ⟨#[]⟩, .string (a0.extract (a1 : Int).toNat ((wrap64 (a1 + t166)) : Int).toNat), .slice none 0 0, .bool false] 27 (0, 0))) := ⟨by (with_reducible repeat (first | refine blk_drewN ?_ _ | refine blk_drew ?_ | refine blk_alloc ?_ _)); refine blk_put (cs := #[.int .i64 1, .string ⟨#[]⟩, .string (a0.extract (a1 : Int).toNat ((wrap64 (a1 + t166)) : Int).toNat), .slice none 0 0, .bool false]) ?_ 4 _ rfl; (with_reducible repeat (first | refine blk_drewN ?_ _ | refine blk_drew ?_ | refine blk_alloc ?_ _)); refine blk_put (cs := #[.int .i64 1, .string ⟨#[]⟩, .string (a0.extract (a1 : Int).toNat ((wrap64 (a1 + t166)) : Int).toNat), .slice none 0 0, .bool false]) ?_ 3 _ rfl; (with_reducible repeat (first | refine blk_drewN ?_ _ | refine blk_drew ?_ | refine blk_alloc ?_ _)); refine blk_put (cs := #[.int .i64 1, .string ⟨#[]⟩, .string ⟨#[]⟩, .slice none 0 0, .bool false]) ?_ 2 _ rfl; (with_reducible repeat (first | refine blk_drewN ?_ _ | refine blk_drew ?_ | refine blk_alloc ?_ _)); refine blk_put (cs := #[.int .i64 1, .string ⟨#[]⟩, .string ⟨#[]⟩, .slice none 0 0, .bool false]) ?_ 1 _ rfl; (with_reducible repeat (first | refine blk_drewN ?_ _ | refine blk_drew ?_ | refine blk_alloc ?_ _)); refine blk_put (cs := #[.int .i64 0, .string ⟨#[]⟩, .string ⟨#[]⟩, .slice none 0 0, .bool false]) ?_ 0 _ rfl; (with_reducible repeat (first | refine blk_drewN ?_ _ | refine blk_drew ?_ | refine blk_alloc ?_ _)); exact BK167.out⟩
      have n2_ : Aside0 (Below w.heap.size w (((((w13.setCell ⟨gb167, 0, none⟩ (.int .i64 1)).setCell ⟨gb167, 1, none⟩ (.string ⟨#[]⟩)).setCell ⟨gb167, 2, none⟩ (.string (a0.extract (a1 : Int).toNat ((wrap64 (a1 + t166)) : Int).toNat))).setCell ⟨gb167, 3, none⟩ (.slice none 0 0)).setCell ⟨gb167, 4, none⟩ (.bool false))) := ⟨by repeat (first | (with_reducible first | exact HB.out | apply below_alloc | apply pw_below_drewN | apply below_drew1 | refine below_set ?_ GE165.out | refine below_set ?_ GE167.out) | exact HB.out)⟩
      (try clear BK165)
      (try clear BK167)
      (try clear HB)
      generalize (((((w13.setCell ⟨gb167, 0, none⟩ (.int .i64 1)).setCell ⟨gb167, 1, none⟩ (.string ⟨#[]⟩)).setCell ⟨gb167, 2, none⟩ (.string (a0.extract (a1 : Int).toNat ((wrap64 (a1 + t166)) : Int).toNat))).setCell ⟨gb167, 3, none⟩ (.slice none 0 0)).setCell ⟨gb167, 4, none⟩ (.bool false)) = w16 at n0_ n1_ n2_ ⊢
      have BK165 := n0_
      have BK167 := n1_
      have HB := n2_
      clear n0_ n1_ n2_
      have n0_ := Aside0.mk (blk_drew BK165.out)
      have n1_ := Aside0.mk (blk_drew BK167.out)
      have n2_ := Aside0.mk (below_drew1 HB.out)
      clear BK165
      clear BK167
      clear HB
      have BK165 := n0_
      have BK167 := n1_
      have HB := n2_
      clear n0_ n1_ n2_
      refine start_ (n := 9) (S := fun w' => w'.cell? ⟨gb167, 0, none⟩ = some (.int .i64 1) ∧ w'.cell? ⟨gb167, 1, none⟩ = some (.string ⟨#[]⟩) ∧ w'.cell? ⟨gb167, 2, none⟩ = some (.string (a0.extract (a1 : Int).toNat ((wrap64 (a1 + t166)) : Int).toNat)) ∧ w'.cell? ⟨gb167, 3, none⟩ = some (.slice none 0 0) ∧ w'.cell? ⟨gb167, 4, none⟩ = some (.bool false)) (ds := []) (KX.upTo 9 0) (by kernel_rfl) rfl rfl ⟨(blk_cell BK167.out 0).trans rfl, (blk_cell BK167.out 1).trans rfl, (blk_cell BK167.out 2).trans rfl, (blk_cell BK167.out 3).trans rfl, (blk_cell BK167.out 4).trans rfl⟩ (fun hHeld => ?_); refine with_tabW token_plain.tab6 token_plain.bits6 (fun HT_ HW_ => ?_)
      generalize w16.drew = w17 at BK165 BK167 HB hHeld ⊢
      refine KX.pq_ 1 (some 27) #[false, true, false, false, false, false, false, false, false] HT_ ?_
      refine KX.pq_ 2 (some 28) #[false, true, true, false, false, false, false, false, false] HT_ ?_
      refine take_ (i := 0) (N := some 26) (v := ?_) (a' := ?_) (KX.upTo 9 3) rfl rfl (take_ofW HT_.out HW_.out (by kernel_rfl)) (fun _ _ _ h => h) (Or.inl ⟨by rfl, ?_⟩) hHeld ?_ ?_
      rotate_left
      ·rintro w' ⟨s0, s1, s2, s3, s4⟩
       go_simp
       with_reducible rfl
      rotate_left
      ·simp only [Act.put, List.setIfInBounds_toArray, List.set_cons_zero, List.set_cons_succ, i64_w, i32_w]
       rfl
      refine take_ (i := 3) (N := some 29) (v := ?_) (a' := ?_) (KX.upTo 9 4) rfl rfl (take_ofW HT_.out HW_.out (by kernel_rfl)) (fun _ _ _ h => h) (Or.inl ⟨by rfl, ?_⟩) hHeld ?_ ?_
      rotate_left
      ·rintro w' ⟨s0, s1, s2, s3, s4⟩
       go_simp
       with_reducible rfl
      rotate_left
      ·simp only [Act.put, List.setIfInBounds_toArray, List.set_cons_zero, List.set_cons_succ, i64_w, i32_w]
       rfl
      refine one_ (i := 4) (N := some 30) (KX.upTo 9 5) rfl rfl (one_of HT_.out (by kernel_rfl)) (by decide) (fun K hK => ?_)
      refine goes_ Tryd.func80 (by kernel_rfl) rfl #[.string (a0.extract (a1 : Int).toNat ((wrap64 (a1 + t166)) : Int).toNat), .string ⟨#[93, 93, 62]⟩] (by rfl) rfl rfl (by (try simp only [List.map_toArray, List.map_cons, List.map_nil]); first | done | rfl | (simp only [List.length_drop, List.length_take]; rfl)) ?_
      with_reducible refine (strings_Contains.calls (a0.extract (a1 : Int).toNat ((wrap64 (a1 + t166)) : Int).toNat) (⟨#[93, 93, 62]⟩ : ByteArray) t168 _ (Env.below HE.out (by repeat (first | (with_reducible first | exact HB.out | apply below_alloc | apply pw_below_drewN | apply below_drew1 | refine below_set ?_ GE165.out | refine below_set ?_ GE167.out) | exact HB.out))) A10.out).mono ?_
      rintro e w18 ⟨rfl, hb⟩
      refine ⟨_, rfl, ?_⟩
      have n0_ := Aside0.mk (blk_below (g := gb165) (o := .cells #[.int .i64 0, .string ⟨#[]⟩, .string ⟨#[]⟩, .slice none 0 0, .bool false] 27 (0, 0)) (by (with_reducible repeat (first | refine blk_drewN ?_ _ | refine blk_drew ?_ | refine blk_alloc ?_ _)); exact BK165.out) hb)
      have n1_ := Aside0.mk (blk_below (g := gb167) (o := .cells #[.int .i64 1, .string ⟨#[]⟩, .string (a0.extract (a1 : Int).toNat ((wrap64 (a1 + t166)) : Int).toNat), .slice none 0 0, .bool false] 27 (0, 0)) (by (with_reducible repeat (first | refine blk_drewN ?_ _ | refine blk_drew ?_ | refine blk_alloc ?_ _)); exact BK167.out) hb)
      have n2_ := Aside0.mk (below_step (by repeat (first | (with_reducible first | exact HB.out | apply below_alloc | apply pw_below_drewN | apply below_drew1 | refine below_set ?_ GE165.out | refine below_set ?_ GE167.out) | exact HB.out)) hb)
      clear BK165
      clear BK167
      clear HB
      have BK165 := n0_
      have BK167 := n1_
      have HB := n2_
      clear n0_ n1_ n2_
      (try clear hb)
      (try clear hb2)
      (try clear hk)
      (try clear hi)
      refine hK.out _ _ ⟨(blk_cell BK167.out 0).trans rfl, (blk_cell BK167.out 1).trans rfl, (blk_cell BK167.out 2).trans rfl, (blk_cell BK167.out 3).trans rfl, (blk_cell BK167.out 4).trans rfl⟩ (fun hHeld => ?_)
      clear hK K
      refine norm_ (a' := ?_) ?_ ?_
      rotate_left
      ·show Act.put _ (some 30) _ = _
       simp only [Act.put, List.setIfInBounds_toArray, List.set_cons_zero, List.set_cons_succ, i64_w, i32_w]
       rfl
      refine KX.pq_ 5 (some 31) (KX.upTo 9 6) HT_ ?_
      refine one_ (i := 6) (N := none) (KX.upTo 9 7) rfl rfl (one_of HT_.out (by kernel_rfl)) (by decide) (fun K hK => ?_)
      have hs19 : w18.cell? ⟨gb165, 0, none⟩ = some (.int .i64 0) := (blk_cell BK165.out 0).trans rfl
      have hfs19 := blk_frozen BK165.out 0
      have hns19_1 := NB167_165.out
      have hms19_1 := NB165_167.out
      have hs20 : w18.cell? ⟨gb165, 1, none⟩ = some (.string ⟨#[]⟩) := (blk_cell BK165.out 1).trans rfl
      have hfs20 := blk_frozen BK165.out 1
      have hns20_1 := NB167_165.out
      have hms20_1 := NB165_167.out
      have hs21 : w18.cell? ⟨gb165, 2, none⟩ = some (.string ⟨#[]⟩) := (blk_cell BK165.out 2).trans rfl
      have hfs21 := blk_frozen BK165.out 2
      have hns21_1 := NB167_165.out
      have hms21_1 := NB165_167.out
      have hs22 : w18.cell? ⟨gb165, 3, none⟩ = some (.slice none 0 0) := (blk_cell BK165.out 3).trans rfl
      have hfs22 := blk_frozen BK165.out 3
      have hns22_1 := NB167_165.out
      have hms22_1 := NB165_167.out
      have hs23 : w18.cell? ⟨gb165, 4, none⟩ = some (.bool false) := (blk_cell BK165.out 4).trans rfl
      have hfs23 := blk_frozen BK165.out 4
      have hns23_1 := NB167_165.out
      have hms23_1 := NB165_167.out
      refine skip_ (w1 := ?_) (by rfl) rfl ?_ ?_
      rotate_left
      ·go_simp
       rfl
      refine hK.out _ _ ⟨((cell_far (p := ⟨gb165, _, none⟩) NB167_165.out _).trans (((cell_far (p := ⟨gb165, _, none⟩) NB167_165.out _).trans (((cell_far (p := ⟨gb165, _, none⟩) NB167_165.out _).trans (((cell_far (p := ⟨gb165, _, none⟩) NB167_165.out _).trans (((cell_far (p := ⟨gb165, _, none⟩) NB167_165.out _).trans (hHeld.1)))))))))), ((cell_far (p := ⟨gb165, _, none⟩) NB167_165.out _).trans (((cell_far (p := ⟨gb165, _, none⟩) NB167_165.out _).trans (((cell_far (p := ⟨gb165, _, none⟩) NB167_165.out _).trans (((cell_far (p := ⟨gb165, _, none⟩) NB167_165.out _).trans (((cell_far (p := ⟨gb165, _, none⟩) NB167_165.out _).trans (hHeld.2.1)))))))))), ((cell_far (p := ⟨gb165, _, none⟩) NB167_165.out _).trans (((cell_far (p := ⟨gb165, _, none⟩) NB167_165.out _).trans (((cell_far (p := ⟨gb165, _, none⟩) NB167_165.out _).trans (((cell_far (p := ⟨gb165, _, none⟩) NB167_165.out _).trans (((cell_far (p := ⟨gb165, _, none⟩) NB167_165.out _).trans (hHeld.2.2.1)))))))))), ((cell_far (p := ⟨gb165, _, none⟩) NB167_165.out _).trans (((cell_far (p := ⟨gb165, _, none⟩) NB167_165.out _).trans (((cell_far (p := ⟨gb165, _, none⟩) NB167_165.out _).trans (((cell_far (p := ⟨gb165, _, none⟩) NB167_165.out _).trans (((cell_far (p := ⟨gb165, _, none⟩) NB167_165.out _).trans (hHeld.2.2.2.1)))))))))), ((cell_far (p := ⟨gb165, _, none⟩) NB167_165.out _).trans (((cell_far (p := ⟨gb165, _, none⟩) NB167_165.out _).trans (((cell_far (p := ⟨gb165, _, none⟩) NB167_165.out _).trans (((cell_far (p := ⟨gb165, _, none⟩) NB167_165.out _).trans (((cell_far (p := ⟨gb165, _, none⟩) NB167_165.out _).trans (hHeld.2.2.2.2))))))))))⟩ (fun hHeld => ?_)
      clear hK K
      refine KX.pq_ 7 (some 5) (KX.upTo 9 8) HT_ ?_
      refine KX.pq_ 8 (some 6) (KX.upTo 9 9) HT_ ?_
      refine done_ (done_of HT_.out (by kernel_rfl)) ?_
      try go_wp2
      refine bodyPost_ret (results_ctt rfl _ _ gb165 27 #[.int .i64 1, .string ⟨#[]⟩, .string (a0.extract (a1 : Int).toNat ((wrap64 (a1 + t166)) : Int).toNat), .slice none 0 0, .bool false] (0, 0) _ rfl (by (with_reducible repeat (first | refine blk_drewN ?_ _ | refine blk_drew ?_ | refine blk_alloc ?_ _)); refine blk_put (cs := #[.int .i64 1, .string ⟨#[]⟩, .string (a0.extract (a1 : Int).toNat ((wrap64 (a1 + t166)) : Int).toNat), .slice none 0 0, .bool false]) ?_ 4 _ rfl; (with_reducible repeat (first | refine blk_drewN ?_ _ | refine blk_drew ?_ | refine blk_alloc ?_ _)); refine blk_put (cs := #[.int .i64 1, .string ⟨#[]⟩, .string (a0.extract (a1 : Int).toNat ((wrap64 (a1 + t166)) : Int).toNat), .slice none 0 0, .bool false]) ?_ 3 _ rfl; (with_reducible repeat (first | refine blk_drewN ?_ _ | refine blk_drew ?_ | refine blk_alloc ?_ _)); refine blk_put (cs := #[.int .i64 1, .string ⟨#[]⟩, .string ⟨#[]⟩, .slice none 0 0, .bool false]) ?_ 2 _ rfl; (with_reducible repeat (first | refine blk_drewN ?_ _ | refine blk_drew ?_ | refine blk_alloc ?_ _)); refine blk_put (cs := #[.int .i64 1, .string ⟨#[]⟩, .string ⟨#[]⟩, .slice none 0 0, .bool false]) ?_ 1 _ rfl; (with_reducible repeat (first | refine blk_drewN ?_ _ | refine blk_drew ?_ | refine blk_alloc ?_ _)); refine blk_put (cs := #[.int .i64 0, .string ⟨#[]⟩, .string ⟨#[]⟩, .slice none 0 0, .bool false]) ?_ 0 _ rfl; (with_reducible repeat (first | refine blk_drewN ?_ _ | refine blk_drew ?_ | refine blk_alloc ?_ _)); exact BK165.out) Tryd.underlying27 rfl (by kernel_rfl)) rfl ?_
      exact ⟨_, by first | rfl | (simp [errW_none, errW_some] <;> rfl) | (simp [*, errW_none, errW_some] <;> rfl), by first | exact Kd.R_nil _ _ _ _ _ | exact Kd.N_nil _ _ _ _ _ | exact Kd.V_nil _ _ _ _ _ | exact Kd.Q_nil _ _ _ _ _ | exact Kd.S_nil _ _ _ _ _, by repeat (first | (with_reducible first | exact HB.out | apply below_alloc | apply pw_below_drewN | apply below_drew1 | refine below_set ?_ GE165.out | refine below_set ?_ GE167.out) | exact HB.out)⟩
     ·rw [if_neg c9] at H
      exact absurd H (by simp)
    ·rw [if_neg c8] at H
     exact absurd H (by simp)
   ·rw [if_neg c6] at H
    have c6b0 : decide (0 ≤ t166) = false := decide_eq_false c6
    clear c6
    have c24b0 := eq_true (of_decide_eq_true (by first | (with_reducible assumption) | assumption) : 0 ≤ a1)
    have c25b0 := eq_true (of_decide_eq_true (by first | (with_reducible assumption) | assumption) : a1 ≤ (a0.size : Int))
    by_cases c26 : (a0.size : Int) ≤ (a0.size : Int)
    ·rw [if_pos c26] at H
     have c26b0 := eq_true c26
     have c26b1 := decide_eq_true c26
     clear c26
     replace H := Option.bind_eq_some_iff.mp H
     obtain ⟨t170, A270, H⟩ := H
     try dsimp only at H
     have A27 := Aside0.mk A270
     clear A270
     simp only [Option.some.injEq, Prod.mk.injEq] at H
     obtain ⟨rfl, rfl, rfl, rfl, rfl, rfl, rfl⟩ := H
     go_enter Tryd.func59, Tryd.ntmps59
     try go_wp2_with (first | ((with_reducible refine gate_dst (N := 4) rfl ?_); refine box_event ?hg (N := 4) ?hd (cs := #[.int .i64 0, .string ⟨#[]⟩, .string ⟨#[]⟩, .slice none 0 0, .bool false]) (t := 27) ?hr ?_; (case hd => rfl); (case hg => rfl); (case hr => first | (go_simp; done) | (go_simp; rfl)); intro gb165 hg w28 hbox hb; have n0_ := Aside0.mk (below_step (by repeat (first | (with_reducible first | exact HB.out | apply below_alloc | apply pw_below_drewN | apply below_drew1) | exact HB.out)) hb); have n1_ := Aside0.mk (hbox); have n2_ := Aside0.mk ((by rw [hg]; exact (below_size (by repeat (first | (with_reducible first | exact HB.out | apply below_alloc | apply pw_below_drewN | apply below_drew1) | exact HB.out))) : w.heap.size ≤ gb165)); have n3_ := Aside0.mk ((by rw [hg]; exact (below_size (by repeat (first | (with_reducible first | exact HB.out | apply below_alloc | apply pw_below_drewN | apply below_drew1) | exact HB.out))) : w.heap.size ≤ gb165)); clear HB; have HB := n0_; have BK165 := n1_; have GW165 := n2_; have GE165 := n3_; clear n0_ n1_ n2_ n3_; clear hb hbox hg) | ((with_reducible refine gate_callee (f := 85) rfl ?_); refine goesL_ (some 15) rfl rfl Tryd.func85 (by kernel_rfl) rfl #[.string (a0.extract (a1 : Int).toNat a0.size), .string ⟨#[60, 38]⟩] rfl (by (try simp only [List.map_toArray, List.map_cons, List.map_nil]); first | done | rfl | (simp only [List.length_drop, List.length_take]; rfl)) ?_; (with_reducible refine (strings_IndexAny.calls (a0.extract (a1 : Int).toNat a0.size) (⟨#[60, 38]⟩ : ByteArray) t166 _ (Env.below HE.out (by repeat (first | (with_reducible first | exact HB.out | apply below_alloc | apply pw_below_drewN | apply below_drew1 | refine below_set ?_ GE165.out) | exact HB.out))) A5.out).mono ?_); rintro e w29 ⟨rfl, hb⟩; refine ⟨_, rfl, ?_⟩; have n0_ := Aside0.mk (blk_below (g := gb165) (o := .cells #[.int .i64 0, .string ⟨#[]⟩, .string ⟨#[]⟩, .slice none 0 0, .bool false] 27 (0, 0)) (by (with_reducible repeat (first | refine blk_drewN ?_ _ | refine blk_drew ?_ | refine blk_alloc ?_ _)); exact BK165.out) hb); have n1_ := Aside0.mk (below_step (by repeat (first | (with_reducible first | exact HB.out | apply below_alloc | apply pw_below_drewN | apply below_drew1 | refine below_set ?_ GE165.out) | exact HB.out)) hb); clear BK165; clear HB; have BK165 := n0_; have HB := n1_; clear n0_ n1_; (try clear hb); (try clear hb2); (try clear hk); (try clear hi)) | ((with_reducible refine gate_dst (N := 9) rfl ?_); refine box_event ?hg (N := 9) ?hd (cs := #[.int .i64 0, .string ⟨#[]⟩, .string ⟨#[]⟩, .slice none 0 0, .bool false]) (t := 27) ?hr ?_; (case hd => rfl); (case hg => rfl); (case hr => first | (go_simp; done) | (go_simp; rfl)); intro gb169 hg w30 hbox hb; have n0_ := Aside0.mk (blk_below (g := gb165) (o := .cells #[.int .i64 0, .string ⟨#[]⟩, .string ⟨#[]⟩, .slice none 0 0, .bool false] 27 (0, 0)) (by (with_reducible repeat (first | refine blk_drewN ?_ _ | refine blk_drew ?_ | refine blk_alloc ?_ _)); exact BK165.out) hb); have n1_ := Aside0.mk (below_step (by repeat (first | (with_reducible first | exact HB.out | apply below_alloc | apply pw_below_drewN | apply below_drew1 | refine below_set ?_ GE165.out) | exact HB.out)) hb); have n2_ := Aside0.mk (hbox); have n3_ := Aside0.mk ((by rw [hg]; exact (below_size (by repeat (first | (with_reducible first | exact HB.out | apply below_alloc | apply pw_below_drewN | apply below_drew1 | refine below_set ?_ GE165.out) | exact HB.out))) : w.heap.size ≤ gb169)); have n4_ := Aside0.mk ((by rw [hg]; exact (below_size (by repeat (first | (with_reducible first | exact HB.out | apply below_alloc | apply pw_below_drewN | apply below_drew1 | refine below_set ?_ GE165.out) | exact HB.out))) : w.heap.size ≤ gb169)); have n5_ := Aside0.mk ((by rw [hg]; exact Nat.ne_of_lt (blk_lt (g := gb165) (o := .cells #[.int .i64 0, .string ⟨#[]⟩, .string ⟨#[]⟩, .slice none 0 0, .bool false] 27 (0, 0)) (by (with_reducible repeat (first | refine blk_drewN ?_ _ | refine blk_drew ?_ | refine blk_alloc ?_ _)); exact BK165.out)) : gb165 ≠ gb169)); have n6_ := Aside0.mk ((by rw [hg]; exact Nat.ne_of_gt (blk_lt (g := gb165) (o := .cells #[.int .i64 0, .string ⟨#[]⟩, .string ⟨#[]⟩, .slice none 0 0, .bool false] 27 (0, 0)) (by (with_reducible repeat (first | refine blk_drewN ?_ _ | refine blk_drew ?_ | refine blk_alloc ?_ _)); exact BK165.out)) : gb169 ≠ gb165)); clear BK165; clear HB; have BK165 := n0_; have HB := n1_; have BK169 := n2_; have GW169 := n3_; have GE169 := n4_; have NB165_169 := n5_; have NB169_165 := n6_; clear n0_ n1_ n2_ n3_ n4_ n5_ n6_; clear hb hbox hg; have hnb31 := NB169_165.out; have hnc31 := NB165_169.out; have hcz32_0 : w30.cell? ⟨gb169, 0, none⟩ = some (.int .i64 0) := (blk_cell BK169.out 0).trans rfl; have hcz32_1 : w30.cell? ⟨gb169, 1, none⟩ = some (.string ⟨#[]⟩) := (blk_cell BK169.out 1).trans rfl; have hcz32_2 : w30.cell? ⟨gb169, 2, none⟩ = some (.string ⟨#[]⟩) := (blk_cell BK169.out 2).trans rfl; have hcz32_3 : w30.cell? ⟨gb169, 3, none⟩ = some (.slice none 0 0) := (blk_cell BK169.out 3).trans rfl; have hcz32_4 : w30.cell? ⟨gb169, 4, none⟩ = some (.bool false) := (blk_cell BK169.out 4).trans rfl; have hfz32_0 := blk_frozen BK169.out 0; have hfz32_1 := blk_frozen BK169.out 1; have hfz32_2 := blk_frozen BK169.out 2; have hfz32_3 := blk_frozen BK169.out 3; have hfz32_4 := blk_frozen BK169.out 4))
     have n0_ : Aside0 ((((((w30.setCell ⟨gb169, 0, none⟩ (.int .i64 1)).setCell ⟨gb169, 1, none⟩ (.string ⟨#[]⟩)).setCell ⟨gb169, 2, none⟩ (.string (a0.extract (a1 : Int).toNat a0.size))).setCell ⟨gb169, 3, none⟩ (.slice none 0 0)).setCell ⟨gb169, 4, none⟩ (.bool false)).heap[gb165]? = some (.cells #[.int .i64 0, .string ⟨#[]⟩, .string ⟨#[]⟩, .slice none 0 0, .bool false] 27 (0, 0))) := ⟨by (with_reducible repeat (first | refine blk_drewN ?_ _ | refine blk_drew ?_ | refine blk_alloc ?_ _)); refine blk_far ?_ NB165_169.out _; (with_reducible repeat (first | refine blk_drewN ?_ _ | refine blk_drew ?_ | refine blk_alloc ?_ _)); refine blk_far ?_ NB165_169.out _; (with_reducible repeat (first | refine blk_drewN ?_ _ | refine blk_drew ?_ | refine blk_alloc ?_ _)); refine blk_far ?_ NB165_169.out _; (with_reducible repeat (first | refine blk_drewN ?_ _ | refine blk_drew ?_ | refine blk_alloc ?_ _)); refine blk_far ?_ NB165_169.out _; (with_reducible repeat (first | refine blk_drewN ?_ _ | refine blk_drew ?_ | refine blk_alloc ?_ _)); refine blk_far ?_ NB165_169.out _; (with_reducible repeat (first | refine blk_drewN ?_ _ | refine blk_drew ?_ | refine blk_alloc ?_ _)); exact BK165.out⟩
     have n1_ : Aside0 ((((((w30.setCell ⟨gb169, 0, none⟩ (.int .i64 1)).setCell ⟨gb169, 1, none⟩ (.string ⟨#[]⟩)).setCell ⟨gb169, 2, none⟩ (.string (a0.extract (a1 : Int).toNat a0.size))).setCell ⟨gb169, 3, none⟩ (.slice none 0 0)).setCell ⟨gb169, 4, none⟩ (.bool false)).heap[gb169]? = some (.cells #[.int .i64 1, .string ⟨#[]⟩, .string (a0.extract (a1 : Int).toNat a0.size), .slice none 0 0, .bool false] 27 (0, 0))) := ⟨by (with_reducible repeat (first | refine blk_drewN ?_ _ | refine blk_drew ?_ | refine blk_alloc ?_ _)); refine blk_put (cs := #[.int .i64 1, .string ⟨#[]⟩, .string (a0.extract (a1 : Int).toNat a0.size), .slice none 0 0, .bool false]) ?_ 4 _ rfl; (with_reducible repeat (first | refine blk_drewN ?_ _ | refine blk_drew ?_ | refine blk_alloc ?_ _)); refine blk_put (cs := #[.int .i64 1, .string ⟨#[]⟩, .string (a0.extract (a1 : Int).toNat a0.size), .slice none 0 0, .bool false]) ?_ 3 _ rfl; (with_reducible repeat (first | refine blk_drewN ?_ _ | refine blk_drew ?_ | refine blk_alloc ?_ _)); refine blk_put (cs := #[.int .i64 1, .string ⟨#[]⟩, .string ⟨#[]⟩, .slice none 0 0, .bool false]) ?_ 2 _ rfl; (with_reducible repeat (first | refine blk_drewN ?_ _ | refine blk_drew ?_ | refine blk_alloc ?_ _)); refine blk_put (cs := #[.int .i64 1, .string ⟨#[]⟩, .string ⟨#[]⟩, .slice none 0 0, .bool false]) ?_ 1 _ rfl; (with_reducible repeat (first | refine blk_drewN ?_ _ | refine blk_drew ?_ | refine blk_alloc ?_ _)); refine blk_put (cs := #[.int .i64 0, .string ⟨#[]⟩, .string ⟨#[]⟩, .slice none 0 0, .bool false]) ?_ 0 _ rfl; (with_reducible repeat (first | refine blk_drewN ?_ _ | refine blk_drew ?_ | refine blk_alloc ?_ _)); exact BK169.out⟩
     have n2_ : Aside0 (Below w.heap.size w (((((w30.setCell ⟨gb169, 0, none⟩ (.int .i64 1)).setCell ⟨gb169, 1, none⟩ (.string ⟨#[]⟩)).setCell ⟨gb169, 2, none⟩ (.string (a0.extract (a1 : Int).toNat a0.size))).setCell ⟨gb169, 3, none⟩ (.slice none 0 0)).setCell ⟨gb169, 4, none⟩ (.bool false))) := ⟨by repeat (first | (with_reducible first | exact HB.out | apply below_alloc | apply pw_below_drewN | apply below_drew1 | refine below_set ?_ GE165.out | refine below_set ?_ GE169.out) | exact HB.out)⟩
     (try clear BK165)
     (try clear BK169)
     (try clear HB)
     generalize (((((w30.setCell ⟨gb169, 0, none⟩ (.int .i64 1)).setCell ⟨gb169, 1, none⟩ (.string ⟨#[]⟩)).setCell ⟨gb169, 2, none⟩ (.string (a0.extract (a1 : Int).toNat a0.size))).setCell ⟨gb169, 3, none⟩ (.slice none 0 0)).setCell ⟨gb169, 4, none⟩ (.bool false)) = w33 at n0_ n1_ n2_ ⊢
     have BK165 := n0_
     have BK169 := n1_
     have HB := n2_
     clear n0_ n1_ n2_
     have n0_ := Aside0.mk (blk_drew BK165.out)
     have n1_ := Aside0.mk (blk_drew BK169.out)
     have n2_ := Aside0.mk (below_drew1 HB.out)
     clear BK165
     clear BK169
     clear HB
     have BK165 := n0_
     have BK169 := n1_
     have HB := n2_
     clear n0_ n1_ n2_
     refine start_ (n := 9) (S := fun w' => w'.cell? ⟨gb169, 0, none⟩ = some (.int .i64 1) ∧ w'.cell? ⟨gb169, 1, none⟩ = some (.string ⟨#[]⟩) ∧ w'.cell? ⟨gb169, 2, none⟩ = some (.string (a0.extract (a1 : Int).toNat a0.size)) ∧ w'.cell? ⟨gb169, 3, none⟩ = some (.slice none 0 0) ∧ w'.cell? ⟨gb169, 4, none⟩ = some (.bool false)) (ds := []) (KX.upTo 9 0) (by kernel_rfl) rfl rfl ⟨(blk_cell BK169.out 0).trans rfl, (blk_cell BK169.out 1).trans rfl, (blk_cell BK169.out 2).trans rfl, (blk_cell BK169.out 3).trans rfl, (blk_cell BK169.out 4).trans rfl⟩ (fun hHeld => ?_); refine with_tabW token_plain.tab6 token_plain.bits6 (fun HT_ HW_ => ?_)
     generalize w33.drew = w34 at BK165 BK169 HB hHeld ⊢
     refine KX.pq_ 1 (some 27) #[false, true, false, false, false, false, false, false, false] HT_ ?_
     refine KX.pq_ 2 (some 28) #[false, true, true, false, false, false, false, false, false] HT_ ?_
     refine take_ (i := 0) (N := some 26) (v := ?_) (a' := ?_) (KX.upTo 9 3) rfl rfl (take_ofW HT_.out HW_.out (by kernel_rfl)) (fun _ _ _ h => h) (Or.inl ⟨by rfl, ?_⟩) hHeld ?_ ?_
     rotate_left
     ·rintro w' ⟨s0, s1, s2, s3, s4⟩
      go_simp
      with_reducible rfl
     rotate_left
     ·simp only [Act.put, List.setIfInBounds_toArray, List.set_cons_zero, List.set_cons_succ, i64_w, i32_w]
      rfl
     refine take_ (i := 3) (N := some 29) (v := ?_) (a' := ?_) (KX.upTo 9 4) rfl rfl (take_ofW HT_.out HW_.out (by kernel_rfl)) (fun _ _ _ h => h) (Or.inl ⟨by rfl, ?_⟩) hHeld ?_ ?_
     rotate_left
     ·rintro w' ⟨s0, s1, s2, s3, s4⟩
      go_simp
      with_reducible rfl
     rotate_left
     ·simp only [Act.put, List.setIfInBounds_toArray, List.set_cons_zero, List.set_cons_succ, i64_w, i32_w]
      rfl
     refine one_ (i := 4) (N := some 30) (KX.upTo 9 5) rfl rfl (one_of HT_.out (by kernel_rfl)) (by decide) (fun K hK => ?_)
     refine goes_ Tryd.func80 (by kernel_rfl) rfl #[.string (a0.extract (a1 : Int).toNat a0.size), .string ⟨#[93, 93, 62]⟩] (by rfl) rfl rfl (by (try simp only [List.map_toArray, List.map_cons, List.map_nil]); first | done | rfl | (simp only [List.length_drop, List.length_take]; rfl)) ?_
     with_reducible refine (strings_Contains.calls (a0.extract (a1 : Int).toNat a0.size) (⟨#[93, 93, 62]⟩ : ByteArray) t170 _ (Env.below HE.out (by repeat (first | (with_reducible first | exact HB.out | apply below_alloc | apply pw_below_drewN | apply below_drew1 | refine below_set ?_ GE165.out | refine below_set ?_ GE169.out) | exact HB.out))) A27.out).mono ?_
     rintro e w35 ⟨rfl, hb⟩
     refine ⟨_, rfl, ?_⟩
     have n0_ := Aside0.mk (blk_below (g := gb165) (o := .cells #[.int .i64 0, .string ⟨#[]⟩, .string ⟨#[]⟩, .slice none 0 0, .bool false] 27 (0, 0)) (by (with_reducible repeat (first | refine blk_drewN ?_ _ | refine blk_drew ?_ | refine blk_alloc ?_ _)); exact BK165.out) hb)
     have n1_ := Aside0.mk (blk_below (g := gb169) (o := .cells #[.int .i64 1, .string ⟨#[]⟩, .string (a0.extract (a1 : Int).toNat a0.size), .slice none 0 0, .bool false] 27 (0, 0)) (by (with_reducible repeat (first | refine blk_drewN ?_ _ | refine blk_drew ?_ | refine blk_alloc ?_ _)); exact BK169.out) hb)
     have n2_ := Aside0.mk (below_step (by repeat (first | (with_reducible first | exact HB.out | apply below_alloc | apply pw_below_drewN | apply below_drew1 | refine below_set ?_ GE165.out | refine below_set ?_ GE169.out) | exact HB.out)) hb)
     clear BK165
     clear BK169
     clear HB
     have BK165 := n0_
     have BK169 := n1_
     have HB := n2_
     clear n0_ n1_ n2_
     (try clear hb)
     (try clear hb2)
     (try clear hk)
     (try clear hi)
     refine hK.out _ _ ⟨(blk_cell BK169.out 0).trans rfl, (blk_cell BK169.out 1).trans rfl, (blk_cell BK169.out 2).trans rfl, (blk_cell BK169.out 3).trans rfl, (blk_cell BK169.out 4).trans rfl⟩ (fun hHeld => ?_)
     clear hK K
     refine norm_ (a' := ?_) ?_ ?_
     rotate_left
     ·show Act.put _ (some 30) _ = _
      simp only [Act.put, List.setIfInBounds_toArray, List.set_cons_zero, List.set_cons_succ, i64_w, i32_w]
      rfl
     refine KX.pq_ 5 (some 31) (KX.upTo 9 6) HT_ ?_
     refine one_ (i := 6) (N := none) (KX.upTo 9 7) rfl rfl (one_of HT_.out (by kernel_rfl)) (by decide) (fun K hK => ?_)
     have hs36 : w35.cell? ⟨gb165, 0, none⟩ = some (.int .i64 0) := (blk_cell BK165.out 0).trans rfl
     have hfs36 := blk_frozen BK165.out 0
     have hns36_1 := NB169_165.out
     have hms36_1 := NB165_169.out
     have hs37 : w35.cell? ⟨gb165, 1, none⟩ = some (.string ⟨#[]⟩) := (blk_cell BK165.out 1).trans rfl
     have hfs37 := blk_frozen BK165.out 1
     have hns37_1 := NB169_165.out
     have hms37_1 := NB165_169.out
     have hs38 : w35.cell? ⟨gb165, 2, none⟩ = some (.string ⟨#[]⟩) := (blk_cell BK165.out 2).trans rfl
     have hfs38 := blk_frozen BK165.out 2
     have hns38_1 := NB169_165.out
     have hms38_1 := NB165_169.out
     have hs39 : w35.cell? ⟨gb165, 3, none⟩ = some (.slice none 0 0) := (blk_cell BK165.out 3).trans rfl
     have hfs39 := blk_frozen BK165.out 3
     have hns39_1 := NB169_165.out
     have hms39_1 := NB165_169.out
     have hs40 : w35.cell? ⟨gb165, 4, none⟩ = some (.bool false) := (blk_cell BK165.out 4).trans rfl
     have hfs40 := blk_frozen BK165.out 4
     have hns40_1 := NB169_165.out
     have hms40_1 := NB165_169.out
     refine skip_ (w1 := ?_) (by rfl) rfl ?_ ?_
     rotate_left
     ·go_simp
      rfl
     refine hK.out _ _ ⟨((cell_far (p := ⟨gb165, _, none⟩) NB169_165.out _).trans (((cell_far (p := ⟨gb165, _, none⟩) NB169_165.out _).trans (((cell_far (p := ⟨gb165, _, none⟩) NB169_165.out _).trans (((cell_far (p := ⟨gb165, _, none⟩) NB169_165.out _).trans (((cell_far (p := ⟨gb165, _, none⟩) NB169_165.out _).trans (hHeld.1)))))))))), ((cell_far (p := ⟨gb165, _, none⟩) NB169_165.out _).trans (((cell_far (p := ⟨gb165, _, none⟩) NB169_165.out _).trans (((cell_far (p := ⟨gb165, _, none⟩) NB169_165.out _).trans (((cell_far (p := ⟨gb165, _, none⟩) NB169_165.out _).trans (((cell_far (p := ⟨gb165, _, none⟩) NB169_165.out _).trans (hHeld.2.1)))))))))), ((cell_far (p := ⟨gb165, _, none⟩) NB169_165.out _).trans (((cell_far (p := ⟨gb165, _, none⟩) NB169_165.out _).trans (((cell_far (p := ⟨gb165, _, none⟩) NB169_165.out _).trans (((cell_far (p := ⟨gb165, _, none⟩) NB169_165.out _).trans (((cell_far (p := ⟨gb165, _, none⟩) NB169_165.out _).trans (hHeld.2.2.1)))))))))), ((cell_far (p := ⟨gb165, _, none⟩) NB169_165.out _).trans (((cell_far (p := ⟨gb165, _, none⟩) NB169_165.out _).trans (((cell_far (p := ⟨gb165, _, none⟩) NB169_165.out _).trans (((cell_far (p := ⟨gb165, _, none⟩) NB169_165.out _).trans (((cell_far (p := ⟨gb165, _, none⟩) NB169_165.out _).trans (hHeld.2.2.2.1)))))))))), ((cell_far (p := ⟨gb165, _, none⟩) NB169_165.out _).trans (((cell_far (p := ⟨gb165, _, none⟩) NB169_165.out _).trans (((cell_far (p := ⟨gb165, _, none⟩) NB169_165.out _).trans (((cell_far (p := ⟨gb165, _, none⟩) NB169_165.out _).trans (((cell_far (p := ⟨gb165, _, none⟩) NB169_165.out _).trans (hHeld.2.2.2.2))))))))))⟩ (fun hHeld => ?_)
     clear hK K
     refine KX.pq_ 7 (some 5) (KX.upTo 9 8) HT_ ?_
     refine KX.pq_ 8 (some 6) (KX.upTo 9 9) HT_ ?_
     refine done_ (done_of HT_.out (by kernel_rfl)) ?_
     try go_wp2
     refine bodyPost_ret (results_ctt rfl _ _ gb165 27 #[.int .i64 1, .string ⟨#[]⟩, .string (a0.extract (a1 : Int).toNat a0.size), .slice none 0 0, .bool false] (0, 0) _ rfl (by (with_reducible repeat (first | refine blk_drewN ?_ _ | refine blk_drew ?_ | refine blk_alloc ?_ _)); refine blk_put (cs := #[.int .i64 1, .string ⟨#[]⟩, .string (a0.extract (a1 : Int).toNat a0.size), .slice none 0 0, .bool false]) ?_ 4 _ rfl; (with_reducible repeat (first | refine blk_drewN ?_ _ | refine blk_drew ?_ | refine blk_alloc ?_ _)); refine blk_put (cs := #[.int .i64 1, .string ⟨#[]⟩, .string (a0.extract (a1 : Int).toNat a0.size), .slice none 0 0, .bool false]) ?_ 3 _ rfl; (with_reducible repeat (first | refine blk_drewN ?_ _ | refine blk_drew ?_ | refine blk_alloc ?_ _)); refine blk_put (cs := #[.int .i64 1, .string ⟨#[]⟩, .string ⟨#[]⟩, .slice none 0 0, .bool false]) ?_ 2 _ rfl; (with_reducible repeat (first | refine blk_drewN ?_ _ | refine blk_drew ?_ | refine blk_alloc ?_ _)); refine blk_put (cs := #[.int .i64 1, .string ⟨#[]⟩, .string ⟨#[]⟩, .slice none 0 0, .bool false]) ?_ 1 _ rfl; (with_reducible repeat (first | refine blk_drewN ?_ _ | refine blk_drew ?_ | refine blk_alloc ?_ _)); refine blk_put (cs := #[.int .i64 0, .string ⟨#[]⟩, .string ⟨#[]⟩, .slice none 0 0, .bool false]) ?_ 0 _ rfl; (with_reducible repeat (first | refine blk_drewN ?_ _ | refine blk_drew ?_ | refine blk_alloc ?_ _)); exact BK165.out) Tryd.underlying27 rfl (by kernel_rfl)) rfl ?_
     exact ⟨_, by first | rfl | (simp [errW_none, errW_some] <;> rfl) | (simp [*, errW_none, errW_some] <;> rfl), by first | exact Kd.R_nil _ _ _ _ _ | exact Kd.N_nil _ _ _ _ _ | exact Kd.V_nil _ _ _ _ _ | exact Kd.Q_nil _ _ _ _ _ | exact Kd.S_nil _ _ _ _ _, by repeat (first | (with_reducible first | exact HB.out | apply below_alloc | apply pw_below_drewN | apply below_drew1 | refine below_set ?_ GE165.out | refine below_set ?_ GE169.out) | exact HB.out)⟩
    ·rw [if_neg c26] at H
     exact absurd H (by simp)
  ·rw [if_neg c4] at H
   exact absurd H (by simp)
 ·rw [if_neg c3] at H
  exact absurd H (by simp)

end Go.Proofs.YtmjdjpelhhibgaaDoor.R1
