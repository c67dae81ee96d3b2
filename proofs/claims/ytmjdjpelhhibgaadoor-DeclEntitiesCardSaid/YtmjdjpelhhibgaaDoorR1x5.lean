-- written by wip/gen.py (this session's own driver of the kit's printer); Lean checks it
import Derived.Test.YtmjdjpelhhibgaaDoorKX
import Derived.Test.YtmjdjpelhhibgaaDoorR1x0
import Derived.Test.YtmjdjpelhhibgaaDoorR1x2
namespace Go.Proofs.YtmjdjpelhhibgaaDoor.R1
open Go.Proofs.YtmjdjpelhhibgaaDoor.Giv
open Go.RowKit Go.Proofs.YtmjdjpelhhibgaaDoorW.PrintWords Go.Proofs.YtmjdjpelhhibgaaDoorW.PrintLast Go.Proofs.YtmjdjpelhhibgaaDoorW.PrintMore
attribute [local go_sem] max2_int min2_int max_two min_two max_three min_three max_four min_four   -- for this text's walks alone
set_option linter.unusedVariables false
set_option linter.unusedSimpArgs false

/-! ### token_attr: function 84 -/
mutual
def token_attr.j0 : Nat → ByteArray → Int → Bool → ByteArray → ByteArray → Option (ByteArray × ByteArray × Int × Bool)
 | 0, _, _, _, _, _ => none
 | k + 1, x0, x7, x32, x134000, x134001 => if x32 = true then (some (x134000, x134001, x7, false)) else ((token_Spaces.f x0 (wrap64 (x7 + 1))).bind fun t137 => (if t137 = (x0.size : Int) then (token_attr.j1 k x0 t137 true x134000 x134001) else (if 0 ≤ t137 then (if t137 < (x0.size : Int) then (if (bt x0 t137) = 34 then (token_attr.j1 k x0 t137 false x134000 x134001) else (token_attr.j1 k x0 t137 ((bt x0 t137) != 39) x134000 x134001)) else (none)) else (none))))
def token_attr.j1 : Nat → ByteArray → Int → Bool → ByteArray → ByteArray → Option (ByteArray × ByteArray × Int × Bool)
 | 0, _, _, _, _, _ => none
 | k + 1, x0, x7, x54, x134000, x134001 => if x54 = true then (some (x134000, x134001, x7, false)) else (if 0 ≤ x7 then (if x7 ≤ (wrap64 (x7 + 1)) then (if (wrap64 (x7 + 1)) ≤ (x0.size : Int) then ((token_upto.f x0 (wrap64 (x7 + 1)) (x0.extract (x7 : Int).toNat ((wrap64 (x7 + 1)) : Int).toNat)).bind fun bt138 => (if bt138.2.2 = true then ((strings_Contains.f bt138.1 (⟨#[60]⟩ : ByteArray)).bind fun t141 => (some (x134000, bt138.1, bt138.2.1, !t141))) else (some (x134000, bt138.1, bt138.2.1, false)))) else (none)) else (none)) else (none))
end
def token_attr.f (k : Nat) (a0 : ByteArray) (a1 : Int) : Option (ByteArray × ByteArray × Int × Bool) := (token_Word.f a0 a1).bind fun t132 => (if 0 ≤ a1 then (if a1 ≤ t132 then (if t132 ≤ (a0.size : Int) then ((token_Spaces.f a0 t132).bind fun t134 => ((runes_Name.f (a0.extract (a1 : Int).toNat (t132 : Int).toNat)).bind fun t135 => (if t135 = true then (if 0 ≤ t134 then (if t134 ≤ (a0.size : Int) then ((strings_HasPrefix.f (a0.extract (t134 : Int).toNat a0.size) (⟨#[61]⟩ : ByteArray)).bind fun t136 => (token_attr.j0 k a0 t134 (!t136) (a0.extract (a1 : Int).toNat (t132 : Int).toNat) (⟨#[]⟩ : ByteArray))) else (none)) else (none)) else (token_attr.j0 k a0 t134 true (a0.extract (a1 : Int).toNat (t132 : Int).toNat) (⟨#[]⟩ : ByteArray))))) else (none)) else (none)) else (none))
theorem token_attr.mono_l : ∀ k, (∀ y0 y1 y2 y3 y4, LeO (token_attr.j0 k y0 y1 y2 y3 y4) (token_attr.j0 (k + 1) y0 y1 y2 y3 y4)) ∧ (∀ y0 y1 y2 y3 y4, LeO (token_attr.j1 k y0 y1 y2 y3 y4) (token_attr.j1 (k + 1) y0 y1 y2 y3 y4))
 | 0 => ⟨fun _ _ _ _ _ r h => by simp [token_attr.j0] at h, fun _ _ _ _ _ r h => by simp [token_attr.j1] at h⟩
 | k + 1 => by
  obtain ⟨ih0, ih1⟩ := token_attr.mono_l k
  refine ⟨?_, ?_⟩
  ·intro y0 y1 y2 y3 y4
   unfold token_attr.j0
   repeat' first
   | (with_reducible exact ih0 _ _ _ _ _)
   | (with_reducible exact ih1 _ _ _ _ _)
   | (with_reducible exact LeO.refl _)
   | (with_reducible exact LeO.none _)
   | (with_reducible refine LeO.ite ?_ ?_)
   | (with_reducible refine LeO.bind ?_ (fun _ => ?_))
   | exact ih0 _ _ _ _ _
   | exact ih1 _ _ _ _ _
   | exact LeO.none _
   | refine LeO.ite ?_ ?_
   | refine LeO.bind ?_ (fun _ => ?_)
  ·intro y0 y1 y2 y3 y4
   unfold token_attr.j1
   repeat' first
   | (with_reducible exact ih0 _ _ _ _ _)
   | (with_reducible exact ih1 _ _ _ _ _)
   | (with_reducible exact LeO.refl _)
   | (with_reducible exact LeO.none _)
   | (with_reducible refine LeO.ite ?_ ?_)
   | (with_reducible refine LeO.bind ?_ (fun _ => ?_))
   | exact ih0 _ _ _ _ _
   | exact ih1 _ _ _ _ _
   | exact LeO.none _
   | refine LeO.ite ?_ ?_
   | refine LeO.bind ?_ (fun _ => ?_)
theorem token_attr.mono : ∀ a0 a1 k, LeO (token_attr.f k a0 a1) (token_attr.f (k + 1) a0 a1) := by
 intro a0 a1 k
 obtain ⟨ih0, ih1⟩ := token_attr.mono_l k
 unfold token_attr.f
 repeat' first
   | (with_reducible exact ih0 _ _ _ _ _)
   | (with_reducible exact ih1 _ _ _ _ _)
   | (with_reducible exact LeO.refl _)
   | (with_reducible exact LeO.none _)
   | (with_reducible refine LeO.ite ?_ ?_)
   | (with_reducible refine LeO.bind ?_ (fun _ => ?_))
   | exact ih0 _ _ _ _ _
   | exact ih1 _ _ _ _ _
   | exact LeO.none _
   | refine LeO.ite ?_ ?_
   | refine LeO.bind ?_ (fun _ => ?_)
def token_attr.T11 : Bool × List (List Nat × List Nat) := (true, [([], []), ([], []), ([], []), ([2], [2]), ([3], [3]), ([4, 3, 3], [3, 4]), ([5, 3], [3, 5]), ([3, 6], [3, 6]), ([0, 5, 0], [0]), ([1, 8, 0, 1, 8], [1]), ([7, 9, 0, 1, 2, 3, 4, 5, 6, 7, 8, 9], [7])])
def token_attr.B11 : List Nat := [0, 0, 0, 4, 12, 28, 60, 124, 61, 319, 1023]
theorem token_attr.tab11 : rtab .any (opsOf Tryd.f84 11) = token_attr.T11 := by kernel_rfl
theorem token_attr.bits11 : waitsOk token_attr.T11.2 token_attr.B11 = true := by kernel_rfl
set_option maxHeartbeats 8000000 in
set_option maxRecDepth 100000 in
theorem token_attr.calls (k : Nat) (a0 : ByteArray) (a1 : Int) (r1 : ByteArray) (r2 : ByteArray) (r3 : Int) (r4 : Bool) (w : World) (hE : Env w) (h : token_attr.f k a0 a1 = some (r1, r2, r3, r4)) :
  Calls Tryd.prog 84 #[.string a0, .int .i64 a1] w fun e w' => e = .returned (.tuple #[.agg #[.string r1, .string r2], .int .i64 r3, .bool r4]) ∧ Below w.heap.size w w' := by
 have hu42 := Tryd.underlying42
 have HE := Aside0.mk hE
 clear hE
 have HB := Aside0.mk (Below.refl w.heap.size w)
 have H : ((token_Word.f a0 a1).bind fun t132 => (if 0 ≤ a1 then (if a1 ≤ t132 then (if t132 ≤ (a0.size : Int) then ((token_Spaces.f a0 t132).bind fun t134 => ((runes_Name.f (a0.extract (a1 : Int).toNat (t132 : Int).toNat)).bind fun t135 => (if t135 = true then (if 0 ≤ t134 then (if t134 ≤ (a0.size : Int) then ((strings_HasPrefix.f (a0.extract (t134 : Int).toNat a0.size) (⟨#[61]⟩ : ByteArray)).bind fun t136 => (token_attr.j0 k a0 t134 (!t136) (a0.extract (a1 : Int).toNat (t132 : Int).toNat) (⟨#[]⟩ : ByteArray))) else (none)) else (none)) else (token_attr.j0 k a0 t134 true (a0.extract (a1 : Int).toNat (t132 : Int).toNat) (⟨#[]⟩ : ByteArray))))) else (none)) else (none)) else (none))) = some (r1, r2, r3, r4) := h
 clear h
 replace H := Option.bind_eq_some_iff.mp H
 obtain ⟨t132, A30, H⟩ := H
 try dsimp only at H
 have A3 := Aside0.mk A30
 clear A30
 by_cases c4 : 0 ≤ a1
 ·rw [if_pos c4] at H
  have c4b0 := eq_true c4
  have c4b1 := decide_eq_true c4
  clear c4
  by_cases c5 : a1 ≤ t132
  ·rw [if_pos c5] at H
   have c5b0 := eq_true c5
   have c5b1 := decide_eq_true c5
   clear c5
   by_cases c6 : t132 ≤ (a0.size : Int)
   ·rw [if_pos c6] at H
    have c6b0 := eq_true c6
    have c6b1 := decide_eq_true c6
    clear c6
    replace H := Option.bind_eq_some_iff.mp H
    obtain ⟨t134, A70, H⟩ := H
    try dsimp only at H
    have A7 := Aside0.mk A70
    clear A70
    have HC8 := Aside0.mk H
    clear H
    go_enter Tryd.func84, Tryd.ntmps84
    go_upto_region 4 with (first | ((with_reducible refine gate_dst (N := 4) rfl ?_); refine box_event ?hg (N := 4) ?hd (cs := #[.string ⟨#[]⟩, .string ⟨#[]⟩]) (t := 42) ?hr ?_; (case hd => rfl); (case hg => rfl); (case hr => first | (go_simp; done) | (go_simp; rfl)); intro gb131 hg w9 hbox hb; have n0_ := Aside0.mk (below_step (by repeat (first | (with_reducible first | exact HB.out | apply below_alloc | apply pw_below_drewN | apply below_drew1) | exact HB.out)) hb); have n1_ := Aside0.mk (hbox); have n2_ := Aside0.mk ((by rw [hg]; exact (below_size (by repeat (first | (with_reducible first | exact HB.out | apply below_alloc | apply pw_below_drewN | apply below_drew1) | exact HB.out))) : w.heap.size ≤ gb131)); have n3_ := Aside0.mk ((by rw [hg]; exact (below_size (by repeat (first | (with_reducible first | exact HB.out | apply below_alloc | apply pw_below_drewN | apply below_drew1) | exact HB.out))) : w.heap.size ≤ gb131)); clear HB; have HB := n0_; have BK131 := n1_; have GW131 := n2_; have GE131 := n3_; clear n0_ n1_ n2_ n3_; clear hb hbox hg) | ((with_reducible refine gate_callee (f := 69) rfl ?_); refine goesL_ (some 13) rfl rfl Tryd.func69 (by kernel_rfl) rfl #[.string a0, .int .i64 a1] rfl (by (try simp only [List.map_toArray, List.map_cons, List.map_nil]); first | done | rfl | (simp only [List.length_drop, List.length_take]; rfl)) ?_; (with_reducible refine (token_Word.calls a0 a1 t132 _ (Env.below HE.out (by repeat (first | (with_reducible first | exact HB.out | apply below_alloc | apply pw_below_drewN | apply below_drew1 | refine below_set ?_ GE131.out) | exact HB.out))) A3.out).mono ?_); rintro e w10 ⟨rfl, hb⟩; refine ⟨_, rfl, ?_⟩; have n0_ := Aside0.mk (blk_below (g := gb131) (o := .cells #[.string ⟨#[]⟩, .string ⟨#[]⟩] 42 (0, 0)) (by (with_reducible repeat (first | refine blk_drewN ?_ _ | refine blk_drew ?_ | refine blk_alloc ?_ _)); exact BK131.out) hb); have n1_ := Aside0.mk (below_step (by repeat (first | (with_reducible first | exact HB.out | apply below_alloc | apply pw_below_drewN | apply below_drew1 | refine below_set ?_ GE131.out) | exact HB.out)) hb); clear BK131; clear HB; have BK131 := n0_; have HB := n1_; clear n0_ n1_; (try clear hb); (try clear hb2); (try clear hk); (try clear hi)) | ((with_reducible refine gate_dst (N := 8) rfl ?_); refine box_event ?hg (N := 8) ?hd (cs := #[.string ⟨#[]⟩, .string ⟨#[]⟩]) (t := 42) ?hr ?_; (case hd => rfl); (case hg => rfl); (case hr => first | (go_simp; done) | (go_simp; rfl)); intro gb133 hg w11 hbox hb; have n0_ := Aside0.mk (blk_below (g := gb131) (o := .cells #[.string ⟨#[]⟩, .string ⟨#[]⟩] 42 (0, 0)) (by (with_reducible repeat (first | refine blk_drewN ?_ _ | refine blk_drew ?_ | refine blk_alloc ?_ _)); exact BK131.out) hb); have n1_ := Aside0.mk (below_step (by repeat (first | (with_reducible first | exact HB.out | apply below_alloc | apply pw_below_drewN | apply below_drew1 | refine below_set ?_ GE131.out) | exact HB.out)) hb); have n2_ := Aside0.mk (hbox); have n3_ := Aside0.mk ((by rw [hg]; exact (below_size (by repeat (first | (with_reducible first | exact HB.out | apply below_alloc | apply pw_below_drewN | apply below_drew1 | refine below_set ?_ GE131.out) | exact HB.out))) : w.heap.size ≤ gb133)); have n4_ := Aside0.mk ((by rw [hg]; exact (below_size (by repeat (first | (with_reducible first | exact HB.out | apply below_alloc | apply pw_below_drewN | apply below_drew1 | refine below_set ?_ GE131.out) | exact HB.out))) : w.heap.size ≤ gb133)); have n5_ := Aside0.mk ((by rw [hg]; exact Nat.ne_of_lt (blk_lt (g := gb131) (o := .cells #[.string ⟨#[]⟩, .string ⟨#[]⟩] 42 (0, 0)) (by (with_reducible repeat (first | refine blk_drewN ?_ _ | refine blk_drew ?_ | refine blk_alloc ?_ _)); exact BK131.out)) : gb131 ≠ gb133)); have n6_ := Aside0.mk ((by rw [hg]; exact Nat.ne_of_gt (blk_lt (g := gb131) (o := .cells #[.string ⟨#[]⟩, .string ⟨#[]⟩] 42 (0, 0)) (by (with_reducible repeat (first | refine blk_drewN ?_ _ | refine blk_drew ?_ | refine blk_alloc ?_ _)); exact BK131.out)) : gb133 ≠ gb131)); clear BK131; clear HB; have BK131 := n0_; have HB := n1_; have BK133 := n2_; have GW133 := n3_; have GE133 := n4_; have NB131_133 := n5_; have NB133_131 := n6_; clear n0_ n1_ n2_ n3_ n4_ n5_ n6_; clear hb hbox hg; have hnb12 := NB133_131.out; have hnc12 := NB131_133.out; have hcz13_0 : w11.cell? ⟨gb133, 0, none⟩ = some (.string ⟨#[]⟩) := (blk_cell BK133.out 0).trans rfl; have hcz13_1 : w11.cell? ⟨gb133, 1, none⟩ = some (.string ⟨#[]⟩) := (blk_cell BK133.out 1).trans rfl; have hfz13_0 := blk_frozen BK133.out 0; have hfz13_1 := blk_frozen BK133.out 1) | ((with_reducible refine gate_callee (f := 71) rfl ?_); refine goesL_ (some 21) rfl rfl Tryd.func71 (by kernel_rfl) rfl #[.string a0, .int .i64 t132] rfl (by (try simp only [List.map_toArray, List.map_cons, List.map_nil]); first | done | rfl | (simp only [List.length_drop, List.length_take]; rfl)) ?_; (with_reducible refine (token_Spaces.calls a0 t132 t134 _ A7.out).mono ?_); rintro e w14 ⟨rfl, hb⟩; refine ⟨_, rfl, ?_⟩; have n0_ := Aside0.mk (blk_below (g := gb131) (o := .cells #[.string ⟨#[]⟩, .string ⟨#[]⟩] 42 (0, 0)) (by (with_reducible repeat (first | refine blk_drewN ?_ _ | refine blk_drew ?_ | refine blk_alloc ?_ _)); refine blk_far ?_ NB131_133.out _; (with_reducible repeat (first | refine blk_drewN ?_ _ | refine blk_drew ?_ | refine blk_alloc ?_ _)); refine blk_far ?_ NB131_133.out _; (with_reducible repeat (first | refine blk_drewN ?_ _ | refine blk_drew ?_ | refine blk_alloc ?_ _)); exact BK131.out) hb); have n1_ := Aside0.mk (blk_below (g := gb133) (o := .cells #[.string (a0.extract (a1 : Int).toNat (t132 : Int).toNat), .string ⟨#[]⟩] 42 (0, 0)) (by (with_reducible repeat (first | refine blk_drewN ?_ _ | refine blk_drew ?_ | refine blk_alloc ?_ _)); refine blk_put (cs := #[.string (a0.extract (a1 : Int).toNat (t132 : Int).toNat), .string ⟨#[]⟩]) ?_ 1 _ rfl; (with_reducible repeat (first | refine blk_drewN ?_ _ | refine blk_drew ?_ | refine blk_alloc ?_ _)); refine blk_put (cs := #[.string ⟨#[]⟩, .string ⟨#[]⟩]) ?_ 0 _ rfl; (with_reducible repeat (first | refine blk_drewN ?_ _ | refine blk_drew ?_ | refine blk_alloc ?_ _)); exact BK133.out) hb); have n2_ := Aside0.mk (below_step (by repeat (first | (with_reducible first | exact HB.out | apply below_alloc | apply pw_below_drewN | apply below_drew1 | refine below_set ?_ GE131.out | refine below_set ?_ GE133.out) | exact HB.out)) hb); clear BK131; clear BK133; clear HB; have BK131 := n0_; have BK133 := n1_; have HB := n2_; clear n0_ n1_ n2_; (try clear hb); (try clear hb2); (try clear hk); (try clear hi)))
    (try simp only [Act.put, List.setIfInBounds_toArray, List.set_cons_zero, List.set_cons_succ])
    go_cut [32] (fun v32 wc => ∃ (kq : Nat) (x32_7 : Bool), v32 = .bool x32_7 ∧ Aside0 (token_attr.j0 kq a0 t134 x32_7 (a0.extract (a1 : Int).toNat (t132 : Int).toNat) (⟨#[]⟩ : ByteArray) = some (r1, r2, r3, r4)) ∧ Aside0 (kq ≤ k) ∧ Aside0 (wc.heap[gb131]? = some (.cells #[.string ⟨#[]⟩, .string ⟨#[]⟩] 42 (0, 0))) ∧ Aside0 (wc.heap[gb133]? = some (.cells #[.string (a0.extract (a1 : Int).toNat (t132 : Int).toNat), .string ⟨#[]⟩] 42 (0, 0))) ∧ Aside0 (Below w.heap.size w wc))
    case first =>
     have H := HC8.out
     clear HC8
     replace H := Option.bind_eq_some_iff.mp H
     obtain ⟨t135, A150, H⟩ := H
     try dsimp only at H
     have A15 := Aside0.mk A150
     clear A150
     by_cases c16 : t135 = true
     ·subst c16
      rw [if_pos rfl] at H
      try dsimp only at H
      by_cases c17 : 0 ≤ t134
      ·rw [if_pos c17] at H
       have c17b0 := eq_true c17
       have c17b1 := decide_eq_true c17
       clear c17
       by_cases c18 : t134 ≤ (a0.size : Int)
       ·rw [if_pos c18] at H
        have c18b0 := eq_true c18
        have c18b1 := decide_eq_true c18
        clear c18
        replace H := Option.bind_eq_some_iff.mp H
        obtain ⟨t136, A190, H⟩ := H
        try dsimp only at H
        have A19 := Aside0.mk A190
        clear A190
        have H' := Aside0.mk H
        clear H
        have hnb20 := NB133_131.out
        have hnc20 := NB131_133.out
        have hcz21_0 : w14.cell? ⟨gb133, 0, none⟩ = some (.string (a0.extract (a1 : Int).toNat (t132 : Int).toNat)) := (blk_cell BK133.out 0).trans rfl
        have hcz21_1 : w14.cell? ⟨gb133, 1, none⟩ = some (.string ⟨#[]⟩) := (blk_cell BK133.out 1).trans rfl
        have hfz21_0 := blk_frozen BK133.out 0
        have hfz21_1 := blk_frozen BK133.out 1
        go_wp2_with (first | ((with_reducible refine gate_callee (f := 79) rfl ?_); refine goesL_ (some 24) rfl rfl Tryd.func79 (by kernel_rfl) rfl #[.string (a0.extract (a1 : Int).toNat (t132 : Int).toNat)] rfl (by (try simp only [List.map_toArray, List.map_cons, List.map_nil]); first | done | rfl | (simp only [List.length_drop, List.length_take]; rfl)) ?_; (with_reducible refine (runes_Name.calls (a0.extract (a1 : Int).toNat (t132 : Int).toNat) true _ (Env.below HE.out (by repeat (first | (with_reducible first | exact HB.out | apply below_alloc | apply pw_below_drewN | apply below_drew1 | refine below_set ?_ GE131.out | refine below_set ?_ GE133.out) | exact HB.out))) A15.out).mono ?_); rintro e w22 ⟨rfl, hb⟩; refine ⟨_, rfl, ?_⟩; have n0_ := Aside0.mk (blk_below (g := gb131) (o := .cells #[.string ⟨#[]⟩, .string ⟨#[]⟩] 42 (0, 0)) (by (with_reducible repeat (first | refine blk_drewN ?_ _ | refine blk_drew ?_ | refine blk_alloc ?_ _)); exact BK131.out) hb); have n1_ := Aside0.mk (blk_below (g := gb133) (o := .cells #[.string (a0.extract (a1 : Int).toNat (t132 : Int).toNat), .string ⟨#[]⟩] 42 (0, 0)) (by (with_reducible repeat (first | refine blk_drewN ?_ _ | refine blk_drew ?_ | refine blk_alloc ?_ _)); exact BK133.out) hb); have n2_ := Aside0.mk (below_step (by repeat (first | (with_reducible first | exact HB.out | apply below_alloc | apply pw_below_drewN | apply below_drew1 | refine below_set ?_ GE131.out | refine below_set ?_ GE133.out) | exact HB.out)) hb); clear BK131; clear BK133; clear HB; have BK131 := n0_; have BK133 := n1_; have HB := n2_; clear n0_ n1_ n2_; (try clear hb); (try clear hb2); (try clear hk); (try clear hi)) | (go_at_call 34; (with_reducible refine (strings_HasPrefix.calls (a0.extract (t134 : Int).toNat a0.size) (⟨#[61]⟩ : ByteArray) t136 _ A19.out).mono ?_); rintro e w23 ⟨rfl, hb⟩; have n0_ := Aside0.mk (blk_below (g := gb131) (o := .cells #[.string ⟨#[]⟩, .string ⟨#[]⟩] 42 (0, 0)) (by (with_reducible repeat (first | refine blk_drewN ?_ _ | refine blk_drew ?_ | refine blk_alloc ?_ _)); exact BK131.out) hb); have n1_ := Aside0.mk (blk_below (g := gb133) (o := .cells #[.string (a0.extract (a1 : Int).toNat (t132 : Int).toNat), .string ⟨#[]⟩] 42 (0, 0)) (by (with_reducible repeat (first | refine blk_drewN ?_ _ | refine blk_drew ?_ | refine blk_alloc ?_ _)); exact BK133.out) hb); have n2_ := Aside0.mk (below_step (by repeat (first | (with_reducible first | exact HB.out | apply below_alloc | apply pw_below_drewN | apply below_drew1 | refine below_set ?_ GE131.out | refine below_set ?_ GE133.out) | exact HB.out)) hb); clear BK131; clear BK133; clear HB; have BK131 := n0_; have BK133 := n1_; have HB := n2_; clear n0_ n1_ n2_; (try clear hb); (try clear hb2); (try clear hk); (try clear hi)))
        go_meet
        case rel => exact ⟨_, (!t136), (by first | rfl | (simp; done) | (simp [*]; done)), H', ⟨by first | omega | exact Nat.le_refl _⟩, ⟨by (with_reducible repeat (first | refine blk_drewN ?_ _ | refine blk_drew ?_ | refine blk_alloc ?_ _)); exact BK131.out⟩, ⟨by (with_reducible repeat (first | refine blk_drewN ?_ _ | refine blk_drew ?_ | refine blk_alloc ?_ _)); exact BK133.out⟩, ⟨by repeat (first | (with_reducible first | exact HB.out | apply below_alloc | apply pw_below_drewN | apply below_drew1 | refine below_set ?_ GE131.out | refine below_set ?_ GE133.out) | exact HB.out)⟩⟩
       ·rw [if_neg c18] at H
        exact absurd H (by simp)
      ·rw [if_neg c17] at H
       exact absurd H (by simp)
     ·replace c16 := Bool.eq_false_iff.mpr c16
      subst c16
      rw [if_neg (show ¬ (false = true) by decide)] at H
      try dsimp only at H
      have H' := Aside0.mk H
      clear H
      have hnb24 := NB133_131.out
      have hnc24 := NB131_133.out
      have hcz25_0 : w14.cell? ⟨gb133, 0, none⟩ = some (.string (a0.extract (a1 : Int).toNat (t132 : Int).toNat)) := (blk_cell BK133.out 0).trans rfl
      have hcz25_1 : w14.cell? ⟨gb133, 1, none⟩ = some (.string ⟨#[]⟩) := (blk_cell BK133.out 1).trans rfl
      have hfz25_0 := blk_frozen BK133.out 0
      have hfz25_1 := blk_frozen BK133.out 1
      go_wp2_with (first | ((with_reducible refine gate_callee (f := 79) rfl ?_); refine goesL_ (some 24) rfl rfl Tryd.func79 (by kernel_rfl) rfl #[.string (a0.extract (a1 : Int).toNat (t132 : Int).toNat)] rfl (by (try simp only [List.map_toArray, List.map_cons, List.map_nil]); first | done | rfl | (simp only [List.length_drop, List.length_take]; rfl)) ?_; (with_reducible refine (runes_Name.calls (a0.extract (a1 : Int).toNat (t132 : Int).toNat) false _ (Env.below HE.out (by repeat (first | (with_reducible first | exact HB.out | apply below_alloc | apply pw_below_drewN | apply below_drew1 | refine below_set ?_ GE131.out | refine below_set ?_ GE133.out) | exact HB.out))) A15.out).mono ?_); rintro e w26 ⟨rfl, hb⟩; refine ⟨_, rfl, ?_⟩; have n0_ := Aside0.mk (blk_below (g := gb131) (o := .cells #[.string ⟨#[]⟩, .string ⟨#[]⟩] 42 (0, 0)) (by (with_reducible repeat (first | refine blk_drewN ?_ _ | refine blk_drew ?_ | refine blk_alloc ?_ _)); exact BK131.out) hb); have n1_ := Aside0.mk (blk_below (g := gb133) (o := .cells #[.string (a0.extract (a1 : Int).toNat (t132 : Int).toNat), .string ⟨#[]⟩] 42 (0, 0)) (by (with_reducible repeat (first | refine blk_drewN ?_ _ | refine blk_drew ?_ | refine blk_alloc ?_ _)); exact BK133.out) hb); have n2_ := Aside0.mk (below_step (by repeat (first | (with_reducible first | exact HB.out | apply below_alloc | apply pw_below_drewN | apply below_drew1 | refine below_set ?_ GE131.out | refine below_set ?_ GE133.out) | exact HB.out)) hb); clear BK131; clear BK133; clear HB; have BK131 := n0_; have BK133 := n1_; have HB := n2_; clear n0_ n1_ n2_; (try clear hb); (try clear hb2); (try clear hk); (try clear hi)))
      go_meet
      case rel => exact ⟨_, (true), (by first | rfl | (simp; done) | (simp [*]; done)), H', ⟨by first | omega | exact Nat.le_refl _⟩, ⟨by (with_reducible repeat (first | refine blk_drewN ?_ _ | refine blk_drew ?_ | refine blk_alloc ?_ _)); exact BK131.out⟩, ⟨by (with_reducible repeat (first | refine blk_drewN ?_ _ | refine blk_drew ?_ | refine blk_alloc ?_ _)); exact BK133.out⟩, ⟨by repeat (first | (with_reducible first | exact HB.out | apply below_alloc | apply pw_below_drewN | apply below_drew1 | refine below_set ?_ GE131.out | refine below_set ?_ GE133.out) | exact HB.out)⟩⟩
    case rest =>
     clear HC8
     try clear c1
     try clear c2
     try clear p2
     try clear c4
     try clear c4b0
     try clear c4b1
     try clear c5
     try clear c5b0
     try clear c5b1
     try clear c6
     try clear c6b0
     try clear c6b1
     try clear c7
     try clear c8
     try clear c12
     try clear c16
     try clear c17
     try clear c17b0
     try clear c17b1
     try clear c18
     try clear c18b0
     try clear c18b1
     try clear c20
     try clear c24
     try clear hcz13_0
     try clear hcz13_1
     try clear hcz21_0
     try clear hcz21_1
     try clear hcz25_0
     try clear hcz25_1
     try clear hfz13_0
     try clear hfz13_1
     try clear hfz21_0
     try clear hfz21_1
     try clear hfz25_0
     try clear hfz25_1
     obtain ⟨kq, x32_7, rfl, HA, HJ7, BK131, BK133, HB⟩ := hcut
     cases kq with
     | zero => exact absurd HA.out (by simp [token_attr.j0])
     | succ kj7 =>
      have H := HA.out
      clear HA
      simp only [token_attr.j0] at H
      by_cases c27 : x32_7 = true
      ·subst c27
       rw [if_pos rfl] at H
       try dsimp only at H
       simp only [Option.some.injEq, Prod.mk.injEq] at H
       obtain ⟨rfl, rfl, rfl, rfl⟩ := H
       have hnb28 := NB133_131.out
       have hnc28 := NB131_133.out
       have hcz29_0 : wc.cell? ⟨gb133, 0, none⟩ = some (.string (a0.extract (a1 : Int).toNat (t132 : Int).toNat)) := (blk_cell BK133.out 0).trans rfl
       have hcz29_1 : wc.cell? ⟨gb133, 1, none⟩ = some (.string ⟨#[]⟩) := (blk_cell BK133.out 1).trans rfl
       have hfz29_0 := blk_frozen BK133.out 0
       have hfz29_1 := blk_frozen BK133.out 1
       have hcz30_0 : wc.cell? ⟨gb131, 0, none⟩ = some (.string ⟨#[]⟩) := (blk_cell BK131.out 0).trans rfl
       have hcz30_1 : wc.cell? ⟨gb131, 1, none⟩ = some (.string ⟨#[]⟩) := (blk_cell BK131.out 1).trans rfl
       have hfz30_0 := blk_frozen BK131.out 0
       have hfz30_1 := blk_frozen BK131.out 1
       go_wp2
       refine bodyPost_ret (results_ctt rfl _ _ gb131 42 #[.string (a0.extract (a1 : Int).toNat (t132 : Int).toNat), .string ⟨#[]⟩] (0, 0) _ rfl (by (with_reducible repeat (first | refine blk_drewN ?_ _ | refine blk_drew ?_ | refine blk_alloc ?_ _)); refine blk_put (cs := #[.string (a0.extract (a1 : Int).toNat (t132 : Int).toNat), .string ⟨#[]⟩]) ?_ 1 _ rfl; (with_reducible repeat (first | refine blk_drewN ?_ _ | refine blk_drew ?_ | refine blk_alloc ?_ _)); refine blk_put (cs := #[.string ⟨#[]⟩, .string ⟨#[]⟩]) ?_ 0 _ rfl; (with_reducible repeat (first | refine blk_drewN ?_ _ | refine blk_drew ?_ | refine blk_alloc ?_ _)); exact BK131.out) Tryd.underlying42 rfl (by kernel_rfl)) rfl ?_
       exact ⟨by first | rfl | (simp [errW_none, errW_some] <;> rfl) | (simp [*, errW_none, errW_some] <;> rfl), by repeat (first | (with_reducible first | exact HB.out | apply below_alloc | apply pw_below_drewN | apply below_drew1 | refine below_set ?_ GE131.out | refine below_set ?_ GE133.out) | exact HB.out)⟩
      ·replace c27 := Bool.eq_false_iff.mpr c27
       subst c27
       rw [if_neg (show ¬ (false = true) by decide)] at H
       try dsimp only at H
       replace H := Option.bind_eq_some_iff.mp H
       obtain ⟨t137, A310, H⟩ := H
       try dsimp only at H
       have A31 := Aside0.mk A310
       clear A310
       have HC32 := Aside0.mk H
       clear H
       go_upto_region 7 with (first | ((with_reducible refine gate_callee (f := 71) rfl ?_); refine goesL_ (some 38) rfl rfl Tryd.func71 (by kernel_rfl) rfl #[.string a0, .int .i64 (wrap64 (t134 + 1))] rfl (by (try simp only [List.map_toArray, List.map_cons, List.map_nil]); first | done | rfl | (simp only [List.length_drop, List.length_take]; rfl)) ?_; (with_reducible refine (token_Spaces.calls a0 (wrap64 (t134 + 1)) t137 _ A31.out).mono ?_); rintro e w33 ⟨rfl, hb⟩; refine ⟨_, rfl, ?_⟩; have n0_ := Aside0.mk (blk_below (g := gb131) (o := .cells #[.string ⟨#[]⟩, .string ⟨#[]⟩] 42 (0, 0)) (by (with_reducible repeat (first | refine blk_drewN ?_ _ | refine blk_drew ?_ | refine blk_alloc ?_ _)); exact BK131.out) hb); have n1_ := Aside0.mk (blk_below (g := gb133) (o := .cells #[.string (a0.extract (a1 : Int).toNat (t132 : Int).toNat), .string ⟨#[]⟩] 42 (0, 0)) (by (with_reducible repeat (first | refine blk_drewN ?_ _ | refine blk_drew ?_ | refine blk_alloc ?_ _)); exact BK133.out) hb); have n2_ := Aside0.mk (below_step (by repeat (first | (with_reducible first | exact HB.out | apply below_alloc | apply pw_below_drewN | apply below_drew1 | refine below_set ?_ GE131.out | refine below_set ?_ GE133.out) | exact HB.out)) hb); clear BK131; clear BK133; clear HB; have BK131 := n0_; have BK133 := n1_; have HB := n2_; clear n0_ n1_ n2_; (try clear hb); (try clear hb2); (try clear hk); (try clear hi)))
       (try simp only [Act.put, List.setIfInBounds_toArray, List.set_cons_zero, List.set_cons_succ])
       go_cut [54] (fun v54 wc => ∃ (kq : Nat) (x54_31 : Bool), v54 = .bool x54_31 ∧ Aside0 (token_attr.j1 kq a0 t137 x54_31 (a0.extract (a1 : Int).toNat (t132 : Int).toNat) (⟨#[]⟩ : ByteArray) = some (r1, r2, r3, r4)) ∧ Aside0 (kq ≤ kj7) ∧ Aside0 (wc.heap[gb131]? = some (.cells #[.string ⟨#[]⟩, .string ⟨#[]⟩] 42 (0, 0))) ∧ Aside0 (wc.heap[gb133]? = some (.cells #[.string (a0.extract (a1 : Int).toNat (t132 : Int).toNat), .string ⟨#[]⟩] 42 (0, 0))) ∧ Aside0 (Below w.heap.size w wc))
       case first =>
        have H := HC32.out
        clear HC32
        by_cases c34 : t137 = (a0.size : Int)
        ·rw [if_pos c34] at H
         have c34b0 := beq_iff_eq.mpr c34
         have c34b1 := bne_eq_false_iff_eq.mpr c34
         clear c34
         (first | rw [c34b0] | (simp only [i64_w, i32_w]; rw [c34b0]) | skip)
         have H' := Aside0.mk H
         clear H
         go_wp2
         go_meet
         case rel => exact ⟨_, (true), (by first | rfl | (simp; done) | (simp [*]; done)), H', ⟨by have := HJ7.out; first | omega | exact Nat.le_refl _⟩, ⟨by (with_reducible repeat (first | refine blk_drewN ?_ _ | refine blk_drew ?_ | refine blk_alloc ?_ _)); exact BK131.out⟩, ⟨by (with_reducible repeat (first | refine blk_drewN ?_ _ | refine blk_drew ?_ | refine blk_alloc ?_ _)); exact BK133.out⟩, ⟨by repeat (first | (with_reducible first | exact HB.out | apply below_alloc | apply pw_below_drewN | apply below_drew1 | refine below_set ?_ GE131.out | refine below_set ?_ GE133.out) | exact HB.out)⟩⟩
        ·rw [if_neg c34] at H
         have c34b0 := beq_eq_false_iff_ne.mpr c34
         have c34b1 := bne_iff_ne.mpr c34
         (first | rw [c34b0] | (simp only [i64_w, i32_w]; rw [c34b0]) | skip)
         by_cases c35 : 0 ≤ t137
         ·rw [if_pos c35] at H
          have c35b0 := decide_eq_true c35
          clear c35
          by_cases c36 : t137 < (a0.size : Int)
          ·rw [if_pos c36] at H
           have c36b0 := decide_eq_true c36
           clear c36
           by_cases c38 : (bt a0 t137) = 34
           ·rw [if_pos c38] at H
            have c38b0 := beq_iff_eq.mpr c38
            have c38b1 := bne_eq_false_iff_eq.mpr c38
            clear c38
            have H' := Aside0.mk H
            clear H
            have p37 : 0 ≤ (t137 : Int) := of_decide_eq_true (by first | (with_reducible assumption) | assumption)
            have q37 : t137 < (a0.size : Int) := of_decide_eq_true (by first | (with_reducible assumption) | assumption)
            have hx37 := bt_at a0 t137
            replace p37 := eq_true p37
            replace q37 := eq_true q37
            go_wp2
            go_meet
            case rel => exact ⟨_, (false), (by first | rfl | (simp; done) | (simp [*]; done)), H', ⟨by have := HJ7.out; first | omega | exact Nat.le_refl _⟩, ⟨by (with_reducible repeat (first | refine blk_drewN ?_ _ | refine blk_drew ?_ | refine blk_alloc ?_ _)); exact BK131.out⟩, ⟨by (with_reducible repeat (first | refine blk_drewN ?_ _ | refine blk_drew ?_ | refine blk_alloc ?_ _)); exact BK133.out⟩, ⟨by repeat (first | (with_reducible first | exact HB.out | apply below_alloc | apply pw_below_drewN | apply below_drew1 | refine below_set ?_ GE131.out | refine below_set ?_ GE133.out) | exact HB.out)⟩⟩
           ·rw [if_neg c38] at H
            have c38b0 := beq_eq_false_iff_ne.mpr c38
            have c38b1 := bne_iff_ne.mpr c38
            have H' := Aside0.mk H
            clear H
            have p37 : 0 ≤ (t137 : Int) := of_decide_eq_true (by first | (with_reducible assumption) | assumption)
            have q37 : t137 < (a0.size : Int) := of_decide_eq_true (by first | (with_reducible assumption) | assumption)
            have hx37 := bt_at a0 t137
            replace p37 := eq_true p37
            replace q37 := eq_true q37
            have p39 : 0 ≤ (t137 : Int) := of_decide_eq_true (by first | (with_reducible assumption) | assumption)
            have q39 : t137 < (a0.size : Int) := of_decide_eq_true (by first | (with_reducible assumption) | assumption)
            have hx39 := bt_at a0 t137
            replace p39 := eq_true p39
            replace q39 := eq_true q39
            go_wp2
            go_meet
            case rel => exact ⟨_, (((bt a0 t137) != 39)), (by first | rfl | (simp; done) | (simp [*]; done)), H', ⟨by have := HJ7.out; first | omega | exact Nat.le_refl _⟩, ⟨by (with_reducible repeat (first | refine blk_drewN ?_ _ | refine blk_drew ?_ | refine blk_alloc ?_ _)); exact BK131.out⟩, ⟨by (with_reducible repeat (first | refine blk_drewN ?_ _ | refine blk_drew ?_ | refine blk_alloc ?_ _)); exact BK133.out⟩, ⟨by repeat (first | (with_reducible first | exact HB.out | apply below_alloc | apply pw_below_drewN | apply below_drew1 | refine below_set ?_ GE131.out | refine below_set ?_ GE133.out) | exact HB.out)⟩⟩
          ·rw [if_neg c36] at H
           exact absurd H (by simp)
         ·rw [if_neg c35] at H
          exact absurd H (by simp)
       case rest =>
        clear HC32
        try clear c1
        try clear c2
        try clear p2
        try clear c3
        try clear p3
        try clear q3
        try clear hx3
        try clear c4
        try clear c4b0
        try clear c4b1
        try clear c5
        try clear c5b0
        try clear c5b1
        try clear c6
        try clear c6b0
        try clear c6b1
        try clear p6
        try clear c7
        try clear c8
        try clear c12
        try clear c16
        try clear c17
        try clear c17b0
        try clear c17b1
        try clear c18
        try clear c18b0
        try clear c18b1
        try clear c20
        try clear c24
        try clear c27
        try clear c28
        try clear c34
        try clear c34b0
        try clear c34b1
        try clear c35
        try clear c35b0
        try clear c36
        try clear c36b0
        try clear p37
        try clear q37
        try clear hx37
        try clear c38
        try clear c38b0
        try clear c38b1
        try clear p39
        try clear q39
        try clear hx39
        try clear hcz13_0
        try clear hcz13_1
        try clear hcz21_0
        try clear hcz21_1
        try clear hcz25_0
        try clear hcz25_1
        try clear hcz29_0
        try clear hcz29_1
        try clear hcz30_0
        try clear hcz30_1
        try clear hfz13_0
        try clear hfz13_1
        try clear hfz21_0
        try clear hfz21_1
        try clear hfz25_0
        try clear hfz25_1
        try clear hfz29_0
        try clear hfz29_1
        try clear hfz30_0
        try clear hfz30_1
        try clear p2
        try clear p37
        try clear p39
        try clear q37
        try clear q39
        obtain ⟨kq, x54_31, rfl, HA, HJ31, BK131, BK133, HB⟩ := hcut
        cases kq with
        | zero => exact absurd HA.out (by simp [token_attr.j1])
        | succ kj31 =>
         have H := HA.out
         clear HA
         simp only [token_attr.j1] at H
         by_cases c40 : x54_31 = true
         ·subst c40
          rw [if_pos rfl] at H
          try dsimp only at H
          simp only [Option.some.injEq, Prod.mk.injEq] at H
          obtain ⟨rfl, rfl, rfl, rfl⟩ := H
          have hnb41 := NB133_131.out
          have hnc41 := NB131_133.out
          have hcz42_0 : wc.cell? ⟨gb133, 0, none⟩ = some (.string (a0.extract (a1 : Int).toNat (t132 : Int).toNat)) := (blk_cell BK133.out 0).trans rfl
          have hcz42_1 : wc.cell? ⟨gb133, 1, none⟩ = some (.string ⟨#[]⟩) := (blk_cell BK133.out 1).trans rfl
          have hfz42_0 := blk_frozen BK133.out 0
          have hfz42_1 := blk_frozen BK133.out 1
          have hcz43_0 : wc.cell? ⟨gb131, 0, none⟩ = some (.string ⟨#[]⟩) := (blk_cell BK131.out 0).trans rfl
          have hcz43_1 : wc.cell? ⟨gb131, 1, none⟩ = some (.string ⟨#[]⟩) := (blk_cell BK131.out 1).trans rfl
          have hfz43_0 := blk_frozen BK131.out 0
          have hfz43_1 := blk_frozen BK131.out 1
          go_wp2
          refine bodyPost_ret (results_ctt rfl _ _ gb131 42 #[.string (a0.extract (a1 : Int).toNat (t132 : Int).toNat), .string ⟨#[]⟩] (0, 0) _ rfl (by (with_reducible repeat (first | refine blk_drewN ?_ _ | refine blk_drew ?_ | refine blk_alloc ?_ _)); refine blk_put (cs := #[.string (a0.extract (a1 : Int).toNat (t132 : Int).toNat), .string ⟨#[]⟩]) ?_ 1 _ rfl; (with_reducible repeat (first | refine blk_drewN ?_ _ | refine blk_drew ?_ | refine blk_alloc ?_ _)); refine blk_put (cs := #[.string ⟨#[]⟩, .string ⟨#[]⟩]) ?_ 0 _ rfl; (with_reducible repeat (first | refine blk_drewN ?_ _ | refine blk_drew ?_ | refine blk_alloc ?_ _)); exact BK131.out) Tryd.underlying42 rfl (by kernel_rfl)) rfl ?_
          exact ⟨by first | rfl | (simp [errW_none, errW_some] <;> rfl) | (simp [*, errW_none, errW_some] <;> rfl), by repeat (first | (with_reducible first | exact HB.out | apply below_alloc | apply pw_below_drewN | apply below_drew1 | refine below_set ?_ GE131.out | refine below_set ?_ GE133.out) | exact HB.out)⟩
         ·replace c40 := Bool.eq_false_iff.mpr c40
          subst c40
          rw [if_neg (show ¬ (false = true) by decide)] at H
          try dsimp only at H
          by_cases c44 : 0 ≤ t137
          ·rw [if_pos c44] at H
           have c44b0 := eq_true c44
           have c44b1 := decide_eq_true c44
           clear c44
           by_cases c45 : t137 ≤ (wrap64 (t137 + 1))
           ·rw [if_pos c45] at H
            have c45b0 := eq_true c45
            have c45b1 := decide_eq_true c45
            by_cases c46 : (wrap64 (t137 + 1)) ≤ (a0.size : Int)
            ·rw [if_pos c46] at H
             have c46b0 := eq_true c46
             have c46b1 := decide_eq_true c46
             replace H := Option.bind_eq_some_iff.mp H
             obtain ⟨⟨t138, t139, t140⟩, A470, H⟩ := H
             try dsimp only at H
             have A47 := Aside0.mk A470
             clear A470
             by_cases c48 : t140 = true
             ·subst c48
              rw [if_pos rfl] at H
              try dsimp only at H
              replace H := Option.bind_eq_some_iff.mp H
              obtain ⟨t141, A490, H⟩ := H
              replace H : (some ((a0.extract (a1 : Int).toNat (t132 : Int).toNat), t138, t139, !t141)) = some (r1, r2, r3, r4) := H
              have A49 := Aside0.mk A490
              clear A490
              simp only [Option.some.injEq, Prod.mk.injEq] at H
              obtain ⟨rfl, rfl, rfl, rfl⟩ := H
              try go_wp2_with (first | ((with_reducible refine gate_callee (f := 83) rfl ?_); refine goesL_ (some 66) rfl rfl Tryd.func83 (by kernel_rfl) rfl #[.string a0, .int .i64 (wrap64 (t137 + 1)), .string (a0.extract (t137 : Int).toNat ((wrap64 (t137 + 1)) : Int).toNat)] rfl (by (try simp only [List.map_toArray, List.map_cons, List.map_nil]); first | done | rfl | (simp only [List.length_drop, List.length_take]; rfl)) ?_; (with_reducible refine (token_upto.calls a0 (wrap64 (t137 + 1)) (a0.extract (t137 : Int).toNat ((wrap64 (t137 + 1)) : Int).toNat) t138 t139 true _ (Env.below HE.out (by repeat (first | (with_reducible first | exact HB.out | apply below_alloc | apply pw_below_drewN | apply below_drew1 | refine below_set ?_ GE131.out | refine below_set ?_ GE133.out) | exact HB.out))) A47.out).mono ?_); rintro e w50 ⟨rfl, hb⟩; refine ⟨_, rfl, ?_⟩; have n0_ := Aside0.mk (blk_below (g := gb131) (o := .cells #[.string ⟨#[]⟩, .string ⟨#[]⟩] 42 (0, 0)) (by (with_reducible repeat (first | refine blk_drewN ?_ _ | refine blk_drew ?_ | refine blk_alloc ?_ _)); exact BK131.out) hb); have n1_ := Aside0.mk (blk_below (g := gb133) (o := .cells #[.string (a0.extract (a1 : Int).toNat (t132 : Int).toNat), .string ⟨#[]⟩] 42 (0, 0)) (by (with_reducible repeat (first | refine blk_drewN ?_ _ | refine blk_drew ?_ | refine blk_alloc ?_ _)); exact BK133.out) hb); have n2_ := Aside0.mk (below_step (by repeat (first | (with_reducible first | exact HB.out | apply below_alloc | apply pw_below_drewN | apply below_drew1 | refine below_set ?_ GE131.out | refine below_set ?_ GE133.out) | exact HB.out)) hb); clear BK131; clear BK133; clear HB; have BK131 := n0_; have BK133 := n1_; have HB := n2_; clear n0_ n1_ n2_; (try clear hb); (try clear hb2); (try clear hk); (try clear hi); have hnb51 := NB133_131.out; have hnc51 := NB131_133.out; have hcz52_0 : w50.cell? ⟨gb133, 0, none⟩ = some (.string (a0.extract (a1 : Int).toNat (t132 : Int).toNat)) := (blk_cell BK133.out 0).trans rfl; have hcz52_1 : w50.cell? ⟨gb133, 1, none⟩ = some (.string ⟨#[]⟩) := (blk_cell BK133.out 1).trans rfl; have hfz52_0 := blk_frozen BK133.out 0; have hfz52_1 := blk_frozen BK133.out 1))
              have n0_ : Aside0 ((w50.setCell ⟨gb133, 1, none⟩ (.string t138)).heap[gb131]? = some (.cells #[.string ⟨#[]⟩, .string ⟨#[]⟩] 42 (0, 0))) := ⟨by (with_reducible repeat (first | refine blk_drewN ?_ _ | refine blk_drew ?_ | refine blk_alloc ?_ _)); refine blk_far ?_ NB131_133.out _; (with_reducible repeat (first | refine blk_drewN ?_ _ | refine blk_drew ?_ | refine blk_alloc ?_ _)); exact BK131.out⟩
              have n1_ : Aside0 ((w50.setCell ⟨gb133, 1, none⟩ (.string t138)).heap[gb133]? = some (.cells #[.string (a0.extract (a1 : Int).toNat (t132 : Int).toNat), .string t138] 42 (0, 0))) := ⟨by (with_reducible repeat (first | refine blk_drewN ?_ _ | refine blk_drew ?_ | refine blk_alloc ?_ _)); refine blk_put (cs := #[.string (a0.extract (a1 : Int).toNat (t132 : Int).toNat), .string ⟨#[]⟩]) ?_ 1 _ rfl; (with_reducible repeat (first | refine blk_drewN ?_ _ | refine blk_drew ?_ | refine blk_alloc ?_ _)); exact BK133.out⟩
              have n2_ : Aside0 (Below w.heap.size w (w50.setCell ⟨gb133, 1, none⟩ (.string t138))) := ⟨by repeat (first | (with_reducible first | exact HB.out | apply below_alloc | apply pw_below_drewN | apply below_drew1 | refine below_set ?_ GE131.out | refine below_set ?_ GE133.out) | exact HB.out)⟩
              (try clear BK131)
              (try clear BK133)
              (try clear HB)
              generalize (w50.setCell ⟨gb133, 1, none⟩ (.string t138)) = w53 at n0_ n1_ n2_ ⊢
              have BK131 := n0_
              have BK133 := n1_
              have HB := n2_
              clear n0_ n1_ n2_
              have n0_ := Aside0.mk (blk_drew BK131.out)
              have n1_ := Aside0.mk (blk_drew BK133.out)
              have n2_ := Aside0.mk (below_drew1 HB.out)
              clear BK131
              clear BK133
              clear HB
              have BK131 := n0_
              have BK133 := n1_
              have HB := n2_
              clear n0_ n1_ n2_
              refine start_ (n := 11) (S := fun w' => w'.cell? ⟨gb133, 0, none⟩ = some (.string (a0.extract (a1 : Int).toNat (t132 : Int).toNat)) ∧ w'.cell? ⟨gb133, 1, none⟩ = some (.string t138)) (ds := []) (KX.upTo 11 0) (by kernel_rfl) rfl rfl ⟨(blk_cell BK133.out 0).trans rfl, (blk_cell BK133.out 1).trans rfl⟩ (fun hHeld => ?_); refine with_tabW token_attr.tab11 token_attr.bits11 (fun HT_ HW_ => ?_)
              generalize w53.drew = w54 at BK131 BK133 HB hHeld ⊢
              refine KX.pq_ 1 (some 73) #[false, true, false, false, false, false, false, false, false, false, false] HT_ ?_
              refine KX.pq_ 2 (some 74) #[false, true, true, false, false, false, false, false, false, false, false] HT_ ?_
              refine KX.pq_ 3 (some 75) #[false, true, true, true, false, false, false, false, false, false, false] HT_ ?_
              refine KX.pq_ 4 (some 76) #[false, true, true, true, true, false, false, false, false, false, false] HT_ ?_
              refine take_ (i := 0) (N := some 72) (v := ?_) (a' := ?_) (KX.upTo 11 5) rfl rfl (take_ofW HT_.out HW_.out (by kernel_rfl)) (fun _ _ _ h => h) (Or.inl ⟨by rfl, ?_⟩) hHeld ?_ ?_
              rotate_left
              ·rintro w' ⟨s0, s1⟩
               go_simp
               with_reducible rfl
              rotate_left
              ·simp only [Act.put, List.setIfInBounds_toArray, List.set_cons_zero, List.set_cons_succ, i64_w, i32_w]
               rfl
              refine one_ (i := 5) (N := some 77) (KX.upTo 11 6) rfl rfl (one_of HT_.out (by kernel_rfl)) (by decide) (fun K hK => ?_)
              refine goes_ Tryd.func80 (by kernel_rfl) rfl #[.string t138, .string ⟨#[60]⟩] (by rfl) rfl rfl (by (try simp only [List.map_toArray, List.map_cons, List.map_nil]); first | done | rfl | (simp only [List.length_drop, List.length_take]; rfl)) ?_
              with_reducible refine (strings_Contains.calls t138 (⟨#[60]⟩ : ByteArray) t141 _ (Env.below HE.out (by repeat (first | (with_reducible first | exact HB.out | apply below_alloc | apply pw_below_drewN | apply below_drew1 | refine below_set ?_ GE131.out | refine below_set ?_ GE133.out) | exact HB.out))) A49.out).mono ?_
              rintro e w55 ⟨rfl, hb⟩
              refine ⟨_, rfl, ?_⟩
              have n0_ := Aside0.mk (blk_below (g := gb131) (o := .cells #[.string ⟨#[]⟩, .string ⟨#[]⟩] 42 (0, 0)) (by (with_reducible repeat (first | refine blk_drewN ?_ _ | refine blk_drew ?_ | refine blk_alloc ?_ _)); exact BK131.out) hb)
              have n1_ := Aside0.mk (blk_below (g := gb133) (o := .cells #[.string (a0.extract (a1 : Int).toNat (t132 : Int).toNat), .string t138] 42 (0, 0)) (by (with_reducible repeat (first | refine blk_drewN ?_ _ | refine blk_drew ?_ | refine blk_alloc ?_ _)); exact BK133.out) hb)
              have n2_ := Aside0.mk (below_step (by repeat (first | (with_reducible first | exact HB.out | apply below_alloc | apply pw_below_drewN | apply below_drew1 | refine below_set ?_ GE131.out | refine below_set ?_ GE133.out) | exact HB.out)) hb)
              clear BK131
              clear BK133
              clear HB
              have BK131 := n0_
              have BK133 := n1_
              have HB := n2_
              clear n0_ n1_ n2_
              (try clear hb)
              (try clear hb2)
              (try clear hk)
              (try clear hi)
              refine hK.out _ _ ⟨(blk_cell BK133.out 0).trans rfl, (blk_cell BK133.out 1).trans rfl⟩ (fun hHeld => ?_)
              clear hK K
              refine norm_ (a' := ?_) ?_ ?_
              rotate_left
              ·show Act.put _ (some 77) _ = _
               simp only [Act.put, List.setIfInBounds_toArray, List.set_cons_zero, List.set_cons_succ, i64_w, i32_w]
               rfl
              refine KX.pq_ 6 (some 78) (KX.upTo 11 7) HT_ ?_
              refine KX.pq_ 7 (some 79) (KX.upTo 11 8) HT_ ?_
              refine one_ (i := 8) (N := none) (KX.upTo 11 9) rfl rfl (one_of HT_.out (by kernel_rfl)) (by decide) (fun K hK => ?_)
              have hs56 : w55.cell? ⟨gb131, 0, none⟩ = some (.string ⟨#[]⟩) := (blk_cell BK131.out 0).trans rfl
              have hfs56 := blk_frozen BK131.out 0
              have hns56_1 := NB133_131.out
              have hms56_1 := NB131_133.out
              have hs57 : w55.cell? ⟨gb131, 1, none⟩ = some (.string ⟨#[]⟩) := (blk_cell BK131.out 1).trans rfl
              have hfs57 := blk_frozen BK131.out 1
              have hns57_1 := NB133_131.out
              have hms57_1 := NB131_133.out
              refine skip_ (w1 := ?_) (by rfl) rfl ?_ ?_
              rotate_left
              ·go_simp
               rfl
              refine hK.out _ _ ⟨((cell_far (p := ⟨gb131, _, none⟩) NB133_131.out _).trans (((cell_far (p := ⟨gb131, _, none⟩) NB133_131.out _).trans (hHeld.1)))), ((cell_far (p := ⟨gb131, _, none⟩) NB133_131.out _).trans (((cell_far (p := ⟨gb131, _, none⟩) NB133_131.out _).trans (hHeld.2))))⟩ (fun hHeld => ?_)
              clear hK K
              refine KX.pq_ 9 (some 5) (KX.upTo 11 10) HT_ ?_
              refine KX.pq_ 10 (some 6) (KX.upTo 11 11) HT_ ?_
              refine done_ (done_of HT_.out (by kernel_rfl)) ?_
              try go_wp2
              refine bodyPost_ret (results_ctt rfl _ _ gb131 42 #[.string (a0.extract (a1 : Int).toNat (t132 : Int).toNat), .string t138] (0, 0) _ rfl (by (with_reducible repeat (first | refine blk_drewN ?_ _ | refine blk_drew ?_ | refine blk_alloc ?_ _)); refine blk_put (cs := #[.string (a0.extract (a1 : Int).toNat (t132 : Int).toNat), .string ⟨#[]⟩]) ?_ 1 _ rfl; (with_reducible repeat (first | refine blk_drewN ?_ _ | refine blk_drew ?_ | refine blk_alloc ?_ _)); refine blk_put (cs := #[.string ⟨#[]⟩, .string ⟨#[]⟩]) ?_ 0 _ rfl; (with_reducible repeat (first | refine blk_drewN ?_ _ | refine blk_drew ?_ | refine blk_alloc ?_ _)); exact BK131.out) Tryd.underlying42 rfl (by kernel_rfl)) rfl ?_
              exact ⟨by first | rfl | (simp [errW_none, errW_some] <;> rfl) | (simp [*, errW_none, errW_some] <;> rfl), by repeat (first | (with_reducible first | exact HB.out | apply below_alloc | apply pw_below_drewN | apply below_drew1 | refine below_set ?_ GE131.out | refine below_set ?_ GE133.out) | exact HB.out)⟩
             ·replace c48 := Bool.eq_false_iff.mpr c48
              subst c48
              rw [if_neg (show ¬ (false = true) by decide)] at H
              try dsimp only at H
              simp only [Option.some.injEq, Prod.mk.injEq] at H
              obtain ⟨rfl, rfl, rfl, rfl⟩ := H
              try go_wp2_with (first | ((with_reducible refine gate_callee (f := 83) rfl ?_); refine goesL_ (some 66) rfl rfl Tryd.func83 (by kernel_rfl) rfl #[.string a0, .int .i64 (wrap64 (t137 + 1)), .string (a0.extract (t137 : Int).toNat ((wrap64 (t137 + 1)) : Int).toNat)] rfl (by (try simp only [List.map_toArray, List.map_cons, List.map_nil]); first | done | rfl | (simp only [List.length_drop, List.length_take]; rfl)) ?_; (with_reducible refine (token_upto.calls a0 (wrap64 (t137 + 1)) (a0.extract (t137 : Int).toNat ((wrap64 (t137 + 1)) : Int).toNat) t138 t139 false _ (Env.below HE.out (by repeat (first | (with_reducible first | exact HB.out | apply below_alloc | apply pw_below_drewN | apply below_drew1 | refine below_set ?_ GE131.out | refine below_set ?_ GE133.out) | exact HB.out))) A47.out).mono ?_); rintro e w58 ⟨rfl, hb⟩; refine ⟨_, rfl, ?_⟩; have n0_ := Aside0.mk (blk_below (g := gb131) (o := .cells #[.string ⟨#[]⟩, .string ⟨#[]⟩] 42 (0, 0)) (by (with_reducible repeat (first | refine blk_drewN ?_ _ | refine blk_drew ?_ | refine blk_alloc ?_ _)); exact BK131.out) hb); have n1_ := Aside0.mk (blk_below (g := gb133) (o := .cells #[.string (a0.extract (a1 : Int).toNat (t132 : Int).toNat), .string ⟨#[]⟩] 42 (0, 0)) (by (with_reducible repeat (first | refine blk_drewN ?_ _ | refine blk_drew ?_ | refine blk_alloc ?_ _)); exact BK133.out) hb); have n2_ := Aside0.mk (below_step (by repeat (first | (with_reducible first | exact HB.out | apply below_alloc | apply pw_below_drewN | apply below_drew1 | refine below_set ?_ GE131.out | refine below_set ?_ GE133.out) | exact HB.out)) hb); clear BK131; clear BK133; clear HB; have BK131 := n0_; have BK133 := n1_; have HB := n2_; clear n0_ n1_ n2_; (try clear hb); (try clear hb2); (try clear hk); (try clear hi); have hnb59 := NB133_131.out; have hnc59 := NB131_133.out; have hcz60_0 : w58.cell? ⟨gb133, 0, none⟩ = some (.string (a0.extract (a1 : Int).toNat (t132 : Int).toNat)) := (blk_cell BK133.out 0).trans rfl; have hcz60_1 : w58.cell? ⟨gb133, 1, none⟩ = some (.string ⟨#[]⟩) := (blk_cell BK133.out 1).trans rfl; have hfz60_0 := blk_frozen BK133.out 0; have hfz60_1 := blk_frozen BK133.out 1))
              have n0_ : Aside0 ((w58.setCell ⟨gb133, 1, none⟩ (.string t138)).heap[gb131]? = some (.cells #[.string ⟨#[]⟩, .string ⟨#[]⟩] 42 (0, 0))) := ⟨by (with_reducible repeat (first | refine blk_drewN ?_ _ | refine blk_drew ?_ | refine blk_alloc ?_ _)); refine blk_far ?_ NB131_133.out _; (with_reducible repeat (first | refine blk_drewN ?_ _ | refine blk_drew ?_ | refine blk_alloc ?_ _)); exact BK131.out⟩
              have n1_ : Aside0 ((w58.setCell ⟨gb133, 1, none⟩ (.string t138)).heap[gb133]? = some (.cells #[.string (a0.extract (a1 : Int).toNat (t132 : Int).toNat), .string t138] 42 (0, 0))) := ⟨by (with_reducible repeat (first | refine blk_drewN ?_ _ | refine blk_drew ?_ | refine blk_alloc ?_ _)); refine blk_put (cs := #[.string (a0.extract (a1 : Int).toNat (t132 : Int).toNat), .string ⟨#[]⟩]) ?_ 1 _ rfl; (with_reducible repeat (first | refine blk_drewN ?_ _ | refine blk_drew ?_ | refine blk_alloc ?_ _)); exact BK133.out⟩
              have n2_ : Aside0 (Below w.heap.size w (w58.setCell ⟨gb133, 1, none⟩ (.string t138))) := ⟨by repeat (first | (with_reducible first | exact HB.out | apply below_alloc | apply pw_below_drewN | apply below_drew1 | refine below_set ?_ GE131.out | refine below_set ?_ GE133.out) | exact HB.out)⟩
              (try clear BK131)
              (try clear BK133)
              (try clear HB)
              generalize (w58.setCell ⟨gb133, 1, none⟩ (.string t138)) = w61 at n0_ n1_ n2_ ⊢
              have BK131 := n0_
              have BK133 := n1_
              have HB := n2_
              clear n0_ n1_ n2_
              have n0_ := Aside0.mk (blk_drew BK131.out)
              have n1_ := Aside0.mk (blk_drew BK133.out)
              have n2_ := Aside0.mk (below_drew1 HB.out)
              clear BK131
              clear BK133
              clear HB
              have BK131 := n0_
              have BK133 := n1_
              have HB := n2_
              clear n0_ n1_ n2_
              refine start_ (n := 11) (S := fun w' => w'.cell? ⟨gb133, 0, none⟩ = some (.string (a0.extract (a1 : Int).toNat (t132 : Int).toNat)) ∧ w'.cell? ⟨gb133, 1, none⟩ = some (.string t138)) (ds := []) (KX.upTo 11 0) (by kernel_rfl) rfl rfl ⟨(blk_cell BK133.out 0).trans rfl, (blk_cell BK133.out 1).trans rfl⟩ (fun hHeld => ?_); refine with_tabW token_attr.tab11 token_attr.bits11 (fun HT_ HW_ => ?_)
              generalize w61.drew = w62 at BK131 BK133 HB hHeld ⊢
              refine KX.pq_ 1 (some 73) #[false, true, false, false, false, false, false, false, false, false, false] HT_ ?_
              refine KX.pq_ 2 (some 74) #[false, true, true, false, false, false, false, false, false, false, false] HT_ ?_
              refine KX.pq_ 3 (some 75) #[false, true, true, true, false, false, false, false, false, false, false] HT_ ?_
              refine KX.pu_ 4 (some 76) #[false, true, true, true, true, false, false, false, false, false, false] HT_ ?_
              refine KX.pu_ 5 (some 77) #[false, true, true, true, true, true, false, false, false, false, false] HT_ ?_
              refine KX.pu_ 6 (some 78) #[false, true, true, true, true, true, true, false, false, false, false] HT_ ?_
              refine KX.pq_ 7 (some 79) #[false, true, true, true, true, true, true, true, false, false, false] HT_ ?_
              refine take_ (i := 0) (N := some 72) (v := ?_) (a' := ?_) (KX.upTo 11 8) rfl rfl (take_ofW HT_.out HW_.out (by kernel_rfl)) (fun _ _ _ h => h) (Or.inl ⟨by rfl, ?_⟩) hHeld ?_ ?_
              rotate_left
              ·rintro w' ⟨s0, s1⟩
               go_simp
               with_reducible rfl
              rotate_left
              ·simp only [Act.put, List.setIfInBounds_toArray, List.set_cons_zero, List.set_cons_succ, i64_w, i32_w]
               rfl
              refine one_ (i := 8) (N := none) (KX.upTo 11 9) rfl rfl (one_of HT_.out (by kernel_rfl)) (by decide) (fun K hK => ?_)
              have hs63 : w62.cell? ⟨gb131, 0, none⟩ = some (.string ⟨#[]⟩) := (blk_cell BK131.out 0).trans rfl
              have hfs63 := blk_frozen BK131.out 0
              have hns63_1 := NB133_131.out
              have hms63_1 := NB131_133.out
              have hs64 : w62.cell? ⟨gb131, 1, none⟩ = some (.string ⟨#[]⟩) := (blk_cell BK131.out 1).trans rfl
              have hfs64 := blk_frozen BK131.out 1
              have hns64_1 := NB133_131.out
              have hms64_1 := NB131_133.out
              refine skip_ (w1 := ?_) (by rfl) rfl ?_ ?_
              rotate_left
              ·go_simp
               rfl
              refine hK.out _ _ ⟨((cell_far (p := ⟨gb131, _, none⟩) NB133_131.out _).trans (((cell_far (p := ⟨gb131, _, none⟩) NB133_131.out _).trans (hHeld.1)))), ((cell_far (p := ⟨gb131, _, none⟩) NB133_131.out _).trans (((cell_far (p := ⟨gb131, _, none⟩) NB133_131.out _).trans (hHeld.2))))⟩ (fun hHeld => ?_)
              clear hK K
              refine KX.pq_ 9 (some 5) (KX.upTo 11 10) HT_ ?_
              refine KX.pq_ 10 (some 6) (KX.upTo 11 11) HT_ ?_
              refine done_ (done_of HT_.out (by kernel_rfl)) ?_
              try go_wp2
              refine bodyPost_ret (results_ctt rfl _ _ gb131 42 #[.string (a0.extract (a1 : Int).toNat (t132 : Int).toNat), .string t138] (0, 0) _ rfl (by (with_reducible repeat (first | refine blk_drewN ?_ _ | refine blk_drew ?_ | refine blk_alloc ?_ _)); refine blk_put (cs := #[.string (a0.extract (a1 : Int).toNat (t132 : Int).toNat), .string ⟨#[]⟩]) ?_ 1 _ rfl; (with_reducible repeat (first | refine blk_drewN ?_ _ | refine blk_drew ?_ | refine blk_alloc ?_ _)); refine blk_put (cs := #[.string ⟨#[]⟩, .string ⟨#[]⟩]) ?_ 0 _ rfl; (with_reducible repeat (first | refine blk_drewN ?_ _ | refine blk_drew ?_ | refine blk_alloc ?_ _)); exact BK131.out) Tryd.underlying42 rfl (by kernel_rfl)) rfl ?_
              exact ⟨by first | rfl | (simp [errW_none, errW_some] <;> rfl) | (simp [*, errW_none, errW_some] <;> rfl), by repeat (first | (with_reducible first | exact HB.out | apply below_alloc | apply pw_below_drewN | apply below_drew1 | refine below_set ?_ GE131.out | refine below_set ?_ GE133.out) | exact HB.out)⟩
            ·rw [if_neg c46] at H
             exact absurd H (by simp)
           ·rw [if_neg c45] at H
            exact absurd H (by simp)
          ·rw [if_neg c44] at H
           exact absurd H (by simp)
   ·rw [if_neg c6] at H
    exact absurd H (by simp)
  ·rw [if_neg c5] at H
   exact absurd H (by simp)
 ·rw [if_neg c4] at H
  exact absurd H (by simp)

end Go.Proofs.YtmjdjpelhhibgaaDoor.R1
