/- The law on kinds of characters: what begins a name may go on in it and is a character; no space is in a name: its walk, by the values that its calls have. -/
import Derived.Test.YtiddhaakbcnbiaaDoorPureA
namespace Go.Proofs.YtiddhaakbcnbiaaDoor.Kinds
open Go.RowKit Go.Proofs.YtiddhaakbcnbiaaDoorW.PrintWords Go.Proofs.YtiddhaakbcnbiaaDoorW.PrintLast Go.Proofs.YtiddhaakbcnbiaaDoor.Spec Go.Proofs.YtiddhaakbcnbiaaDoor.Giv Go.Proofs.YtiddhaakbcnbiaaDoor.R2
set_option linter.unusedVariables false

theorem part_char (r : Int) (h : partB r = true) : charB r = true := by
  unfold partB startB moreB at h
  unfold charB
  simp only [Bool.or_eq_true, decide_eq_true_eq] at h ⊢
  omega
theorem space_char (r : Int) (h : spaceB r = true) : charB r = true ∧ partB r = false := by
  unfold spaceB at h
  unfold charB partB startB moreB
  simp only [decide_eq_true_eq] at h
  refine ⟨decide_eq_true (by omega), ?_⟩
  rw [Bool.or_eq_false_iff]
  exact ⟨decide_eq_false (by omega), decide_eq_false (by omega)⟩
theorem char_range (r : Int) (h : charB r = true) : 0 ≤ r ∧ (r < 55296 ∨ 57343 < r) := by
  unfold charB at h
  simp only [decide_eq_true_eq] at h
  omega
def good (cs cp cc cq t1 t2 t3 : Bool) : Bool := (!cs || cp) && (!cp || cc) && (!cq || (cc && !cp)) && (t1 || t2 || !cc) && (t3 || !cc)
theorem good_of (r : Int) : good (startB r) (partB r) (charB r) (spaceB r) (decide (r < 55296)) (decide (57343 < r)) (decide (0 ≤ r)) = true := by
  unfold good
  have h1 : startB r = true → partB r = true := fun h => by unfold partB; rw [h]; rfl
  have h2 := part_char r
  have h3 := space_char r
  have h4 := char_range r
  cases hs : startB r <;> cases hp : partB r <;> cases hc : charB r <;> cases hq : spaceB r <;> simp_all
set_option maxHeartbeats 4000000 in
set_option maxRecDepth 100000 in
theorem kw (r : Int) (w : World) (hE : Env w) (cs cp cc cq t1 t2 t3 : Bool) (hs : startB r = cs) (hp : partB r = cp) (hc : charB r = cc) (hq : spaceB r = cq)
    (h1 : decide (r < 55296) = t1) (h2 : decide (57343 < r) = t2) (h3 : decide (0 ≤ r) = t3) (ok : good cs cp cc cq t1 t2 t3 = true) :
    Calls Tryd.prog 5 #[.int .i32 r] w fun e w' => e = .returned (.bool true) ∧ Below w.heap.size w w' := by
  have cT : ∀ W, Env W → Calls Tryd.prog 15 #[] W fun e w' => e = .returned (.bool true) ∧ Below W.heap.size W w' := fun W h => brackenlaw1_told.calls true W h hidTrue Pure.told_true
  have cS : ∀ W, Calls Tryd.prog 16 #[.int .i32 r] W fun e w' => e = .returned (.bool cs) ∧ Below W.heap.size W w' := fun W => runes_Start.calls r cs W (by rw [← hs]; rfl)
  have cP : ∀ W, Calls Tryd.prog 17 #[.int .i32 r] W fun e w' => e = .returned (.bool cp) ∧ Below W.heap.size W w' := fun W => runes_Part.calls r cp W (by rw [← hp]; rfl)
  have cC : ∀ W, Calls Tryd.prog 20 #[.int .i32 r] W fun e w' => e = .returned (.bool cc) ∧ Below W.heap.size W w' := fun W => runes_Char.calls r cc W (by rw [← hc]; rfl)
  have cQ : ∀ W, Calls Tryd.prog 22 #[.int .i32 r] W fun e w' => e = .returned (.bool cq) ∧ Below W.heap.size W w' := fun W => (runes_Space.calls r cq W (by rw [← hq]; rfl)).mono fun e w' ⟨he, hd⟩ => ⟨he, hd.below⟩
  have HE := Lib.hid hE
  have HT := Lib.hid cT
  have HS := Lib.hid cS
  have HP := Lib.hid cP
  have HC := Lib.hid cC
  have HQ := Lib.hid cQ
  clear hE cT cS cP cC cQ hs hp hc hq
  have HB := Aside0.mk (Below.refl w.heap.size w)
  cases cs <;> cases cp <;> cases cc <;> cases cq <;> cases t1 <;> cases t2 <;> cases t3 <;> first
    | exact absurd ok (by decide)
    | (clear ok
       go_enter Tryd.func5, Tryd.ntmps5
       go_wp2_with (first | (go_at_call 15; refine (HT.out _ HE.out).mono ?_; rintro e W1 ⟨rfl, hb⟩; have n0_ := Aside0.mk (below_step HB.out hb); clear HB hb; have HB := n0_; clear n0_) | (go_at_call 16; refine (HS.out _).mono ?_; rintro e W1 ⟨rfl, hb⟩; have n0_ := Aside0.mk (below_step HB.out hb); clear HB hb; have HB := n0_; clear n0_) | (go_at_call 17; refine (HP.out _).mono ?_; rintro e W1 ⟨rfl, hb⟩; have n0_ := Aside0.mk (below_step HB.out hb); clear HB hb; have HB := n0_; clear n0_) | (go_at_call 20; refine (HC.out _).mono ?_; rintro e W1 ⟨rfl, hb⟩; have n0_ := Aside0.mk (below_step HB.out hb); clear HB hb; have HB := n0_; clear n0_) | (go_at_call 22; refine (HQ.out _).mono ?_; rintro e W1 ⟨rfl, hb⟩; have n0_ := Aside0.mk (below_step HB.out hb); clear HB hb; have HB := n0_; clear n0_))
       go_ret
       exact ⟨rfl, HB.out⟩)
theorem walk (a0 : Int) (w : World) (hE : Env w) (_w0 : (Lit.int .i32 a0).wf = true) :
    Calls Tryd.prog 5 #[.int .i32 a0] w fun e w' => e = .returned (.bool true) ∧ Below w.heap.size w w' :=
  kw a0 w hE _ _ _ _ _ _ _ rfl rfl rfl rfl rfl rfl rfl (good_of a0)

end Go.Proofs.YtiddhaakbcnbiaaDoor.Kinds
