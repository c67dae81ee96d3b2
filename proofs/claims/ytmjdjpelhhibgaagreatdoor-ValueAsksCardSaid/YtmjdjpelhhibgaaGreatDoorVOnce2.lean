/- sync.Once, within a replacer: doSlow and Do. -/
import Derived.Test.YtmjdjpelhhibgaaGreatDoorVOnce
namespace Go.Proofs.YtmjdjpelhhibgaaGreatDoor.Once
open Go Go.RowKit
set_option linter.unusedVariables false
set_option linter.unusedSimpArgs false
abbrev TP : TypeId := 99
/-- Block R is a replacer: its 'once' (done, the lock), what it was built to, what it was made of. -/
def Rpl (w : World) (R : Nat) (d st : Int) (rv on : Value) : Prop := w.heap[R]? = some (.cells #[.int .u32 d, .int .i32 st, .int .u32 0, rv, on] TP (0, 0))
theorem Rpl.c0 {w : World} {R : Nat} {d st : Int} {rv on : Value} (h : Rpl w R d st rv on) : w.cell? ⟨R, 0, none⟩ = some (.int .u32 d) := by unfold Rpl at h; simp [World.cell?, h]
theorem Rpl.c1 {w : World} {R : Nat} {d st : Int} {rv on : Value} (h : Rpl w R d st rv on) : w.cell? ⟨R, 1, none⟩ = some (.int .i32 st) := by unfold Rpl at h; simp [World.cell?, h]
theorem Rpl.c3 {w : World} {R : Nat} {d st : Int} {rv on : Value} (h : Rpl w R d st rv on) : w.cell? ⟨R, 3, none⟩ = some rv := by unfold Rpl at h; simp [World.cell?, h]
theorem Rpl.c4 {w : World} {R : Nat} {d st : Int} {rv on : Value} (h : Rpl w R d st rv on) : w.cell? ⟨R, 4, none⟩ = some on := by unfold Rpl at h; simp [World.cell?, h]
theorem Rpl.fz {w : World} {R : Nat} {d st : Int} {rv on : Value} (h : Rpl w R d st rv on) (j : Nat) : w.frozen? ⟨R, j, none⟩ = false := by unfold Rpl at h; simp [World.frozen?, h]
theorem Rpl.lt {w : World} {R : Nat} {d st : Int} {rv on : Value} (h : Rpl w R d st rv on) : R < w.heap.size := (Array.getElem?_eq_some_iff.1 h).1
theorem Rpl.s0 {w : World} {R : Nat} {d st : Int} {rv on : Value} (h : Rpl w R d st rv on) (y : Int) : Rpl (w.setCell ⟨R, 0, none⟩ (.int .u32 y)) R y st rv on := by unfold Rpl at h ⊢; simp [World.setCell, Array.getElem?_modify, h]
theorem Rpl.s1 {w : World} {R : Nat} {d st : Int} {rv on : Value} (h : Rpl w R d st rv on) (y : Int) : Rpl (w.setCell ⟨R, 1, none⟩ (.int .i32 y)) R d y rv on := by unfold Rpl at h ⊢; simp [World.setCell, Array.getElem?_modify, h]
theorem Rpl.s3 {w : World} {R : Nat} {d st : Int} {rv on : Value} (h : Rpl w R d st rv on) (y : Value) : Rpl (w.setCell ⟨R, 3, none⟩ y) R d st y on := by unfold Rpl at h ⊢; simp [World.setCell, Array.getElem?_modify, h]
theorem Rpl.s4 {w : World} {R : Nat} {d st : Int} {rv on : Value} (h : Rpl w R d st rv on) (y : Value) : Rpl (w.setCell ⟨R, 4, none⟩ y) R d st rv y := by unfold Rpl at h ⊢; simp [World.setCell, Array.getElem?_modify, h]
set_option maxRecDepth 100000 in
theorem load_any (a : Addr) (d : Int) (b : Bool) (hd : (d != 0) = b) (w : World) (hc : w.cell? a = some (.int .u32 d)) : Calls Tryz.prog 61 #[.pointer (some a)] w fun e w' => e = .returned (.bool b) ∧ w = w' := by
  have hl := run_call_load (P := Tryz.prog) Tryz.func86 (by kernel_rfl) (by kernel_rfl) (by kernel_rfl) .u32 (by kernel_rfl) hc
  go_enter Tryz.func61, Tryz.ntmps61
  go_wp2
  go_ret
  exact ⟨rfl, rfl⟩
/-- What a build leaves: kept by stores into the replacer's own block, and by draws. -/
structure Stays (R : Nat) (Q : World → Prop) : Prop where
  set : ∀ W j x, Q W → Q (W.setCell ⟨R, j, none⟩ x)
  drew : ∀ W, Q W → Q W.drew
set_option maxRecDepth 100000 in
set_option maxHeartbeats 1600000 in
theorem slow_any (B R : Nat) (on : Value) (Q : Value → World → Prop) (hQ : ∀ bv, Stays R (Q bv)) (w : World) (hB : B ≤ R) (h : Rpl w R 0 0 .nilIface on)
    (HB : Calls Tryz.prog 43 #[.pointer (some ⟨R, 0, none⟩)] (w.setCell ⟨R, 1, none⟩ (.int .i32 1)) fun e W' => e = .returned (.tuple #[]) ∧ ∃ bv, Rpl W' R 0 1 bv (.slice none 0 0) ∧ Q bv W' ∧ Below B (w.setCell ⟨R, 1, none⟩ (.int .i32 1)) W') :
    Calls Tryz.prog 62 #[.pointer (some ⟨R, 0, none⟩), .func (.func 43) #[.pointer (some ⟨R, 0, none⟩)] #[]] w fun e w' => e = .returned (.tuple #[]) ∧ ∃ bv, Rpl w' R 1 0 bv (.slice none 0 0) ∧ Q bv w' ∧ Below B w w' := by
  have h1 := h.s1 1
  have cL := load_any ⟨R, 0, none⟩ 0 false rfl _ h1.c0
  have hnot : ∀ (x : Bool) (w : World), (Op.unary .not (.bool x)).run Tryz.prog w = .ok (.bool (!x)) w := fun _ _ => rfl
  have hL := lock_free ⟨R, 1, none⟩ w h.c1 (h.fz 1)
  have hbw : Below B w (w.setCell ⟨R, 1, none⟩ (.int .i32 1)) := (Below.refl B w).setCell (p := ⟨R, 1, none⟩) hB _
  have HW := Lib.hid hbw
  clear hbw h
  go_enter_defers Tryz.func62, Tryz.ntmps62
  go_wp2_with (first | (go_at_call 61; refine cL.mono ?_; rintro e w' ⟨rfl, rfl⟩) | (go_at_call 87; refine hL.mono ?_; rintro e w' ⟨rfl, rfl⟩) | (go_at_call 43; refine HB.mono ?_; rintro e W' ⟨rfl, bv, hr, hq, hb⟩))
  refine leaves_cons (f := 89) (args := #[.pointer (some ⟨R, 0, none⟩), .bool true]) (by simp) (by simp [go_sem]) ?_
  refine (store_deferred ⟨R, 0, none⟩ (.int .u32 0) .returning _ hr.c0 (hr.fz 0)).mono ?_
  rintro e u' w'' ⟨rfl, rfl, rfl⟩
  have hr2 : Rpl (W'.drew.setCell ⟨R, 0, none⟩ (.int .u32 1)) R 1 1 bv (.slice none 0 0) := Rpl.s0 (w := W'.drew) hr 1
  refine leaves_cons (f := 88) (args := #[.pointer (some ⟨R, 1, none⟩)]) (by simp [settle]) (by simp [go_sem]) ?_
  refine (unlock_deferred ⟨R, 1, none⟩ _ _ hr2.c1 (hr2.fz 1)).mono ?_
  rintro e u' w'' ⟨rfl, rfl, rfl⟩
  have hr3 := hr2.s1 0
  have hq3 := (hQ bv).set _ 1 (.int .i32 0) ((hQ bv).set _ 0 (.int .u32 1) ((hQ bv).drew _ hq))
  have hb3 := ((Below.drew (HW.out.trans hb)).setCell (p := ⟨R, 0, none⟩) hB (.int .u32 1)).setCell (p := ⟨R, 1, none⟩) hB (.int .i32 0)
  simp [Leaves, settle, results, Tryz.results62]
  exact ⟨bv, hr3, hq3, hb3⟩
set_option maxRecDepth 100000 in
set_option maxHeartbeats 1600000 in
theorem do_any (B R : Nat) (on : Value) (Q : Value → World → Prop) (hQ : ∀ bv, Stays R (Q bv)) (w : World) (hB : B ≤ R) (h : Rpl w R 0 0 .nilIface on)
    (HB : Calls Tryz.prog 43 #[.pointer (some ⟨R, 0, none⟩)] (w.setCell ⟨R, 1, none⟩ (.int .i32 1)) fun e W' => e = .returned (.tuple #[]) ∧ ∃ bv, Rpl W' R 0 1 bv (.slice none 0 0) ∧ Q bv W' ∧ Below B (w.setCell ⟨R, 1, none⟩ (.int .i32 1)) W') :
    Calls Tryz.prog 42 #[.pointer (some ⟨R, 0, none⟩), .func (.func 43) #[.pointer (some ⟨R, 0, none⟩)] #[]] w fun e w' => e = .returned (.tuple #[]) ∧ ∃ bv, Rpl w' R 1 0 bv (.slice none 0 0) ∧ Q bv w' ∧ Below B w w' := by
  have cL := load_any ⟨R, 0, none⟩ 0 false rfl w h.c0
  have cS := slow_any B R on Q hQ w hB h HB
  have hnot : ∀ (x : Bool) (w : World), (Op.unary .not (.bool x)).run Tryz.prog w = .ok (.bool (!x)) w := fun _ _ => rfl
  clear HB h
  go_enter Tryz.func42, Tryz.ntmps42
  go_wp2_with (first | (go_at_call 61; refine cL.mono ?_; rintro e w' ⟨rfl, rfl⟩) | (go_at_call 62; refine cS.mono ?_; rintro e w' ⟨rfl, bv, hr, hq, hb⟩))
  go_end0
  exact ⟨rfl, bv, hr, hq, hb⟩
end Go.Proofs.YtmjdjpelhhibgaaGreatDoor.Once
