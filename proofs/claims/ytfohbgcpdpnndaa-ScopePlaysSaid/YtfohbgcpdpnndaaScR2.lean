/- The document's Scope: Pop. -/
import Derived.Test.YtfohbgcpdpnndaaScR
namespace Go.Proofs.Ytfohbgcpdpnndaa.Sc
open Go.RowKit Go.Proofs.Ytfohbgcpdpnndaa.Ow Go.Sort
set_option linter.unusedVariables false
theorem IsRef.popped {w : World} {p g cap : Nat} {ys : List (List At)} {z : List At} (h : IsRef w p (.slice (some ⟨g, 0, none⟩) (ys.length + 1) cap) (ys ++ [z])) :
    IsRef (w.setCell ⟨p, 0, none⟩ (.slice (some ⟨g, 0, none⟩) ys.length cap)) p (.slice (some ⟨g, 0, none⟩) ys.length cap) ys ∧
    Turned p (.slice (some ⟨g, 0, none⟩) (ys.length + 1) cap) (.slice (some ⟨g, 0, none⟩) ys.length cap) w (w.setCell ⟨p, 0, none⟩ (.slice (some ⟨g, 0, none⟩) ys.length cap)) := by
  have hb : ∀ k x, k ≠ p → (w.setCell ⟨p, 0, none⟩ x).heap[k]? = w.heap[k]? := fun k x hk => Below.heap_setCell _ _ _ _ hk
  obtain ⟨hc, ss, h1, h2, h3⟩ := h
  rw [len_snoc] at h1 h2 h3
  refine ⟨⟨?_, ss.take ys.length, by simp [h1], ?_, fun i hi => ?_⟩, ⟨rfl, rfl, rfl, by simp [World.setCell], fun k hk h1 h2 => hb k _ h1, fun k hk => .inl hk⟩⟩
  · simp only [World.setCell, Array.getElem?_modify, hc]
    simp
  · refine own_setCell ?_ (show (Value.slice (some ⟨g, 0, none⟩) (ys.length + 1) cap).ownBlock ≠ some p from own_ne h2 hc (by decide : (43 : Nat) ≠ 26))
    refine ⟨by simp [h1], ?_⟩
    rcases h2.2 with ⟨_, h⟩ | ⟨g', cap', cur, hv, hg, hh, hn, hm, hs, ht⟩
    · omega
    · simp only [Value.slice.injEq, Option.some.injEq, Addr.mk.injEq, and_true] at hv
      obtain ⟨rfl, _, rfl⟩ := hv
      refine .inr ⟨g, cap, cur, rfl, hg, hh, by omega, hm, hs, ?_⟩
      have := congrArg (List.take (ys.length * 1)) ht
      simp only [List.take_take] at this
      rw [show min (ys.length * 1) ((ys.length + 1) * 1) = ys.length * 1 by omega] at this
      rw [this]
      simp
  · have hi' := h3 i (by omega)
    have e1 : (ss.take ys.length).getD i (.slice none 0 0) = ss.getD i (.slice none 0 0) := by simp [List.getD, hi]
    have e2 : (ys ++ [z]).getD i [] = ys.getD i [] := by simp [List.getD, List.getElem?_append, hi]
    rw [e1]
    rw [e2] at hi'
    exact own_setCell hi' (own_ne hi' hc (by decide : (43 : Nat) ≠ 35))
theorem IsRef.drewN {w : World} {p : Nat} {v : Value} {lv : List (List At)} (h : IsRef w p v lv) (n : Nat) : IsRef (w.drewN n) p v lv := ⟨h.cells, h.lev⟩
theorem rpop_no (p : Nat) (v : Value) (w : World) (h : IsRef w p v []) :
    Calls Try.prog 18 #[.pointer (some ⟨p, 0, none⟩)] w fun e w' => e = .returned (.bool false) ∧ w = w' := by
  have c0 : w.cell? ⟨p, 0, none⟩ = some v := cell_of h.cells 0
  have hlt := h.lt
  obtain ⟨A, cap, rfl⟩ := h.shape
  clear h
  go_enter Try.func18, Try.ntmps18
  go_wp2
  go_ret
  exact ⟨rfl, rfl⟩
set_option maxHeartbeats 2000000 in
theorem rpop_yes (p : Nat) (v : Value) (ys : List (List At)) (z : List At) (w : World) (h : IsRef w p v (ys ++ [z])) (hl : ys.length ≤ 4611686018427387903) :
    Calls Try.prog 18 #[.pointer (some ⟨p, 0, none⟩)] w fun e w' => e = .returned (.bool true) ∧ ∃ v', IsRef w' p v' ys ∧ Turned p v v' w w' := by
  have c0 : w.cell? ⟨p, 0, none⟩ = some v := cell_of h.cells 0
  have f0 := frozen_of h.cells 0
  obtain ⟨g, cap, _, _, rfl, _, _⟩ := h.level (k := 0) (by simp)
  have hle : ys.length + 1 ≤ cap := by
    obtain ⟨_, ss, h1, h2, _⟩ := h
    rcases h2.2 with ⟨_, h⟩ | ⟨g', cap', cur, hv, _, _, hn, _⟩
    · simp at h
    · simp only [Value.slice.injEq] at hv
      obtain ⟨_, _, rfl⟩ := hv
      rw [len_snoc] at hn
      exact hn
  rw [len_snoc] at c0 h ⊢
  have hlt := h.lt
  have HP : Hid (∀ n, _) := fun n => (h.drewN n).popped
  clear h
  generalize ys.length = n at hl c0 hle HP ⊢
  have hz : (((n + 1 : Nat) : Int) == 0) = false := by rw [beq_eq_false_iff_ne]; omega
  have hz2 : (((n : Int) + 1) == 0) = false := by rw [beq_eq_false_iff_ne]; omega
  go_enter Try.func18, Try.ntmps18
  go_wp2_with fail
  have hw : IntKind.i64.wrap (n : Int) = n := IntWalk.i64_in _ (by omega)
  have h0 : (0 : Int) ≤ (n : Int) := by omega
  have ht : ((n : Int)).toNat = n := by omega
  have hi : (n : Int) < (n : Int) + 1 := by omega
  go_region
  all_goals
    go_wp2
    go_ret
    obtain ⟨h1, h2⟩ := HP.out _
    exact ⟨rfl, _, h1, h2.undrew⟩
end Go.Proofs.Ytfohbgcpdpnndaa.Sc
