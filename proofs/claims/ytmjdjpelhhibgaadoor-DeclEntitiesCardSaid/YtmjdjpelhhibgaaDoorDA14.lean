/- The contracts of the package of what stands ahead: a piece that is none. -/
import Derived.Test.YtmjdjpelhhibgaaDoorDA13
import Derived.Test.YtmjdjpelhhibgaaDoorKP0
import Derived.Deep.RegionHeld3
namespace Go.Proofs.YtmjdjpelhhibgaaDoor.DA
open Go.RowKit Go.Proofs.YtmjdjpelhhibgaaDoor.Ow Go.Proofs.YtmjdjpelhhibgaaDoor.DS Go.Proofs.YtmjdjpelhhibgaaDoor.Spec Go.Proofs.YtmjdjpelhhibgaaDoor.Giv
set_option linter.unusedVariables false
set_option linter.unusedSimpArgs false
theorem next_pct (s : ByteArray) (a : Nat) (hs : s.size < 4294967281) (h : s.data.toList.drop a = pctM) : ∃ r2 r3 r4 r5 r6, R1.token_Next.f 1 s (a : Int) = some (1, r2, r3, r4, r5, r6, 0) := by
  have ha : a < s.data.toList.length := by
    rcases Nat.lt_or_ge a s.data.toList.length with h1 | h1
    · exact h1
    · rw [List.drop_eq_nil_of_le h1] at h; cases h
  have hl : s.data.toList.length < 4294967281 := by simpa using hs
  have e := TP.next_f 0 s.data.toList a ha
  rw [show str s.data.toList = s from rfl] at e
  have hp := TP.plain_f s.data.toList a (Nat.le_of_lt ha) hl 5 (by rw [h]; decide) (by rw [h]; decide +kernel)
  rw [e]
  unfold TP.oneL
  rw [h]
  simp only [show TP.pre [60, 33, 45, 45] pctM = false from rfl, show TP.pre [60, 33, 91, 67, 68, 65, 84, 65, 91] pctM = false from rfl, show TP.pre [60, 63] pctM = false from rfl, show TP.pre [60, 47] pctM = false from rfl, Bool.false_eq_true, if_false]
  simp only [pctM]
  rw [if_neg (by decide), if_neg (by decide), hp, h]
  exact ⟨_, _, _, _, _, rfl⟩
theorem env_ad {w : World} {o : Obj} (h : Env w) : Env (w.alloc o).drew := h.below (alloc_drew_below w o)
abbrev TT : TypeId := 27
theorem box5 {w w1 : World} {o : Obj} (hb : Below (w.alloc o).drew.heap.size (w.alloc o).drew w1) : Below w.heap.size w w1 ∧ w1.heap[w.heap.size]? = some o ∧ w.heap.size < w1.heap.size := by
  have h0 := alloc_drew_below w o
  have hs : w.heap.size < (w.alloc o).drew.heap.size := by show _ < (w.alloc o).heap.size; simp
  exact ⟨h0.trans (hb.mono (Nat.le_of_lt hs)), (hb.block _ hs).trans (heap_alloc_new w o), Nat.lt_of_lt_of_le hs hb.size⟩
theorem set5 {w : World} {b : Nat} {a0 a1 a2 a3 a4 u0 u1 u2 u3 u4 : Value} {T : TypeId} {fz : Nat × Nat} (h : w.heap[b]? = some (.cells #[a0, a1, a2, a3, a4] T fz)) :
    (((((w.setCell ⟨b, 0, none⟩ u0).setCell ⟨b, 1, none⟩ u1).setCell ⟨b, 2, none⟩ u2).setCell ⟨b, 3, none⟩ u3).setCell ⟨b, 4, none⟩ u4).heap[b]? = some (.cells #[u0, u1, u2, u3, u4] T fz) := by
  simp only [World.setCell, Array.getElem?_modify, h]
  simp
open Go.Proofs.YtmjdjpelhhibgaaDoorW.PrintWords Go.Proofs.YtmjdjpelhhibgaaDoorW.PrintLast in
theorem row_form {α : Type} {d : Kd α} {e : Nat} {w : World} {base : Nat} {ok : Nat → Prop} {v : Value} {xs : List α} (h : d.R e w base ok v xs) : ∃ A n c, v = .slice A n c := by
  obtain ⟨_, inner, ho, _⟩ := h
  rcases ho.2 with ⟨hv, _⟩ | ⟨g, cap, cur, hv, _⟩
  · exact ⟨_, _, _, hv⟩
  · exact ⟨_, _, _, hv⟩
set_option maxRecDepth 100000 in
set_option maxHeartbeats 4000000 in
theorem piece_any (p : Nat) (s : ByteArray) (x : St) (nm : ByteArray) (ve va : Value) (w : World) (h : IsR w p s x nm ve va) (hx : x.r = pctM) (hxb : x.bad = false) :
    Calls Tryd.prog 75 #[.pointer (some ⟨p, 0, none⟩)] w (Step p s ⟨x.r, true⟩ nm ve va unitV w) := by
  obtain ⟨a, hs, ha, hr, c0, c1, c2, f1, f2, hp⟩ := h.open_
  have HI := Lib.hid h
  have hE := h.env
  clear h
  obtain ⟨r2, r3, r4, r5, r6, hn⟩ := next_pct s a hs (by rw [← hr, hx])
  have HN : ∀ W, Env W → Calls Tryd.prog 15 #[.string s, .int .i64 a] W fun e w' => ∃ A n c, e = .returned (.tuple #[.agg #[.int .i64 1, .string r2, .string r3, .slice A n c, .bool r5], .int .i64 r6, .int .i64 0]) ∧ Below W.heap.size W w' := by
    intro W hW
    refine (R1.token_Next.calls 1 s (a : Int) _ _ _ _ _ _ _ W hW hn).mono ?_
    rintro e w' ⟨v, rfl, hr, hb⟩
    obtain ⟨A, n, c, rfl⟩ := row_form hr
    exact ⟨A, n, c, rfl, hb⟩
  clear hn hr hx
  go_enter Tryd.func75, Tryd.ntmps75
  go_wp2_with fail
  go_cut [2, 3, 4] from 5 to 17 (fun b i c wx => ∃ (q : Nat) (v0 v1 v2 v3 : Value), b = .pointer (some ⟨q, 0, none⟩) ∧ i = .int .i64 r6 ∧ c = .int .i64 0 ∧ Hid (wx.heap[q]? = some (.cells #[.int .i64 1, v0, v1, v2, v3] TT (0, 0))) ∧ Hid (Below w.heap.size w wx))
  case first =>
    go_region_with (first
      | ((go_at_call 15; refine (HN _ (env_drew hE)).mono ?_; rintro e w1 ⟨A, n, c, rfl, hb1⟩))
      | ((go_at_call 15; refine (HN _ (env_ad hE)).mono ?_; rintro e w1 ⟨A, n, c, rfl, hb1⟩; obtain ⟨hb2, hbk, hbl⟩ := box5 hb1; have m0 := cell_of hbk 0; have m1 := cell_of hbk 1; have m2 := cell_of hbk 2; have m3 := cell_of hbk 3; have m4 := cell_of hbk 4; have l0 := frozen_of hbk 0; have l1 := frozen_of hbk 1; have l2 := frozen_of hbk 2; have l3 := frozen_of hbk 3; have l4 := frozen_of hbk 4)))
    all_goals
      go_wp2_with fail
      go_meet
      first
        | (have hx5 := set5 (u0 := .int .i64 1) (u1 := .string r2) (u2 := .string r3) (u3 := .slice A n c) (u4 := .bool r5) hbk
           exact ⟨w.heap.size, _, _, _, _, rfl, rfl, rfl, hx5, ((((hb2.setCell (p := ⟨w.heap.size, 0, none⟩) (Nat.le_refl _) _).setCell (p := ⟨w.heap.size, 1, none⟩) (Nat.le_refl _) _).setCell (p := ⟨w.heap.size, 2, none⟩) (Nat.le_refl _) _).setCell (p := ⟨w.heap.size, 3, none⟩) (Nat.le_refl _) _).setCell (p := ⟨w.heap.size, 4, none⟩) (Nat.le_refl _) _⟩)
        | (have hx5 := heap_alloc_new w1 (.cells #[.int .i64 1, .string r2, .string r3, .slice A n c, .bool r5] TT)
           exact ⟨w1.heap.size, _, _, _, _, rfl, rfl, rfl, hx5, (below_undrew hb1).alloc (below_undrew hb1).size _⟩)
  case rest =>
    obtain ⟨q, v0, v1, v2, v3, rfl, rfl, rfl, HQ, HB⟩ := hcut
    have HI2 := Lib.hid (HI.out.below HB.out)
    have m0 := cell_of HQ.out 0
    obtain ⟨a2, hs2, ha2, hr2, d0, d1, d2, g1, g2, hp2⟩ := HI2.out.open_
    clear hs2 ha2 hr2 HQ HI c0 c1 c2 f1 f2 hp HN hE
    go_wp2_with fail
    refine bodyPost_ret (results_none rfl _ _ _) rfl ?_
    exact ⟨rfl, HI2.out.setBad true, (Tn.of_below HB.out).set _ _⟩
end Go.Proofs.YtmjdjpelhhibgaaDoor.DA
