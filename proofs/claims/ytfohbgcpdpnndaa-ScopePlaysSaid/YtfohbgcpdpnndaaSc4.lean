/- The contracts of the package of namespaces: Pop, Push. -/
import Derived.Test.YtfohbgcpdpnndaaSc3
namespace Go.Proofs.Ytfohbgcpdpnndaa.Sc
open Go.RowKit Go.Proofs.Ytfohbgcpdpnndaa.Ow
set_option linter.unusedVariables false

theorem own_ne {w : World} {B T T' s n b : Nat} {v : Value} {xs : List Value} {cs : Array Value} {fz : Nat × Nat} (h : w.ownsRow B T s v n xs) (hb : w.heap[b]? = some (.cells cs T' fz)) (hT : T' ≠ T) : v.ownBlock ≠ some b := by
  intro e
  rcases h.2 with ⟨rfl, _⟩ | ⟨g, cap, cur, rfl, _, hg, _⟩
  · cases e
  · have : g = b := by simpa [Value.ownBlock] using e
    rw [this, hb] at hg
    simp at hg
    exact hT hg.2.1
theorem own_two {w : World} {B B' T T' s s' n n' : Nat} {v v' : Value} {xs xs' : List Value} (h : w.ownsRow B T s v n xs) (h' : w.ownsRow B' T' s' v' n' xs') (hT : T' ≠ T) : v.ownBlock = none ∨ v.ownBlock ≠ v'.ownBlock := by
  cases hv : v.ownBlock with
  | none => exact .inl rfl
  | some b =>
    right
    intro e
    rcases h'.2 with ⟨rfl, _⟩ | ⟨g, cap, cur, rfl, _, hg, _⟩
    · cases e
    · have : b = g := by simpa [Value.ownBlock] using e
      subst this
      exact own_ne h hg hT hv
theorem own_setCell {w : World} {B T s n p o : Nat} {v x : Value} {xs : List Value} (h : w.ownsRow B T s v n xs) (hp : v.ownBlock ≠ some p) : (w.setCell ⟨p, o, none⟩ x).ownsRow B T s v n xs := by
  refine ⟨h.1, ?_⟩
  rcases h.2 with h1 | ⟨g, cap, cur, h1, h2, hg, h3⟩
  · exact .inl h1
  · refine .inr ⟨g, cap, cur, h1, h2, ?_, h3⟩
    rw [Below.heap_setCell _ _ _ _ (by intro e; apply hp; rw [h1, e]; rfl)]
    exact hg
theorem len_snoc {α : Type} (ys : List α) (z : α) : (ys ++ [z]).length = ys.length + 1 := by simp
theorem IsScope.popped {w : World} {p g cap : Nat} {ys : List (List At)} {z : List At} (h : IsScope w p (.slice (some ⟨g, 0, none⟩) (ys.length + 1) cap) (ys ++ [z])) :
    IsScope (w.setCell ⟨p, 0, none⟩ (.slice (some ⟨g, 0, none⟩) ys.length cap)) p (.slice (some ⟨g, 0, none⟩) ys.length cap) ys ∧
    Turned p (.slice (some ⟨g, 0, none⟩) (ys.length + 1) cap) (.slice (some ⟨g, 0, none⟩) ys.length cap) w (w.setCell ⟨p, 0, none⟩ (.slice (some ⟨g, 0, none⟩) ys.length cap)) := by
  have hb : ∀ k x, k ≠ p → (w.setCell ⟨p, 0, none⟩ x).heap[k]? = w.heap[k]? := fun k x hk => Below.heap_setCell _ _ _ _ hk
  obtain ⟨hc, ss, h1, h2, h3⟩ := h
  rw [len_snoc] at h1 h2 h3
  refine ⟨⟨?_, ss.take ys.length, by simp [h1], ?_, fun i hi => ?_⟩, ⟨rfl, rfl, rfl, by simp [World.setCell], fun k hk h1 h2 => hb k _ h1, fun k hk => .inl hk⟩⟩
  · simp only [World.setCell, Array.getElem?_modify, hc]
    simp
  · refine own_setCell ?_ (show (Value.slice (some ⟨g, 0, none⟩) (ys.length + 1) cap).ownBlock ≠ some p from own_ne h2 hc (by decide : (53 : Nat) ≠ 20))
    refine ⟨by simp [h1], ?_⟩
    rcases h2.2 with ⟨_, h⟩ | ⟨g', cap', cur, hv, hg, hh, hn, hm, hs, ht⟩
    · omega
    · simp only [Value.slice.injEq, Option.some.injEq, Addr.mk.injEq, and_true] at hv
      obtain ⟨rfl, _, rfl⟩ := hv
      refine .inr ⟨g, cap, cur, rfl, hg, hh, by omega, hm, hs, ?_⟩
      have := congrArg (List.take (ys.length * 1)) ht
      simp only [List.take_take] at this
      rw [show min (ys.length * 1) ((ys.length + 1) * 1) = ys.length * 1 by omega] at this
      rw [this, ← List.map_take]
      simp
  · have hi' := h3 i (by omega)
    have e1 : (ss.take ys.length).getD i (.slice none 0 0) = ss.getD i (.slice none 0 0) := by simp [List.getD, hi]
    have e2 : (ys ++ [z]).getD i [] = ys.getD i [] := by simp [List.getD, List.getElem?_append, hi]
    rw [e1]
    rw [e2] at hi'
    exact own_setCell hi' (own_ne hi' hc (by decide : (53 : Nat) ≠ 35))
theorem IsScope.drewN {w : World} {p : Nat} {v : Value} {lv : List (List At)} (h : IsScope w p v lv) (n : Nat) : IsScope (w.drewN n) p v lv := ⟨h.cells, h.lev⟩
theorem pop_no (p : Nat) (v : Value) (w : World) (h : IsScope w p v []) :
    Calls Try.prog 17 #[.pointer (some ⟨p, 0, none⟩)] w fun e w' => e = .returned (.bool false) ∧ w = w' := by
  have H := depth_any p v [] w h
  clear h
  go_enter Try.func17, Try.ntmps17
  go_wp2_with fail
  refine H.mono ?_
  rintro e w' ⟨rfl, rfl⟩
  clear H
  go_wp2_with fail
  go_ret
  exact ⟨rfl, rfl⟩
theorem pop_yes (p : Nat) (v : Value) (ys : List (List At)) (z : List At) (w : World) (h : IsScope w p v (ys ++ [z])) (hl : ys.length ≤ 4611686018427387903) :
    Calls Try.prog 17 #[.pointer (some ⟨p, 0, none⟩)] w fun e w' => e = .returned (.bool true) ∧ ∃ v', IsScope w' p v' ys ∧ Turned p v v' w w' := by
  have H := depth_any p v (ys ++ [z]) w h
  rw [len_snoc] at H
  have c0 : w.cell? ⟨p, 0, none⟩ = some v := cell_of h.cells 0
  have f0 := frozen_of h.cells 0
  obtain ⟨g, cap, _, _, rfl, _, _⟩ := h.level (k := 0) (by simp)
  have hle : ys.length + 1 ≤ cap := by
    obtain ⟨_, ss, h1, h2, _⟩ := h
    rcases h2.2 with ⟨_, h⟩ | ⟨g', cap', cur, hv, _, _, hn, _⟩
    · simp at h
    · simp only [Value.slice.injEq] at hv
      obtain ⟨_, _, rfl⟩ := hv
      rw [len_snoc] at hn
      exact hn
  rw [len_snoc] at c0 h ⊢
  have HP : Hid (∀ n, _) := fun n => (h.drewN n).popped
  clear h
  generalize ys.length = n at hl c0 H hle HP ⊢
  have hz : (((n + 1 : Nat) : Int) == 0) = false := by rw [beq_eq_false_iff_ne]; omega
  have hz2 : (((n : Int) + 1) == 0) = false := by rw [beq_eq_false_iff_ne]; omega
  go_enter Try.func17, Try.ntmps17
  go_wp2_with fail
  refine H.mono ?_
  rintro e w' ⟨rfl, rfl⟩
  clear H
  go_wp2_with fail
  have hw : IntKind.i64.wrap (n : Int) = n := IntWalk.i64_in _ (by omega)
  have h0 : (0 : Int) ≤ (n : Int) := by omega
  have ht : ((n : Int)).toNat = n := by omega
  have hi : (n : Int) < (n : Int) + 1 := by omega
  go_region
  go_wp2
  go_ret
  obtain ⟨h1, h2⟩ := HP.out _
  exact ⟨rfl, _, h1, h2.undrew⟩
/-! ### Push -/
def pushG : List At → List At → Option (List At)
  | m, [] => some m
  | m, a :: l => if (declR a).2 = true then (if (wrongR a || m.any (sameB a)) = true then none else pushG (m ++ [a]) l) else pushG m l
theorem IsScope.pushed {w w1 : World} {p : Nat} {v v' s : Value} {lv : List (List At)} {m : List At} (h : IsScope w p v lv) (hm : w.ownsRow 0 35 4 s m.length (cellsA m)) (hg : w.grownBy w1 v.ownBlock)
    (ss : List Value) (h1 : ss.length = lv.length) (h2 : w.ownsRow 0 20 1 v lv.length (ss.map (Value.iface 26)))
    (h3 : ∀ i, i < lv.length → w.ownsRow 0 35 4 (ss.getD i (.slice none 0 0)) (lv.getD i []).length (cellsA (lv.getD i [])))
    (ho1 : w1.ownsRow 0 20 1 v' (lv.length + 1) (ss.map (Value.iface 26) ++ [.iface 26 s]))
    (hloc : v'.ownBlock = v.ownBlock ∨ v'.ownBlock = some w.heap.size) :
    IsScope (w1.setCell ⟨p, 0, none⟩ v') p v' (lv ++ [m]) ∧ Turned p v v' w (w1.setCell ⟨p, 0, none⟩ v') := by
  have hb : ∀ k x, k ≠ p → (w1.setCell ⟨p, 0, none⟩ x).heap[k]? = w1.heap[k]? := fun k x hk => Below.heap_setCell _ _ _ _ hk
  have hlt := h.lt
  have hc := h.cells
  have hpo : v.ownBlock ≠ some p := own_ne h2 hc (by decide : (53 : Nat) ≠ 20)
  have hc1 := (hg.block p hlt (fun e => hpo e.symm)).trans hc
  have hne : v'.ownBlock ≠ some p := by
    intro e
    rcases hloc with h4 | h4
    · exact hpo (h4.symm.trans e)
    · rw [h4] at e; cases e; omega
  have hk : ∀ s' (l : List At), w.ownsRow 0 35 4 s' l.length (cellsA l) → (w1.setCell ⟨p, 0, none⟩ v').ownsRow 0 35 4 s' l.length (cellsA l) := fun s' l hs =>
    own_setCell (hs.kept hg (own_two hs h2 (by decide : (20 : Nat) ≠ 35))) (own_ne hs hc (by decide : (53 : Nat) ≠ 35))
  refine ⟨⟨?_, ss ++ [s], by simp [h1], ?_, fun i hi => ?_⟩, ⟨hg.os, hg.tape, hg.output, by simpa [World.setCell] using hg.size, fun k hk h1 h2 => (hb k _ h1).trans (hg.block k hk h2), fun k hk => ?_⟩⟩
  · simp only [World.setCell, Array.getElem?_modify, hc1]
    simp
  · rw [len_snoc, List.map_append]
    exact own_setCell ho1 hne
  · rw [len_snoc] at hi
    by_cases hlt : i < lv.length
    · have e1 : (ss ++ [s]).getD i (.slice none 0 0) = ss.getD i (.slice none 0 0) := by simp [List.getD, List.getElem?_append, h1, hlt]
      have e2 : (lv ++ [m]).getD i [] = lv.getD i [] := by simp [List.getD, List.getElem?_append, hlt]
      rw [e1, e2]
      exact hk _ _ (h3 i hlt)
    · obtain rfl : i = lv.length := by omega
      have e1 : (ss ++ [s]).getD lv.length (.slice none 0 0) = s := by simp [List.getD, h1]
      have e2 : (lv ++ [m]).getD lv.length [] = m := by simp [List.getD]
      rw [e1, e2]
      exact hk _ _ hm
  · rcases hloc with h4 | h4
    · exact .inl (h4.symm.trans hk)
    · rw [h4] at hk; cases hk; exact .inr (Nat.le_refl _)
theorem infoA : (Try.prog.info? 35).map (fun i => (i.zero, i.size, i.bytes)) = some (some (.agg #[.string ⟨#[]⟩, .string ⟨#[]⟩, .string ⟨#[]⟩, .string ⟨#[]⟩]), 4, 64) := by kernel_rfl
theorem infoI : (Try.prog.info? 20).map (fun i => (i.zero, i.size, i.bytes)) = some (some .nilIface, 1, 16) := by kernel_rfl
def PushPost (p : Nat) (v : Value) (lv : List (List At)) (R : Option (List At)) (w : World) (e : Ending) (w' : World) : Prop :=
  (R = none ∧ e = .returned (.int .i64 2) ∧ Below w.heap.size w w') ∨ ∃ m v', R = some m ∧ e = .returned (.int .i64 0) ∧ IsScope w' p v' (lv ++ [m]) ∧ Turned p v v' w w'
def PushR (w : World) (l : List At) (R : Option (List At)) (j : Nat) (s : Value) (wr : World) : Prop :=
  ∃ m : List At, m.length ≤ j ∧ R = pushG m (l.drop j) ∧ wr.ownsRow w.heap.size 35 4 s m.length (cellsA m) ∧ Below w.heap.size w wr
theorem drop_cons {l : List At} {j : Nat} {a : At} (hj : j < l.length) (ha : l.getD j zA = a) : l.drop j = a :: l.drop (j + 1) := by
  rw [List.drop_eq_getElem_cons hj, ← ha]; simp [List.getD, hj]
theorem box4 {wr w2 : World} {a0 a1 a2 a3 : Value} {T : TypeId} (hb : Below (wr.alloc (.cells #[a0, a1, a2, a3] T)).heap.size (wr.alloc (.cells #[a0, a1, a2, a3] T)) w2) :
    w2.cell? ⟨wr.heap.size, 0, none⟩ = some a0 ∧ w2.cell? ⟨wr.heap.size, 1, none⟩ = some a1 ∧ w2.cell? ⟨wr.heap.size, 2, none⟩ = some a2 ∧ w2.cell? ⟨wr.heap.size, 3, none⟩ = some a3 ∧ wr.heap.size < w2.heap.size := by
  have hs := hb.size
  simp at hs
  exact ⟨(hb.cell (p := ⟨wr.heap.size, 0, none⟩) (by simp)).trans (cell_of (heap_alloc_new _ _) 0), (hb.cell (p := ⟨wr.heap.size, 1, none⟩) (by simp)).trans (cell_of (heap_alloc_new _ _) 1), (hb.cell (p := ⟨wr.heap.size, 2, none⟩) (by simp)).trans (cell_of (heap_alloc_new _ _) 2), (hb.cell (p := ⟨wr.heap.size, 3, none⟩) (by simp)).trans (cell_of (heap_alloc_new _ _) 3), by omega⟩
theorem below_chain {wr w2 w3 : World} {o : Obj} (hb2 : Below (wr.alloc o).heap.size (wr.alloc o) w2) (hb3 : Below w2.heap.size w2 w3) : Below wr.heap.size wr w3 :=
  ((Below.refl _ _).alloc (Nat.le_refl _) _).trans ((hb2.trans (hb3.mono hb2.size)).mono (by simp))
theorem push_end {wr w5 : World} {p B : Nat} {v v' s : Value} {lv : List (List At)} {m : List At} {o : Obj} (h : IsScope wr p v lv) (hm : wr.ownsRow B 35 4 s m.length (cellsA m))
    (ss : List Value) (h1 : ss.length = lv.length) (h2 : wr.ownsRow 0 20 1 v lv.length (ss.map (Value.iface 26)))
    (h3 : ∀ i, i < lv.length → wr.ownsRow 0 35 4 (ss.getD i (.slice none 0 0)) (lv.getD i []).length (cellsA (lv.getD i [])))
    (ho : w5.ownsRow 0 20 1 v' (lv.length + 1) (ss.map (Value.iface 26) ++ [.iface 26 s])) (hg : (wr.alloc o).grownBy w5 v.ownBlock) (hloc : v'.ownBlock = v.ownBlock ∨ v'.ownBlock = some (wr.alloc o).heap.size) :
    w5.cell? ⟨p, 0, none⟩ = some v ∧ w5.frozen? ⟨p, 0, none⟩ = false ∧ p < w5.heap.size ∧ IsScope (w5.setCell ⟨p, 0, none⟩ v') p v' (lv ++ [m]) ∧ Turned p v v' wr (w5.setCell ⟨p, 0, none⟩ v') := by
  have hb : Below wr.heap.size wr (wr.alloc o) := (Below.refl _ _).alloc (Nat.le_refl _) _
  have hI := h.below hb
  have hlt := hI.lt
  have hpo : v.ownBlock ≠ some p := own_ne h2 h.cells (by decide : (53 : Nat) ≠ 20)
  have hc1 := (hg.block p hlt (fun e => hpo e.symm)).trans hI.cells
  have hm0 : (wr.alloc o).ownsRow 0 35 4 s m.length (cellsA m) := by
    refine own_kept_below (w := wr) ⟨hm.1, ?_⟩ hb
    rcases hm.2 with h | ⟨g, cap, cur, q1, q2, q3⟩
    · exact .inl h
    · exact .inr ⟨g, cap, cur, q1, Nat.zero_le _, q3⟩
  obtain ⟨k1, k2⟩ := hI.pushed hm0 hg ss h1 (own_kept_below h2 hb) (fun i hi => own_kept_below (h3 i hi) hb) ho hloc
  exact ⟨cell_of hc1 0, frozen_of hc1 0, Nat.lt_of_lt_of_le hlt hg.size, k1, (Turned.of_below hb).trans k2⟩
set_option maxRecDepth 100000 in
set_option maxHeartbeats 4000000 in
theorem push_any (p : Nat) (v : Value) (lv : List (List At)) (A : Option Addr) (cap : Nat) (l : List At) (w : World) (h : IsScope w p v lv) (hA : CellsAt w A l) (hl : l.length ≤ 1000000) (hlv : lv.length ≤ 1000000) :
    Calls Try.prog 9 #[.pointer (some ⟨p, 0, none⟩), .slice A l.length cap] w (PushPost p v lv (pushG [] l) w) := by
  obtain ⟨R, hR⟩ : ∃ R, pushG [] l = R := ⟨_, rfl⟩
  rw [hR]
  have HR := Lib.hid hR
  clear hR
  have c0 : w.cell? ⟨p, 0, none⟩ = some v := cell_of h.cells 0
  have f0 := frozen_of h.cells 0
  have hp := h.lt
  have HS := Lib.hid h
  obtain ⟨n, hn⟩ : ∃ n, l.length = n := ⟨_, rfl⟩
  rw [hn] at hl ⊢
  have HN := Lib.hid hn
  obtain ⟨i0, hi, hz0, hz1, hz2⟩ := info_parts infoA
  clear hn h
  go_enter Try.func9, Try.ntmps9
  go_wp2_with fail
  go_loopw [5, 14] (fun s x wr => ∃ j : Nat, j ≤ n ∧ x = .int .i64 j ∧ Hid (PushR w l R j s wr)) (fun _ x _ => n - (intOf x).toNat)
  case atStart => exact ⟨0, by omega, rfl, [], by simp, HR.out.symm, World.ownsRow_nil _ _ _ _, Below.refl _ _⟩
  case round =>
    obtain ⟨j, hj, rfl, hP⟩ := hrel
    by_cases hlt : j < n
    · have hjl : j < l.length := by rw [HN.out]; exact hlt
      obtain ⟨a, ha⟩ : ∃ a, l.getD j zA = a := ⟨_, rfl⟩
      obtain ⟨m, hmj, hRm, hown, hB⟩ := hP.out
      obtain ⟨g, o, rfl, hgl, e0, e1, e2, e3⟩ := hA j hjl
      rw [ha] at e0 e1 e2 e3
      have hdrop := drop_cons hjl ha
      have f0' := (hB.cell (p := ⟨g, o + j * 4, none⟩) hgl).trans e0
      have f1' := (hB.cell (p := ⟨g, o + j * 4 + 1, none⟩) hgl).trans e1
      have f2' := (hB.cell (p := ⟨g, o + j * 4 + 2, none⟩) hgl).trans e2
      have f3' := (hB.cell (p := ⟨g, o + j * 4 + 3, none⟩) hgl).trans e3
      have hgz : g < wr.heap.size := Nat.lt_of_lt_of_le hgl hB.size
      rw [hdrop] at hRm
      have HRm := Lib.hid hRm
      have HB := Lib.hid hB
      have hBs := hB.size
      obtain ⟨A', c', rfl, _, _⟩ := cellsAt_of_own hown rfl
      have HD := fun W => declares_any a W
      have HW := fun W => wrong_any a W
      clear hdrop ha e0 e1 e2 e3 hA hRm hB hP HS
      cases hd : (declR a).2 with
      | false =>
        have hnext : ∀ wz, Below wr.heap.size wr wz → Hid (PushR w l R (j + 1) (.slice A' m.length c') wz) := fun wz hb => ⟨m, by omega, by rw [HRm.out]; simp [pushG, hd], own_kept_below hown hb, HB.out.trans (hb.mono hBs)⟩
        have HX := Lib.hid hnext
        generalize declR a = D at HD hd
        obtain ⟨d1, d2⟩ := D
        simp only at HD hd
        subst hd
        clear hown hnext HW
        go_wp2_with fail
        refine (HD _).mono ?_
        clear HD
        rintro e w2 ⟨rfl, hb2⟩
        go_wp2_with fail
        go_roundw
        case rel => exact ⟨j + 1, by omega, by go_num, HX.out _ (((Below.refl _ _).alloc (Nat.le_refl _) _).trans (hb2.mono (by simp)))⟩
        case measure => simp [intOf]; omega
      | true =>
        have hRm2 : Hid (R = if (wrongR a || m.any (sameB a)) = true then none else pushG (m ++ [a]) (l.drop (j + 1))) := by show R = _; rw [HRm.out]; simp only [pushG, hd, if_true]
        generalize declR a = D at HD hd
        obtain ⟨d1, d2⟩ := D
        simp only at HD hd
        subst hd
        clear HRm
        cases hw : wrongR a with
        | true =>
          have hF : Hid (R = none) := by show R = none; rw [hRm2.out, hw]; rfl
          rw [hw] at HW
          clear hw hRm2
          go_wp2_with fail
          refine (HD _).mono ?_
          clear HD
          rintro e w2 ⟨rfl, hb2⟩
          obtain ⟨b0, b1, b2, b3, hbz⟩ := box4 hb2
          go_wp2_with fail
          refine (HW _).mono ?_
          clear HW
          rintro e w3 ⟨rfl, hb3⟩
          go_wp2_with fail
          go_ret
          exact .inl ⟨hF.out, rfl, HB.out.trans (below_chain hb2 hb3 |>.mono hBs)⟩
        | false =>
          rw [hw] at HW
          cases hc : m.any (sameB a) with
          | true =>
            have hF : Hid (R = none) := by show R = none; rw [hRm2.out, hw, hc]; rfl
            clear hw hRm2
            have HC := fun W (hb : Below wr.heap.size wr W) => containsFunc_any a wr.heap.size A' c' m W (by obtain ⟨_, _, hv, hC, _⟩ := cellsAt_of_own (own_kept_below hown hb) rfl; cases hv; exact hC) (by omega)
            rw [hc] at HC
            clear hc hown
            go_wp2_with fail
            refine (HD _).mono ?_
            clear HD
            rintro e w2 ⟨rfl, hb2⟩
            obtain ⟨b0, b1, b2, b3, hbz⟩ := box4 hb2
            go_wp2_with fail
            refine (HW _).mono ?_
            clear HW
            rintro e w3 ⟨rfl, hb3⟩
            have hb13 := below_chain hb2 hb3
            obtain ⟨g0, g1, g2, g3, hgz3⟩ := box4 (hb2.trans (hb3.mono hb2.size))
            go_wp2_with fail
            refine (HC _ hb13 g0 g1 hgz3).mono ?_
            clear HC
            rintro e w4 ⟨rfl, hb4⟩
            go_wp2_with fail
            go_ret
            exact .inl ⟨hF.out, rfl, HB.out.trans ((hb13.trans (hb4.mono hb13.size)).mono hBs)⟩
          | false =>
            have hnext : Hid (R = pushG (m ++ [a]) (l.drop (j + 1))) := by show R = _; rw [hRm2.out, hw, hc]; rfl
            clear hw hRm2
            have HC := fun W (hb : Below wr.heap.size wr W) => containsFunc_any a wr.heap.size A' c' m W (by obtain ⟨_, _, hv, hC, _⟩ := cellsAt_of_own (own_kept_below hown hb) rfl; cases hv; exact hC) (by omega)
            rw [hc] at HC
            clear hc
            go_wp2_with fail
            refine (HD _).mono ?_
            clear HD
            rintro e w2 ⟨rfl, hb2⟩
            obtain ⟨b0, b1, b2, b3, hbz⟩ := box4 hb2
            go_wp2_with fail
            refine (HW _).mono ?_
            clear HW
            rintro e w3 ⟨rfl, hb3⟩
            have hb13 := below_chain hb2 hb3
            obtain ⟨g0, g1, g2, g3, hgz3⟩ := box4 (hb2.trans (hb3.mono hb2.size))
            go_wp2_with fail
            refine (HC _ hb13 g0 g1 hgz3).mono ?_
            clear HC
            rintro e w4 ⟨rfl, hb4⟩
            have hb14 := hb13.trans (hb4.mono hb13.size)
            obtain ⟨k0, k1, k2, k3, hkz⟩ := box4 ((hb2.trans (hb3.mono hb2.size)).trans (hb4.mono (Nat.le_trans hb2.size hb3.size)))
            have hown4 := own_kept_below hown hb14
            have hs4 : w.heap.size ≤ w4.heap.size := Nat.le_trans hBs hb14.size
            clear b0 b1 b2 b3 g0 g1 g2 g3 hown hgz3 hbz
            go_wp2_with (at_builtin; refine wpList_append_own _ rfl (.tmp 32) (.tmp 34) 26 rfl w.heap.size 35 i0 (.agg #[.string ⟨#[]⟩, .string ⟨#[]⟩, .string ⟨#[]⟩, .string ⟨#[]⟩]) 4 64 Try.underlying26 hi hz0 hz1 hz2 rfl (by decide) (.slice A' m.length c') m.length (cellsA m) rfl (hown4.alloc _) ⟨w4.heap.size, 0, none⟩ 1 1 [.string a.pf, .string a.lc, .string a.ur, .string a.vl] rfl rfl (cells_block _ _ _) (by intro u hu; simp at hu; rcases hu with rfl | rfl | rfl | rfl <;> rfl) (by unfold maxLen; omega) (by omega) (by simp; omega) ?_; intro v' w5 hown5 hgrow _; obtain ⟨g', cap', rfl⟩ := own_shape3 hown5)
            go_roundw
            case rel =>
              refine ⟨j + 1, by omega, by go_num, m ++ [a], by simp; omega, hnext.out, ?_, ?_⟩
              · rw [cellsA_app, len_snoc]; exact hown5
              · exact (((HB.out.trans (hb14.mono hBs)).alloc hs4 _).grown hgrow (by simp; omega) (fun k hk => (hown4.lt k hk).1))
            case measure => simp [intOf]; omega
    · obtain rfl : j = n := by omega
      obtain ⟨m, hmj, hRm, hown, hB⟩ := hP.out
      have hF : Hid (R = some m) := by
        show R = some m
        rw [hRm, ← HN.out, List.drop_length]
        rfl
      have hBs := hB.size
      have hSr := Lib.hid (HS.out.below hB)
      have d0 := (hB.cell (p := ⟨p, 0, none⟩) hp).trans c0
      have d1 := (hB.frozen (p := ⟨p, 0, none⟩) hp).trans f0
      have hpz : p < wr.heap.size := by omega
      have HOW := Lib.hid hown
      have HB := Lib.hid hB
      obtain ⟨A', c', rfl, _, _⟩ := cellsAt_of_own hown rfl
      obtain ⟨i1, hi1, hy0, hy1, hy2⟩ := info_parts infoI
      clear hA hRm hP hown c0 f0 hB HS hi hz0 hz1 hz2
      obtain ⟨ss, q1, q2, q3⟩ := hSr.out.lev
      have Q1 := Lib.hid q1
      have Q3 := Lib.hid q3
      have hvl : ∀ k, v.ownBlock = some k → k < wr.heap.size := fun k hk => (q2.lt k hk).2
      clear q1 q3
      go_wp2_with (at_builtin; refine wpList_append_own_at _ rfl (.tmp 41) (.tmp 44) 51 rfl 0 20 i1 .nilIface 1 16 Try.underlying51 hi1 hy0 hy1 hy2 rfl (by decide) v lv.length (ss.map (Value.iface 26)) rfl (q2.alloc _) ⟨wr.heap.size, 0, none⟩ 1 1 [.iface 26 (.slice A' m.length c')] rfl rfl (cells_block _ _ _) (by intro u hu; simp at hu; subst hu; rfl) (by unfold maxLen; omega) (by omega) (by simp) ?_; intro v' w5 hown5 hgrow _ hloc; obtain ⟨k0, k1, kz, hfin⟩ := push_end hSr.out HOW.out ss Q1.out q2 Q3.out hown5 hgrow hloc; have HFI := Lib.hid hfin; obtain ⟨g', cap', rfl⟩ := own_shape3 hown5; clear hfin hown5 hgrow hloc)
      go_ret
      obtain ⟨hI, hT⟩ := HFI.out
      exact .inr ⟨m, _, hF.out, rfl, hI, (Turned.of_below HB.out).trans hT⟩
end Go.Proofs.Ytfohbgcpdpnndaa.Sc
