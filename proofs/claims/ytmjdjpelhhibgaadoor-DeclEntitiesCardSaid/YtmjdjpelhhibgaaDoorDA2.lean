/- The contracts of the package of what stands ahead: the reader, and its first steps. The contracts of the package of what stands ahead: gaps, words, literals. -/
import Derived.Test.YtmjdjpelhhibgaaDoorKTok
import Derived.Test.YtmjdjpelhhibgaaDoorOw
import Derived.Test.YtmjdjpelhhibgaaDoorDS
import Derived.Deep.QuietTactic
import Derived.BigQuiet
import Derived.BigRegion
import Derived.IntWalk
namespace Go.Proofs.YtmjdjpelhhibgaaDoor.DA
open Go.RowKit Go.Proofs.YtmjdjpelhhibgaaDoor.Ow Go.Proofs.YtmjdjpelhhibgaaDoor.DS Go.Proofs.YtmjdjpelhhibgaaDoor.Spec Go.Proofs.YtmjdjpelhhibgaaDoor.Giv
set_option linter.unusedVariables false
set_option linter.unusedSimpArgs false

abbrev TR : TypeId := 73
/-- Block p is a reader of the text s: what is left of it, is it bad; the name and the slices of what is declared. -/
def IsR (w : World) (p : Nat) (s : ByteArray) (x : St) (nm : ByteArray) (ve va : Value) : Prop :=
  (∃ W0, Env W0 ∧ Below W0.heap.size W0 w ∧ W0.heap.size ≤ p) ∧ s.size < 4294967281 ∧ ∃ a : Nat, a ≤ s.size ∧ x.r = s.data.toList.drop a ∧ w.heap[p]? = some (.cells #[.string s, .int .i64 a, .bool x.bad, .string nm, ve, va] TR (0, 0))
/-- What a step of the reader turns: its own block, new blocks. -/
structure Tn (p : Nat) (w w' : World) : Prop where
  os : w'.os = w.os
  tape : w'.tape = w.tape
  output : w'.output = w.output
  size : w.heap.size ≤ w'.heap.size
  block : ∀ k, k < w.heap.size → k ≠ p → w'.heap[k]? = w.heap[k]?
theorem Tn.of_below {p : Nat} {w w' : World} (h : Below w.heap.size w w') : Tn p w w' := ⟨h.os, h.tape, h.output, h.size, fun k hk _ => h.block k hk⟩
theorem Tn.refl {p : Nat} {w : World} : Tn p w w := .of_below (Below.refl _ _)
theorem Tn.trans {p : Nat} {w w' w'' : World} (h : Tn p w w') (h' : Tn p w' w'') : Tn p w w'' :=
  ⟨h'.os.trans h.os, h'.tape.trans h.tape, h'.output.trans h.output, Nat.le_trans h.size h'.size, fun k hk hp => (h'.block k (Nat.lt_of_lt_of_le hk h.size) hp).trans (h.block k hk hp)⟩
theorem Tn.drewN {p : Nat} {w w' : World} (h : Tn p w w') (n : Nat) : Tn p w (w'.drewN n) := ⟨h.os, h.tape, h.output, h.size, h.block⟩
theorem Tn.undrew {p : Nat} {w w' : World} {n : Nat} (h : Tn p (w.drewN n) w') : Tn p w w' := ⟨h.os, h.tape, h.output, h.size, h.block⟩
theorem Tn.set {p : Nat} {w w' : World} (h : Tn p w w') (o : Nat) (v : Value) : Tn p w (w'.setCell ⟨p, o, none⟩ v) :=
  ⟨h.os, h.tape, h.output, by simpa [World.setCell] using h.size, fun k hk hp => (Below.heap_setCell _ _ _ _ hp).trans (h.block k hk hp)⟩
theorem Tn.below {p B : Nat} {w w' : World} (h : Tn p w w') (hB : B ≤ w.heap.size) (hp : B ≤ p) : Below B w w' := ⟨h.os, h.tape, h.output, h.size, fun k hk => h.block k (by omega) (by omega)⟩
theorem Tn.set1 {p : Nat} {w : World} (o : Nat) (v : Value) : Tn p w (w.setCell ⟨p, o, none⟩ v) := Tn.refl.set o v
theorem base_tn {p : Nat} {w w' : World} (h : Tn p w w') (hb : ∃ W0, Env W0 ∧ Below W0.heap.size W0 w ∧ W0.heap.size ≤ p) : ∃ W0, Env W0 ∧ Below W0.heap.size W0 w' ∧ W0.heap.size ≤ p := by
  obtain ⟨W0, h1, h2, h3⟩ := hb
  exact ⟨W0, h1, h2.trans (h.below h2.size h3), h3⟩
section
variable {w : World} {p : Nat} {s : ByteArray} {x : St} {nm : ByteArray} {ve va : Value}
theorem IsR.lt (h : IsR w p s x nm ve va) : p < w.heap.size := by obtain ⟨_, _, a, _, _, hc⟩ := h; exact (Array.getElem?_eq_some_iff.1 hc).1
theorem IsR.below {w' : World} (h : IsR w p s x nm ve va) (hb : Below w.heap.size w w') : IsR w' p s x nm ve va := by
  have hl := h.lt
  obtain ⟨hb0, h0, a, h1, h2, hc⟩ := h
  exact ⟨base_tn (Tn.of_below hb) hb0, h0, a, h1, h2, (hb.block p hl).trans hc⟩
theorem IsR.env (h : IsR w p s x nm ve va) : Env w := by
  obtain ⟨⟨W0, h1, h2, h3⟩, _⟩ := h
  exact h1.below h2
theorem IsR.drewN (h : IsR w p s x nm ve va) (n : Nat) : IsR (w.drewN n) p s x nm ve va := h.below ⟨rfl, rfl, rfl, Nat.le_refl _, fun _ _ => rfl⟩
theorem IsR.undrew {n : Nat} (h : IsR (w.drewN n) p s x nm ve va) : IsR w p s x nm ve va := h.below (w := w.drewN n) ⟨rfl, rfl, rfl, Nat.le_refl _, fun _ _ => rfl⟩
theorem IsR.alloc (h : IsR w p s x nm ve va) (o : Obj) : IsR (w.alloc o) p s x nm ve va := h.below ((Below.refl _ _).alloc (Nat.le_refl _) _)
theorem IsR.setBad (h : IsR w p s x nm ve va) (b : Bool) : IsR (w.setCell ⟨p, 2, none⟩ (.bool b)) p s ⟨x.r, b⟩ nm ve va := by
  obtain ⟨hb0, h0, a, h1, h2, hc⟩ := h
  refine ⟨base_tn (Tn.set1 _ _) hb0, h0, a, h1, h2, ?_⟩
  simp only [World.setCell, Array.getElem?_modify, hc]
  simp
theorem IsR.setAt (h : IsR w p s x nm ve va) (a : Nat) (ha : a ≤ s.size) (r : List UInt8) (hr : r = s.data.toList.drop a) : IsR (w.setCell ⟨p, 1, none⟩ (.int .i64 a)) p s ⟨r, x.bad⟩ nm ve va := by
  obtain ⟨hb0, h0, b, h1, h2, hc⟩ := h
  refine ⟨base_tn (Tn.set1 _ _) hb0, h0, a, ha, hr, ?_⟩
  simp only [World.setCell, Array.getElem?_modify, hc]
  simp
theorem IsR.setAtC (h : IsR w p s x nm ve va) (a : Nat) :
    (w.setCell ⟨p, 1, none⟩ (.int .i64 a)).cell? ⟨p, 0, none⟩ = some (.string s) ∧ (w.setCell ⟨p, 1, none⟩ (.int .i64 a)).cell? ⟨p, 1, none⟩ = some (.int .i64 a) ∧ (w.setCell ⟨p, 1, none⟩ (.int .i64 a)).cell? ⟨p, 2, none⟩ = some (.bool x.bad) ∧
    (w.setCell ⟨p, 1, none⟩ (.int .i64 a)).frozen? ⟨p, 2, none⟩ = false ∧ p < (w.setCell ⟨p, 1, none⟩ (.int .i64 a)).heap.size := by
  have hl := h.lt
  obtain ⟨_, h0, b, h1, h2, hc⟩ := h
  have hc2 : (w.setCell ⟨p, 1, none⟩ (.int .i64 a)).heap[p]? = some (.cells #[.string s, .int .i64 a, .bool x.bad, .string nm, ve, va] TR (0, 0)) := by
    simp only [World.setCell, Array.getElem?_modify, hc]
    simp
  exact ⟨cell_of hc2 0, cell_of hc2 1, cell_of hc2 2, frozen_of hc2 2, by simpa [World.setCell] using hl⟩
/-- The reader, laid open. -/
theorem IsR.open_ (h : IsR w p s x nm ve va) : ∃ a : Nat, s.size < 4294967281 ∧ a ≤ s.size ∧ x.r = s.data.toList.drop a ∧ w.cell? ⟨p, 0, none⟩ = some (.string s) ∧ w.cell? ⟨p, 1, none⟩ = some (.int .i64 a) ∧ w.cell? ⟨p, 2, none⟩ = some (.bool x.bad) ∧
    w.frozen? ⟨p, 1, none⟩ = false ∧ w.frozen? ⟨p, 2, none⟩ = false ∧ p < w.heap.size := by
  have hl := h.lt
  obtain ⟨_, h0, a, h1, h2, hc⟩ := h
  exact ⟨a, h0, h1, h2, cell_of hc 0, cell_of hc 1, cell_of hc 2, frozen_of hc 1, frozen_of hc 2, hl⟩
end
def Step (p : Nat) (s : ByteArray) (x' : St) (nm : ByteArray) (ve va : Value) (v : Value) (w : World) (e : Ending) (w' : World) : Prop := e = .returned v ∧ IsR w' p s x' nm ve va ∧ Tn p w w'
abbrev unitV : Value := .tuple #[]
theorem hp_same (s m : ByteArray) (b : Bool) (w : World) (h : Lib.hasPrefix s.data.toList m.data.toList = b) : Calls Tryd.prog 34 #[.string s, .string m] w fun e w' => e = .returned (.bool b) ∧ w' = w := by
  subst h; exact Tryd.strings_HasPrefix s m w
/-! ### has -/
set_option maxRecDepth 100000 in
theorem has_any (p : Nat) (s : ByteArray) (x : St) (nm : ByteArray) (ve va : Value) (m : ByteArray) (w : World) (h : IsR w p s x nm ve va) :
    Calls Tryd.prog 40 #[.pointer (some ⟨p, 0, none⟩), .string m] w (Step p s (hasX m.data.toList x) nm ve va (.bool (has m.data.toList x)) w) := by
  obtain ⟨a, hs, ha, hr, c0, c1, c2, f1, f2, hp⟩ := h.open_
  have HI := Lib.hid h
  clear h
  cases hb : x.bad with
  | true =>
    have e1 : has m.data.toList x = false := by simp [has, hb]
    have e2 : hasX m.data.toList x = x := by simp [hasX, e1]
    rw [e1, e2]
    rw [hb] at c2
    clear hb e1 e2
    go_enter Tryd.func40, Tryd.ntmps40
    go_wp2_with fail
    go_quiet (fail)
    go_wp2_with fail
    go_ret
    exact ⟨rfl, HI.out.drewN _, Tn.refl.drewN _⟩
  | false =>
    rw [hb] at c2
    have HP := fun W => hp_same (s.extract a s.size) m (has m.data.toList x) W (by rw [has, hb, hr, ext_list]; simp [Lib.hasPrefix])
    cases hx : has m.data.toList x with
    | false =>
      have e2 : hasX m.data.toList x = x := by simp [hasX, hx]
      rw [e2]
      rw [hx] at HP
      clear hb hx e2 hr
      go_enter Tryd.func40, Tryd.ntmps40
      go_wp2_with fail
      go_quiet ((go_at_call 34; refine Calls.quiet_of_same (HP _)))
      go_wp2_with fail
      go_ret
      exact ⟨rfl, HI.out.drewN _, Tn.refl.drewN _⟩
    | true =>
      have e2 : hasX m.data.toList x = ⟨x.r.drop m.data.toList.length, x.bad⟩ := by simp [hasX, hx]
      have hle : a + m.size ≤ s.size := by
        have : m.data.toList <+: x.r := by simp [has] at hx; exact hx.2
        have := this.length_le
        rw [hr, List.length_drop] at this
        simp at this
        omega
      rw [e2]
      rw [hx] at HP
      have HD : Hid (x.r.drop m.data.toList.length = s.data.toList.drop (a + m.size)) := by
        show _ = _
        rw [hr, List.drop_drop]; simp
      clear hb hx e2 hr
      go_enter Tryd.func40, Tryd.ntmps40
      go_wp2_with fail
      go_quiet ((go_at_call 34; refine Calls.quiet_of_same (HP _)))
      go_wp2_with fail
      go_ret
      exact ⟨rfl, (HI.out.drewN _).setAt (a + m.size) hle _ HD.out, (Tn.refl.drewN _).set _ _⟩
/-! ### must -/
set_option maxRecDepth 100000 in
theorem must_any (p : Nat) (s : ByteArray) (x : St) (nm : ByteArray) (ve va : Value) (m : ByteArray) (w : World) (h : IsR w p s x nm ve va) :
    Calls Tryd.prog 42 #[.pointer (some ⟨p, 0, none⟩), .string m] w (Step p s (mustX m.data.toList x) nm ve va unitV w) := by
  have H := has_any p s x nm ve va m w h
  clear h
  cases hx : has m.data.toList x with
  | true =>
    have e2 : mustX m.data.toList x = hasX m.data.toList x := by simp [mustX, hasX, hx]
    rw [e2]
    rw [hx] at H
    clear hx e2
    go_enter Tryd.func42, Tryd.ntmps42
    go_wp2_with fail
    refine H.mono ?_
    clear H
    rintro e w1 ⟨rfl, hI, hT⟩
    go_wp2_with fail
    go_end0
    exact ⟨rfl, hI, hT⟩
  | false =>
    have e1 : hasX m.data.toList x = x := by simp [hasX, hx]
    have e2 : mustX m.data.toList x = ⟨x.r, true⟩ := by simp [mustX, hx]
    rw [e2]
    rw [hx, e1] at H
    clear hx e2 e1
    go_enter Tryd.func42, Tryd.ntmps42
    go_wp2_with fail
    refine H.mono ?_
    clear H
    rintro e w1 ⟨rfl, hI, hT⟩
    obtain ⟨a, hs, ha, hr, c0, c1, c2, f1, f2, hp⟩ := hI.open_
    have HI := Lib.hid hI
    clear hI hr
    go_wp2_with fail
    go_end0
    exact ⟨rfl, HI.out.setBad true, hT.set _ _⟩
/-! ### space -/
theorem space_len {x : St} : spaceLen x.r ≤ x.r.length := spaceLen_le _
set_option maxRecDepth 100000 in
theorem space_any (p : Nat) (s : ByteArray) (x : St) (nm : ByteArray) (ve va : Value) (w : World) (h : IsR w p s x nm ve va) :
    Calls Tryd.prog 38 #[.pointer (some ⟨p, 0, none⟩)] w (Step p s (spaceX x) nm ve va (.bool (space x)) w) := by
  obtain ⟨a, hs, ha, hr, c0, c1, c2, f1, f2, hp⟩ := h.open_
  have HI := Lib.hid h
  clear h
  cases hb : x.bad with
  | true =>
    have e1 : space x = false := by simp [space, hb]
    have e2 : spaceX x = x := by simp [spaceX, hb]
    rw [e1, e2]
    rw [hb] at c2
    clear hb e1 e2 hr
    go_enter Tryd.func38, Tryd.ntmps38
    go_wp2_with fail
    go_ret
    exact ⟨by simp, HI.out, Tn.refl⟩
  | false =>
    rw [hb] at c2
    have e1 : space x = decide (0 < spaceLen (s.data.toList.drop a)) := by simp [space, hb, hr]
    have e2 : spaceX x = ⟨s.data.toList.drop (a + spaceLen (s.data.toList.drop a)), x.bad⟩ := by simp [spaceX, hb, hr, List.drop_drop]
    rw [e1, e2]
    have hn : a + spaceLen (s.data.toList.drop a) ≤ s.size := by have := spaceLen_le (s.data.toList.drop a); simp at this; omega
    have HP := fun W => spaces_any s a W hs ha
    generalize spaceLen (s.data.toList.drop a) = n at hn HP
    clear hb hr e1 e2
    go_enter Tryd.func38, Tryd.ntmps38
    go_wp2_with fail
    go_region_with ((go_at_call 71; refine (HP _).mono ?_; rintro e w1 ⟨rfl, hb1⟩; have d1 := (hb1.cell (p := ⟨p, 1, none⟩) hp).trans c1; have g1 := (hb1.frozen (p := ⟨p, 1, none⟩) hp).trans f1))
    all_goals
      go_wp2_with fail
      go_ret
      exact ⟨by rw [show decide ((a : Int) + (n : Int) > (a : Int)) = decide (0 < n) by rw [decide_eq_decide]; omega]; rfl, (HI.out.below (w' := w1) ⟨hb1.os, hb1.tape, hb1.output, hb1.size, hb1.block⟩).setAt (a + n) hn _ rfl, (Tn.of_below (w := w) (w' := w1) ⟨hb1.os, hb1.tape, hb1.output, hb1.size, hb1.block⟩).set _ _⟩
end Go.Proofs.YtmjdjpelhhibgaaDoor.DA
namespace Go.Proofs.YtmjdjpelhhibgaaDoor.DA
open Go.RowKit Go.Proofs.YtmjdjpelhhibgaaDoor.Ow Go.Proofs.YtmjdjpelhhibgaaDoor.DS Go.Proofs.YtmjdjpelhhibgaaDoor.Spec Go.Proofs.YtmjdjpelhhibgaaDoor.Giv
set_option linter.unusedVariables false
set_option linter.unusedSimpArgs false
theorem below_undrew {w w1 : World} (h : Below w.drew.heap.size w.drew w1) : Below w.heap.size w w1 := ⟨h.os, h.tape, h.output, h.size, h.block⟩
theorem below_undrewN {w w1 : World} {n : Nat} (h : Below (w.drewN n).heap.size (w.drewN n) w1) : Below w.heap.size w w1 := ⟨h.os, h.tape, h.output, h.size, h.block⟩
theorem env_drew {w : World} (h : Env w) : Env w.drew := h.below ⟨rfl, rfl, rfl, Nat.le_refl _, fun _ _ => rfl⟩
theorem env_drewN {w : World} (h : Env w) (n : Nat) : Env (w.drewN n) := h.below ⟨rfl, rfl, rfl, Nat.le_refl _, fun _ _ => rfl⟩
/-! ### gap -/
set_option maxRecDepth 100000 in
theorem gap_any (p : Nat) (s : ByteArray) (x : St) (nm : ByteArray) (ve va : Value) (w : World) (h : IsR w p s x nm ve va) :
    Calls Tryd.prog 35 #[.pointer (some ⟨p, 0, none⟩)] w (Step p s (gapX x) nm ve va unitV w) := by
  have H := space_any p s x nm ve va w h
  clear h
  cases hx : space x with
  | true =>
    have e2 : gapX x = spaceX x := by simp [gapX, hx]
    rw [e2]
    rw [hx] at H
    clear hx e2
    go_enter Tryd.func35, Tryd.ntmps35
    go_wp2_with fail
    refine H.mono ?_
    clear H
    rintro e w1 ⟨rfl, hI, hT⟩
    go_wp2_with fail
    go_end0
    exact ⟨rfl, hI, hT⟩
  | false =>
    have e2 : gapX x = ⟨(spaceX x).r, true⟩ := by simp [gapX, hx]
    rw [e2]
    rw [hx] at H
    clear hx e2
    go_enter Tryd.func35, Tryd.ntmps35
    go_wp2_with fail
    refine H.mono ?_
    clear H
    rintro e w1 ⟨rfl, hI, hT⟩
    obtain ⟨a, hs, ha, hr, c0, c1, c2, f1, f2, hp⟩ := hI.open_
    have HI := Lib.hid hI
    clear hI hr
    go_wp2_with fail
    go_end0
    exact ⟨rfl, HI.out.setBad true, hT.set _ _⟩
/-! ### what a word must be -/
/-- A function of a text that is handed: what it tells. -/
def Tells (F : Nat) (good : List UInt8 → Bool) : Prop := ∀ (t : ByteArray) (W : World), Env W → t.size < 4294967281 → Calls Tryd.prog F #[.string t] W fun e w' => e = .returned (.bool (good t.data.toList)) ∧ Below W.heap.size W w'
theorem part_tells : Tells 112 partL := by
  intro t W hE ht
  have e : partL t.data.toList = !t.toList.isEmpty := by
    unfold partL
    rw [ByteArray.toList_eq]
  rw [e]
  go_enter Tryd.func112, Tryd.ntmps112
  go_wp2_with fail
  go_ret
  exact ⟨rfl, Below.refl _ _⟩
/-! ### word -/
theorem bs_data (l : List UInt8) : (bs l).data.toList = l := rfl
theorem bs_drop (s : ByteArray) (a : Nat) : bs (s.data.toList.drop a) = s.extract a s.size := by
  apply ByteArray.ext
  apply Array.toList_inj.mp
  rw [ext_list]
  rfl
theorem bs_take (s : ByteArray) (a n : Nat) : bs ((s.data.toList.drop a).take n) = s.extract a (a + n) := by
  apply ByteArray.ext
  apply Array.toList_inj.mp
  simp [bs]
theorem wl_le (r : List UInt8) : wl r ≤ r.length := by
  have := wordFrom_le (bs r) (bs r).size 0 (Nat.zero_le _)
  have e : (bs r).size = r.length := List.size_toArray
  unfold wl wordLen
  omega
set_option maxRecDepth 100000 in
set_option maxHeartbeats 1000000 in
theorem word_part (p : Nat) (s : ByteArray) (x : St) (nm : ByteArray) (ve va : Value) (w : World) (h : IsR w p s x nm ve va) (good : List UInt8 → Bool) (hF : Tells 112 good) :
    Calls Tryd.prog 36 #[.pointer (some ⟨p, 0, none⟩), .func (.func 112) #[] #[]] w (Step p s (wordX good x) nm ve va (.string (bs (word x))) w) := by
  obtain ⟨a, hs, ha, hr, c0, c1, c2, f1, f2, hp⟩ := h.open_
  have HI := Lib.hid h
  have hE := h.env
  clear h
  cases hb : x.bad with
  | true =>
    have e1 : bs (word x) = ByteArray.empty := by rw [word, hb, if_pos rfl]; rfl
    have e2 : wordX good x = ⟨x.r, true⟩ := by simp [wordX, hb]
    rw [e1, e2]
    rw [hb] at c2
    have hz : (0 : Int) ≤ (a : Int) := by omega
    have hz2 : (a : Int) ≤ (s.size : Int) := by omega
    have hz3 : (a : Int) ≤ (a : Int) := by omega
    have ht : ((a : Int)).toNat = a := by omega
    clear hb e1 e2 hr
    go_enter Tryd.func36, Tryd.ntmps36
    go_wp2_with fail
    go_quiet (fail)
    go_wp2_with fail
    go_ret
    exact ⟨rfl, (HI.out.drewN _).setBad true, (Tn.refl.drewN _).set _ _⟩
  | false =>
    rw [hb] at c2
    have ew : wl x.r = wordLen (s.extract a s.size) := by rw [hr, wl, bs_drop]
    have hn : a + wl x.r ≤ s.size := by have := wl_le x.r; rw [hr] at this ⊢; simp at this; omega
    have e1 : bs (word x) = s.extract a (a + wl x.r) := by
      have : word x = (s.data.toList.drop a).take (wl x.r) := by simp [word, hb, hr]
      rw [this, bs_take]
    have e2 : wordX good x = ⟨s.data.toList.drop (a + wl x.r), !good (word x)⟩ := by
      simp only [wordX, hb, Bool.false_or, Bool.false_eq_true, if_false]
      rw [St.mk.injEq]
      refine ⟨?_, rfl⟩
      rw [← List.drop_drop, ← hr]
    rw [e1, e2]
    have HP := fun W hE => word_any s a W hs ha hE
    rw [← ew] at HP
    have HG := fun W hE => hF (bs (word x)) W hE (by rw [e1]; simp; omega)
    rw [bs_data] at HG
    rw [e1] at HG
    generalize good (word x) = g at HG
    generalize wl x.r = n at hn HP HG
    have hz : (0 : Int) ≤ (a : Int) := by omega
    have hz1 : (0 : Int) ≤ (a : Int) + (n : Int) := by omega
    have hz2 : (a : Int) + (n : Int) ≤ (s.size : Int) := by omega
    have hz3 : (a : Int) ≤ (a : Int) + (n : Int) := by omega
    have ht : ((a : Int)).toNat = a := by omega
    have ht2 : ((a : Int) + (n : Int)).toNat = a + n := by omega
    have HB := Lib.hid hb
    clear hb hr e1 e2 ew hF
    have hcast : ((a + n : Nat) : Int) = (a : Int) + (n : Int) := by omega
    have HC := Lib.hid hcast
    clear hcast
    go_enter Tryd.func36, Tryd.ntmps36
    go_wp2_with fail
    go_region_with ((go_at_call 69; refine (HP _ (env_drew hE)).mono ?_; rintro e w1 ⟨rfl, hb1⟩; have d1 := (hb1.cell (p := ⟨p, 1, none⟩) hp).trans c1; have g1 := (hb1.frozen (p := ⟨p, 1, none⟩) hp).trans f1))
    all_goals
      have hI0 := HI.out.below (below_undrew hb1)
      have hI1 := hI0.setAt (a + n) hn _ rfl
      have hT1 := (Tn.of_below (p := p) (below_undrew hb1)).set 1 (.int .i64 ((a + n : Nat) : Int))
      obtain ⟨k0, k1, k2, k3, k4⟩ := hI0.setAtC (a + n)
      rw [HB.out] at hI1 k2
      rw [HC.out] at hI1 hT1 k0 k1 k2 k3 k4
      obtain ⟨W1, hW1⟩ : ∃ W1, w1.setCell ⟨p, 1, none⟩ (.int .i64 ((a : Int) + (n : Int))) = W1 := ⟨_, rfl⟩
      rw [hW1] at hI1 hT1 k0 k1 k2 k3 k4 ⊢
      have hE1 := hI1.env
      have HI1 := Lib.hid hI1
      clear hI0 hI1 HP c0 c1 c2 f1 f2 hp hW1 d1 g1 hE HI
      go_wp2_with fail
      go_quiet (fail)
      go_wp2_with fail
      refine (HG _ (env_drewN hE1 _)).mono ?_
      clear HG
      rintro e w2 ⟨rfl, hb2⟩
      have q2 := (hb2.frozen (p := ⟨p, 2, none⟩) k4).trans k3
      have q1 := (hb2.cell (p := ⟨p, 2, none⟩) k4).trans k2
      go_wp2_with fail
      go_ret
      exact ⟨rfl, ((HI1.out.drewN _).below hb2).setBad _, ((hT1.drewN _).trans (Tn.of_below hb2)).set _ _⟩
set_option maxRecDepth 100000 in
set_option maxHeartbeats 1000000 in
theorem word_split (p : Nat) (s : ByteArray) (x : St) (nm : ByteArray) (ve va : Value) (w : World) (h : IsR w p s x nm ve va) (good : List UInt8 → Bool) (hF : Tells 37 good) :
    Calls Tryd.prog 36 #[.pointer (some ⟨p, 0, none⟩), .func (.func 37) #[] #[]] w (Step p s (wordX good x) nm ve va (.string (bs (word x))) w) := by
  obtain ⟨a, hs, ha, hr, c0, c1, c2, f1, f2, hp⟩ := h.open_
  have HI := Lib.hid h
  have hE := h.env
  clear h
  cases hb : x.bad with
  | true =>
    have e1 : bs (word x) = ByteArray.empty := by rw [word, hb, if_pos rfl]; rfl
    have e2 : wordX good x = ⟨x.r, true⟩ := by simp [wordX, hb]
    rw [e1, e2]
    rw [hb] at c2
    have hz : (0 : Int) ≤ (a : Int) := by omega
    have hz2 : (a : Int) ≤ (s.size : Int) := by omega
    have hz3 : (a : Int) ≤ (a : Int) := by omega
    have ht : ((a : Int)).toNat = a := by omega
    clear hb e1 e2 hr
    go_enter Tryd.func36, Tryd.ntmps36
    go_wp2_with fail
    go_quiet (fail)
    go_wp2_with fail
    go_ret
    exact ⟨rfl, (HI.out.drewN _).setBad true, (Tn.refl.drewN _).set _ _⟩
  | false =>
    rw [hb] at c2
    have ew : wl x.r = wordLen (s.extract a s.size) := by rw [hr, wl, bs_drop]
    have hn : a + wl x.r ≤ s.size := by have := wl_le x.r; rw [hr] at this ⊢; simp at this; omega
    have e1 : bs (word x) = s.extract a (a + wl x.r) := by
      have : word x = (s.data.toList.drop a).take (wl x.r) := by simp [word, hb, hr]
      rw [this, bs_take]
    have e2 : wordX good x = ⟨s.data.toList.drop (a + wl x.r), !good (word x)⟩ := by
      simp only [wordX, hb, Bool.false_or, Bool.false_eq_true, if_false]
      rw [St.mk.injEq]
      refine ⟨?_, rfl⟩
      rw [← List.drop_drop, ← hr]
    rw [e1, e2]
    have HP := fun W hE => word_any s a W hs ha hE
    rw [← ew] at HP
    have HG := fun W hE => hF (bs (word x)) W hE (by rw [e1]; simp; omega)
    rw [bs_data] at HG
    rw [e1] at HG
    generalize good (word x) = g at HG
    generalize wl x.r = n at hn HP HG
    have hz : (0 : Int) ≤ (a : Int) := by omega
    have hz1 : (0 : Int) ≤ (a : Int) + (n : Int) := by omega
    have hz2 : (a : Int) + (n : Int) ≤ (s.size : Int) := by omega
    have hz3 : (a : Int) ≤ (a : Int) + (n : Int) := by omega
    have ht : ((a : Int)).toNat = a := by omega
    have ht2 : ((a : Int) + (n : Int)).toNat = a + n := by omega
    have HB := Lib.hid hb
    clear hb hr e1 e2 ew hF
    have hcast : ((a + n : Nat) : Int) = (a : Int) + (n : Int) := by omega
    have HC := Lib.hid hcast
    clear hcast
    go_enter Tryd.func36, Tryd.ntmps36
    go_wp2_with fail
    go_region_with ((go_at_call 69; refine (HP _ (env_drew hE)).mono ?_; rintro e w1 ⟨rfl, hb1⟩; have d1 := (hb1.cell (p := ⟨p, 1, none⟩) hp).trans c1; have g1 := (hb1.frozen (p := ⟨p, 1, none⟩) hp).trans f1))
    all_goals
      have hI0 := HI.out.below (below_undrew hb1)
      have hI1 := hI0.setAt (a + n) hn _ rfl
      have hT1 := (Tn.of_below (p := p) (below_undrew hb1)).set 1 (.int .i64 ((a + n : Nat) : Int))
      obtain ⟨k0, k1, k2, k3, k4⟩ := hI0.setAtC (a + n)
      rw [HB.out] at hI1 k2
      rw [HC.out] at hI1 hT1 k0 k1 k2 k3 k4
      obtain ⟨W1, hW1⟩ : ∃ W1, w1.setCell ⟨p, 1, none⟩ (.int .i64 ((a : Int) + (n : Int))) = W1 := ⟨_, rfl⟩
      rw [hW1] at hI1 hT1 k0 k1 k2 k3 k4 ⊢
      have hE1 := hI1.env
      have HI1 := Lib.hid hI1
      clear hI0 hI1 HP c0 c1 c2 f1 f2 hp hW1 d1 g1 hE HI
      go_wp2_with fail
      go_quiet (fail)
      go_wp2_with fail
      refine (HG _ (env_drewN hE1 _)).mono ?_
      clear HG
      rintro e w2 ⟨rfl, hb2⟩
      have q2 := (hb2.frozen (p := ⟨p, 2, none⟩) k4).trans k3
      have q1 := (hb2.cell (p := ⟨p, 2, none⟩) k4).trans k2
      go_wp2_with fail
      go_ret
      exact ⟨rfl, ((HI1.out.drewN _).below hb2).setBad _, ((hT1.drewN _).trans (Tn.of_below hb2)).set _ _⟩
set_option maxRecDepth 100000 in
set_option maxHeartbeats 1000000 in
theorem word_nc (p : Nat) (s : ByteArray) (x : St) (nm : ByteArray) (ve va : Value) (w : World) (h : IsR w p s x nm ve va) (good : List UInt8 → Bool) (hF : Tells 48 good) :
    Calls Tryd.prog 36 #[.pointer (some ⟨p, 0, none⟩), .func (.func 48) #[] #[]] w (Step p s (wordX good x) nm ve va (.string (bs (word x))) w) := by
  obtain ⟨a, hs, ha, hr, c0, c1, c2, f1, f2, hp⟩ := h.open_
  have HI := Lib.hid h
  have hE := h.env
  clear h
  cases hb : x.bad with
  | true =>
    have e1 : bs (word x) = ByteArray.empty := by rw [word, hb, if_pos rfl]; rfl
    have e2 : wordX good x = ⟨x.r, true⟩ := by simp [wordX, hb]
    rw [e1, e2]
    rw [hb] at c2
    have hz : (0 : Int) ≤ (a : Int) := by omega
    have hz2 : (a : Int) ≤ (s.size : Int) := by omega
    have hz3 : (a : Int) ≤ (a : Int) := by omega
    have ht : ((a : Int)).toNat = a := by omega
    clear hb e1 e2 hr
    go_enter Tryd.func36, Tryd.ntmps36
    go_wp2_with fail
    go_quiet (fail)
    go_wp2_with fail
    go_ret
    exact ⟨rfl, (HI.out.drewN _).setBad true, (Tn.refl.drewN _).set _ _⟩
  | false =>
    rw [hb] at c2
    have ew : wl x.r = wordLen (s.extract a s.size) := by rw [hr, wl, bs_drop]
    have hn : a + wl x.r ≤ s.size := by have := wl_le x.r; rw [hr] at this ⊢; simp at this; omega
    have e1 : bs (word x) = s.extract a (a + wl x.r) := by
      have : word x = (s.data.toList.drop a).take (wl x.r) := by simp [word, hb, hr]
      rw [this, bs_take]
    have e2 : wordX good x = ⟨s.data.toList.drop (a + wl x.r), !good (word x)⟩ := by
      simp only [wordX, hb, Bool.false_or, Bool.false_eq_true, if_false]
      rw [St.mk.injEq]
      refine ⟨?_, rfl⟩
      rw [← List.drop_drop, ← hr]
    rw [e1, e2]
    have HP := fun W hE => word_any s a W hs ha hE
    rw [← ew] at HP
    have HG := fun W hE => hF (bs (word x)) W hE (by rw [e1]; simp; omega)
    rw [bs_data] at HG
    rw [e1] at HG
    generalize good (word x) = g at HG
    generalize wl x.r = n at hn HP HG
    have hz : (0 : Int) ≤ (a : Int) := by omega
    have hz1 : (0 : Int) ≤ (a : Int) + (n : Int) := by omega
    have hz2 : (a : Int) + (n : Int) ≤ (s.size : Int) := by omega
    have hz3 : (a : Int) ≤ (a : Int) + (n : Int) := by omega
    have ht : ((a : Int)).toNat = a := by omega
    have ht2 : ((a : Int) + (n : Int)).toNat = a + n := by omega
    have HB := Lib.hid hb
    clear hb hr e1 e2 ew hF
    have hcast : ((a + n : Nat) : Int) = (a : Int) + (n : Int) := by omega
    have HC := Lib.hid hcast
    clear hcast
    go_enter Tryd.func36, Tryd.ntmps36
    go_wp2_with fail
    go_region_with ((go_at_call 69; refine (HP _ (env_drew hE)).mono ?_; rintro e w1 ⟨rfl, hb1⟩; have d1 := (hb1.cell (p := ⟨p, 1, none⟩) hp).trans c1; have g1 := (hb1.frozen (p := ⟨p, 1, none⟩) hp).trans f1))
    all_goals
      have hI0 := HI.out.below (below_undrew hb1)
      have hI1 := hI0.setAt (a + n) hn _ rfl
      have hT1 := (Tn.of_below (p := p) (below_undrew hb1)).set 1 (.int .i64 ((a + n : Nat) : Int))
      obtain ⟨k0, k1, k2, k3, k4⟩ := hI0.setAtC (a + n)
      rw [HB.out] at hI1 k2
      rw [HC.out] at hI1 hT1 k0 k1 k2 k3 k4
      obtain ⟨W1, hW1⟩ : ∃ W1, w1.setCell ⟨p, 1, none⟩ (.int .i64 ((a : Int) + (n : Int))) = W1 := ⟨_, rfl⟩
      rw [hW1] at hI1 hT1 k0 k1 k2 k3 k4 ⊢
      have hE1 := hI1.env
      have HI1 := Lib.hid hI1
      clear hI0 hI1 HP c0 c1 c2 f1 f2 hp hW1 d1 g1 hE HI
      go_wp2_with fail
      go_quiet (fail)
      go_wp2_with fail
      refine (HG _ (env_drewN hE1 _)).mono ?_
      clear HG
      rintro e w2 ⟨rfl, hb2⟩
      have q2 := (hb2.frozen (p := ⟨p, 2, none⟩) k4).trans k3
      have q1 := (hb2.cell (p := ⟨p, 2, none⟩) k4).trans k2
      go_wp2_with fail
      go_ret
      exact ⟨rfl, ((HI1.out.drewN _).below hb2).setBad _, ((hT1.drewN _).trans (Tn.of_below hb2)).set _ _⟩
end Go.Proofs.YtmjdjpelhhibgaaDoor.DA
