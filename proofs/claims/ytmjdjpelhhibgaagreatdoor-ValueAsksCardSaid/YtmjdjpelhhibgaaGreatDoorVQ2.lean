/- The document's own references: its state; what opens and closes. -/
import Derived.Test.YtmjdjpelhhibgaaGreatDoorVQ1
import Derived.Test.YtmjdjpelhhibgaaGreatDoorVAskP
import Derived.Deep.RegionLaw
import Derived.Deep.AppendLies
import Derived.Laws.AppendOwnNone
namespace Go.Proofs.YtmjdjpelhhibgaaGreatDoor.Val
open Go Go.RowKit Go.Proofs.YtmjdjpelhhibgaaGreatDoor.Rf Go.Proofs.YtmjdjpelhhibgaaGreatDoor.Spec Go.Proofs.YtmjdjpelhhibgaaGreatDoor.Giv
set_option linter.unusedVariables false
set_option linter.unusedSimpArgs false
/-! ### The document's own references: its state; what opens and closes -/
abbrev TQ : TypeId := 44
/-- Block q is the document's references: entities in a row at A; open names in v; what was spent. -/
structure MS (w : World) (q : Nat) (d : ByteArray) (A : Option Addr) (n cap : Nat) (av v : Value) (E : List Ent) (op : List ByteArray) (sp : Int) : Prop where
  cells : w.heap[q]? = some (.cells #[.string d, .slice A n cap, av, .int .i64 sp, v] TQ (0, 0))
  row : RowE w A E
  own : w.ownsRow 0 9 1 v op.length (op.map Value.string)
theorem rowE_below {w w' : World} {A : Option Addr} {E : List Ent} (h : RowE w A E) (hb : Below w.heap.size w w') : RowE w' A E := by
  intro i hi
  obtain ⟨b, o, h1, h2, h3, h4, h5⟩ := h i hi
  exact ⟨b, o, h1, Nat.lt_of_lt_of_le h2 hb.size, (hb.cell (p := ⟨b, _, none⟩) h2).trans h3, (hb.cell (p := ⟨b, _, none⟩) h2).trans h4, (hb.cell (p := ⟨b, _, none⟩) h2).trans h5⟩
theorem MS.below {w w' : World} {q : Nat} {d : ByteArray} {A : Option Addr} {n cap : Nat} {av v : Value} {E : List Ent} {op : List ByteArray} {sp : Int} (h : MS w q d A n cap av v E op sp) (hb : Below w.heap.size w w') : MS w' q d A n cap av v E op sp := by
  refine ⟨(hb.block q (Array.getElem?_eq_some_iff.1 h.cells).1).trans h.cells, rowE_below h.row hb, h.own.kept (row := none) ⟨hb.os, hb.tape, hb.output, hb.size, fun k hk _ => hb.block k hk⟩ ?_⟩
  cases v.ownBlock <;> simp
theorem MS.lt {w : World} {q : Nat} {d : ByteArray} {A : Option Addr} {n cap : Nat} {av v : Value} {E : List Ent} {op : List ByteArray} {sp : Int} (h : MS w q d A n cap av v E op sp) : q < w.heap.size := (Array.getElem?_eq_some_iff.1 h.cells).1
theorem fnd_drop {nm : ByteArray} {E : List Ent} {k : Nat} (h : k < E.length) : fnd nm (E.drop k) = if (E.getD k ⟨⟨#[]⟩, ⟨#[]⟩, false⟩).nm = nm then some (E.getD k ⟨⟨#[]⟩, ⟨#[]⟩, false⟩) else fnd nm (E.drop (k + 1)) := by
  rw [List.drop_eq_getElem_cons h]
  unfold fnd
  rw [List.find?_cons]
  have e : E.getD k ⟨⟨#[]⟩, ⟨#[]⟩, false⟩ = E[k] := by simp [List.getD, h]
  rw [e]
  by_cases h1 : E[k].nm = nm
  · simp [h1]
  · simp [h1]
def entQ (o : Option Ent) : Value := match o with
  | none => .tuple #[.agg #[.string ⟨#[]⟩, .string ⟨#[]⟩, .bool false], .bool false]
  | some e => .tuple #[.agg #[.string e.nm, .string e.vl, .bool e.ext], .bool true]
set_option maxRecDepth 100000 in
set_option maxHeartbeats 4000000 in
theorem entityQ_any (q : Nat) (d : ByteArray) (A : Option Addr) (n cap : Nat) (av v : Value) (E : List Ent) (op : List ByteArray) (sp : Int) (nm : ByteArray) (w : World) (h : MS w q d A n cap av v E op sp) (hn : E.length = n) (hl : n ≤ 1000000000) :
    Calls Tryz.prog 69 #[.pointer (some ⟨q, 0, none⟩), .string nm] w fun e w' => e = .returned (entQ (fnd nm E)) ∧ Below w.heap.size w w' := by
  have c1 : w.cell? ⟨q, 1, none⟩ = some (.slice A n cap) := cell_of h.cells 1
  have hlt := h.lt
  have hrow := h.row
  have HN := Lib.hid hn
  obtain ⟨R, hR⟩ : ∃ R, fnd nm E = R := ⟨_, rfl⟩
  rw [hR]
  have HR := Lib.hid hR
  clear h hn hR
  go_enter Tryz.func69, Tryz.ntmps69
  go_wp2
  go_loop [6] (fun i => ∃ k : Nat, k ≤ n ∧ i = .int .i64 k ∧ Hid (fnd nm (E.drop k) = R)) (fun i => n - (intOf i).toNat)
  case atStart => exact ⟨0, by omega, rfl, by rw [List.drop_zero]; exact HR⟩
  case round =>
    obtain ⟨k, hk, rfl, HK⟩ := hrel
    by_cases hlt2 : k < n
    · have hkE : k < E.length := by rw [HN.out]; exact hlt2
      obtain ⟨e, he⟩ : ∃ e, E.getD k ⟨⟨#[]⟩, ⟨#[]⟩, false⟩ = e := ⟨_, rfl⟩
      obtain ⟨b, o, rfl, hbl, c2, c3, c4⟩ := hrow k hkE
      have hf := fnd_drop (nm := nm) hkE
      rw [HK.out] at hf
      rw [he] at c2 c3 c4 hf
      by_cases hq : e.nm = nm
      · rw [if_pos hq] at hf
        have HF := Lib.hid hf
        have hb : (e.nm.toList == nm.toList) = true := by rw [hq]; simp
        have hbz : b ≠ w.heap.size := by omega
        clear hf HK hrow he
        go_wp2
        rw [HF.out]
        refine bodyPost_ret (v := .tuple #[.agg #[.string nm, .string e.vl, .bool e.ext], .bool true]) (by simp [results, Tryz.results69, go_sem]) rfl ⟨by rw [← hq]; rfl, (Below.refl _ _).alloc (Nat.le_refl _) _⟩
      · rw [if_neg hq] at hf
        have HF := Lib.hid hf
        have hb : (e.nm.toList == nm.toList) = false := bytes_ne hq
        clear hf HK he
        go_wp2
        go_round
        case rel => exact ⟨k + 1, by omega, by go_num, HF.out.symm⟩
        case measure => simp [intOf]; omega
    · obtain rfl : k = n := by omega
      have hf : R = none := by rw [← HK.out, ← HN.out, List.drop_length]; rfl
      have HF := Lib.hid hf
      clear hf HK hrow
      go_wp2
      rw [HF.out]
      refine bodyPost_ret (v := entQ none) (by simp [results, Tryz.results69, go_sem, entQ]) rfl ⟨rfl, (Below.refl _ _).alloc (Nat.le_refl _) _⟩
/-! ### Open -/
/-- Only block q and new blocks are turned. -/
abbrev QT (q : Nat) (w w' : World) : Prop := Turned q (.slice none 0 0) (.slice none 0 0) w w'
theorem QT.of_below {q : Nat} {w w' : World} (h : Below w.heap.size w w') : QT q w w' := Turned.of_below h
theorem MS.not_own {w : World} {q : Nat} {d : ByteArray} {A : Option Addr} {n cap : Nat} {av v : Value} {E : List Ent} {op : List ByteArray} {sp : Int} (h : MS w q d A n cap av v E op sp) : v.ownBlock ≠ some q := by
  intro e
  rcases h.own.2 with ⟨rfl, _⟩ | ⟨g, cap', cur, rfl, _, hg, _⟩
  · cases e
  · have e2 : g = q := by simpa [Value.ownBlock] using e
    rw [e2, h.cells] at hg
    simp only [Option.some.injEq, Obj.cells.injEq] at hg
    exact absurd hg.2.1 (by decide)
/-- What is known of a code that is neither none nor the limit. -/
def openCase (E : List Ent) (op : List ByteArray) (sp : Int) (nm : ByteArray) (most : Int) : Nat :=
  match fnd nm E with
  | none => 6
  | some e => if memB nm op = true then 1 else if e.ext = true then 5 else if spendOk e.vl.size most sp = true then 0 else 3
theorem openC_case {E : List Ent} {op : List ByteArray} {sp : Int} {nm : ByteArray} {most : Int} (h5 : (fiveR nm).2 = false) : (openC E op sp nm most = 0 ↔ openCase E op sp nm most = 0) ∧ (openC E op sp nm most = 3 ↔ openCase E op sp nm most = 3) := by
  unfold openC openCase entR
  rw [h5, if_neg (by decide)]
  cases fnd nm E with
  | none => simp
  | some e =>
    simp only
    cases hx : e.ext <;> cases hm : memB nm op <;> cases hs : spendOk e.vl.size most sp <;> simp
/-! ### The document's own references: Open, Close -/
theorem MS.cell {w : World} {q : Nat} {d : ByteArray} {A : Option Addr} {n cap : Nat} {av v : Value} {E : List Ent} {op : List ByteArray} {sp : Int} (h : MS w q d A n cap av v E op sp) :
    w.cell? ⟨q, 3, none⟩ = some (.int .i64 sp) ∧ w.cell? ⟨q, 4, none⟩ = some v ∧ w.frozen? ⟨q, 3, none⟩ = false ∧ w.frozen? ⟨q, 4, none⟩ = false := ⟨cell_of h.cells 3, cell_of h.cells 4, frozen_of h.cells 3, frozen_of h.cells 4⟩
theorem memB_take {nm : ByteArray} {op : List ByteArray} {k : Nat} (h : k < op.length) (hm : memB nm (op.take k) = false) (hne : op.getD k ⟨#[]⟩ ≠ nm) : memB nm (op.take (k + 1)) = false := by
  rw [List.take_succ_eq_append_getElem h]
  unfold memB at hm ⊢
  rw [List.any_append, hm]
  have : op[k] ≠ nm := by simpa [List.getD, h] using hne
  simp [this]
set_option maxRecDepth 100000 in
set_option maxHeartbeats 4000000 in
theorem openQ_none (q : Nat) (d : ByteArray) (A : Option Addr) (n cap : Nat) (av v : Value) (E : List Ent) (op : List ByteArray) (sp most : Int) (nm : ByteArray) (w : World) (h : MS w q d A n cap av v E op sp) (hn : E.length = n) (hl : n ≤ 1000000000) (h5 : (fiveR nm).2 = false) (hf : fnd nm E = none) :
    Calls Tryz.prog 48 #[.pointer (some ⟨q, 0, none⟩), .string nm, .int .i64 most] w fun e w' => e = .returned (.tuple #[.string ⟨#[]⟩, .int .i64 6]) ∧ Below w.heap.size w w' := by
  have cE := entityQ_any q d A n cap av v E op sp nm w h hn hl
  rw [hf] at cE
  unfold entQ at cE
  clear h hn hf
  go_enter Tryz.func48, Tryz.ntmps48
  go_wp2_with (go_at_call 69; refine cE.mono ?_; rintro e w1 ⟨rfl, hb⟩)
  go_ret2
  exact ⟨rfl, hb.alloc hb.size _⟩
theorem below_drewN {B : Nat} {w w' : World} (h : Below B w w') (n : Nat) : Below B w (w'.drewN n) := ⟨h.os, h.tape, h.output, h.size, h.block⟩
theorem own_sh {w : World} {v : Value} {op : List ByteArray} (h : w.ownsRow 0 9 1 v op.length (op.map Value.string)) : ∃ B vc, v = .slice B op.length vc ∧ op.length ≤ vc ∧ ∀ i, i < op.length → ∃ g, B = some ⟨g, 0, none⟩ ∧ g < w.heap.size ∧ w.cell? ⟨g, i, none⟩ = some (.string (op.getD i ⟨#[]⟩)) := by
  rcases row_cells h with ⟨rfl, rfl⟩ | ⟨g, cap, rfl, h1, _, hc⟩
  · exact ⟨none, 0, rfl, Nat.le_refl _, fun i hi => by simp at hi⟩
  · exact ⟨_, cap, rfl, h1, fun i hi => ⟨g, rfl, World.block_lt_of_cell? w _ (hc i hi), hc i hi⟩⟩
theorem own_shapeB {w : World} {B T s : Nat} {v : Value} {n : Nat} {xs : List Value} (h : w.ownsRow B T s v (n + 1) xs) : ∃ g cap, v = .slice (some ⟨g, 0, none⟩) (n + 1) cap := by
  rcases h.2 with ⟨_, h⟩ | ⟨g, cap, _, h, _⟩
  · omega
  · exact ⟨g, cap, h⟩
theorem size_alloc' (W : World) (o : Obj) : (W.alloc o).heap.size = W.heap.size + 1 := by simp
theorem QT.undrewN {q n : Nat} {w w' : World} (h : QT q (w.drewN n) w') : QT q w w' := ⟨h.os, h.tape, h.output, h.size, h.block, h.own⟩
theorem MS.spent {w : World} {q : Nat} {d : ByteArray} {A : Option Addr} {n cap : Nat} {av v : Value} {E : List Ent} {op : List ByteArray} {sp : Int} (h : MS w q d A n cap av v E op sp) (hA : ∀ a, A = some a → a.block ≠ q) (x : Int) :
    MS (w.setCell ⟨q, 3, none⟩ (.int .i64 x)) q d A n cap av v E op x ∧ QT q w (w.setCell ⟨q, 3, none⟩ (.int .i64 x)) := by
  have hb : ∀ k, k ≠ q → (w.setCell ⟨q, 3, none⟩ (.int .i64 x)).heap[k]? = w.heap[k]? := fun k hk => Below.heap_setCell _ _ _ _ hk
  have hno := h.not_own
  refine ⟨⟨?_, ?_, ?_⟩, ⟨rfl, rfl, rfl, by simp [World.setCell], fun k hk h1 h2 => hb k h1, fun k hk => .inl hk⟩⟩
  · simp only [World.setCell, Array.getElem?_modify, h.cells]
    simp
  · intro i hi
    obtain ⟨b, o, h1, h2, h3, h4, h5⟩ := h.row i hi
    have hbq : b ≠ q := hA _ h1
    exact ⟨b, o, h1, by simpa [World.setCell] using h2, (World.cell?_setCell_far w _ _ _ (fun e => hbq e.symm)).trans h3, (World.cell?_setCell_far w _ _ _ (fun e => hbq e.symm)).trans h4, (World.cell?_setCell_far w _ _ _ (fun e => hbq e.symm)).trans h5⟩
  · refine ⟨h.own.1, ?_⟩
    rcases h.own.2 with h1 | ⟨g, cap', cur, h1, h2, hg, h3⟩
    · exact .inl h1
    · refine .inr ⟨g, cap', cur, h1, h2, ?_, h3⟩
      rw [hb g (by intro e; apply hno; rw [h1, e]; rfl)]
      exact hg
/-- The names, written anew. -/
theorem MS.named {w w4 : World} {q b : Nat} {d : ByteArray} {A : Option Addr} {n cap : Nat} {av v v3 : Value} {E : List Ent} {op op' : List ByteArray} {sp : Int} (h : MS w q d A n cap av v E op sp) (hA : ∀ a, A = some a → a.block ≠ q) (hb : Below w.heap.size w w4) (ho : w4.ownsRow b 9 1 v3 op'.length (op'.map Value.string)) (hbz : w.heap.size ≤ b ∨ v3.ownBlock = v.ownBlock) :
    w4.cell? ⟨q, 4, none⟩ = some v ∧ w4.frozen? ⟨q, 4, none⟩ = false ∧ q < w4.heap.size ∧ MS (w4.setCell ⟨q, 4, none⟩ v3) q d A n cap av v3 E op' sp ∧ QT q w (w4.setCell ⟨q, 4, none⟩ v3) := by
  have hlt := h.lt
  have hno := h.not_own
  have hq := (hb.block q hlt).trans h.cells
  have hk : ∀ k, k ≠ q → (w4.setCell ⟨q, 4, none⟩ v3).heap[k]? = w4.heap[k]? := fun k hk => Below.heap_setCell _ _ _ _ hk
  have hne : v3.ownBlock ≠ some q := by
    intro e
    rcases hbz with h1 | h1
    · have := (ho.lt _ e).1; omega
    · exact hno (h1.symm.trans e)
  refine ⟨cell_of hq 4, frozen_of hq 4, Nat.lt_of_lt_of_le hlt hb.size, ⟨?_, ?_, ?_⟩, ⟨hb.os, hb.tape, hb.output, by simpa [World.setCell] using hb.size, fun k h1 h2 h3 => (hk k h2).trans (hb.block k h1), fun k hk => .inl hk⟩⟩
  · simp only [World.setCell, Array.getElem?_modify, hq]
    simp
  · intro i hi
    obtain ⟨b, o, h1, h2, h3, h4, h5⟩ := (rowE_below h.row hb) i hi
    have hbq : b ≠ q := hA _ h1
    exact ⟨b, o, h1, by simpa [World.setCell] using h2, (World.cell?_setCell_far w4 _ _ _ (fun e => hbq e.symm)).trans h3, (World.cell?_setCell_far w4 _ _ _ (fun e => hbq e.symm)).trans h4, (World.cell?_setCell_far w4 _ _ _ (fun e => hbq e.symm)).trans h5⟩
  · refine ⟨ho.1, ?_⟩
    rcases ho.2 with h1 | ⟨g, cap', cur, h1, h2, hg, h3⟩
    · exact .inl h1
    · refine .inr ⟨g, cap', cur, h1, Nat.zero_le _, ?_, h3⟩
      rw [hk g (by intro e; apply hne; rw [h1, e]; rfl)]
      exact hg
theorem open_kept {W0 w3 w4 : World} {b : Nat} {o o1 : Obj} {v2 : Value} {n2 : Nat} {xs2 : List Value} (hz : W0.heap.size = b) (hg : (W0.alloc o).grownBy w3 (some b)) (h2 : w3.ownsRow b 9 1 v2 n2 xs2) (hg2 : (w3.alloc o1).grownBy w4 v2.ownBlock) : Below W0.heap.size W0 w4 ∧ b < w4.heap.size := by
  have s1 := hg.size
  have s2 := hg2.size
  simp at s1 s2
  refine ⟨⟨hg2.os.trans hg.os, hg2.tape.trans hg.tape, hg2.output.trans hg.output, by omega, fun k hk => ?_⟩, by omega⟩
  rw [hg2.block k (by simp; omega) (fun e => by have := (h2.lt _ e.symm).1; omega), heap_alloc_old _ _ (by omega), hg.block k (by simp; omega) (fun e => by cases e; omega), heap_alloc_old _ _ hk]
theorem empty_at {W : World} {b B : Nat} (h : W.heap[b]? = some (.cells #[] 9 (0, 0))) (hB : B ≤ b) : W.ownsRow B 9 1 (.slice (some ⟨b, 0, none⟩) 0 0) 0 [] :=
  ⟨rfl, .inr ⟨b, 0, _, rfl, hB, h, Nat.le_refl 0, by decide, rfl, rfl⟩⟩
set_option maxRecDepth 100000 in
set_option maxHeartbeats 4000000 in
theorem openQ_some (q : Nat) (d : ByteArray) (A : Option Addr) (n cap : Nat) (av v : Value) (E : List Ent) (op : List ByteArray) (sp most : Int) (nm : ByteArray) (w : World) (h : MS w q d A n cap av v E op sp) (hn : E.length = n) (hl : n ≤ 1000000000) (h5 : (fiveR nm).2 = false) (e : Ent) (hf : fnd nm E = some e)
    (hop : op.length ≤ 1000000000) (h0 : 0 ≤ sp) (h1 : sp ≤ 1000000000000) (hm0 : -9223372036854775808 ≤ most) (hm1 : most ≤ 9223372036854775807) (hsz : e.vl.size ≤ 1000000000) (hA : ∀ a, A = some a → a.block ≠ q) (c : Nat) (hc : openCase E op sp nm most = c) :
    Calls Tryz.prog 48 #[.pointer (some ⟨q, 0, none⟩), .string nm, .int .i64 most] w fun r w' => (c ≠ 0 ∧ r = .returned (.tuple #[.string ⟨#[]⟩, .int .i64 (c : Nat)]) ∧ Below w.heap.size w w') ∨
      (c = 0 ∧ r = .returned (.tuple #[.string e.vl, .int .i64 0]) ∧ QT q w w' ∧ ∃ v', MS w' q d A n cap av v' E (op ++ [nm]) (sp + e.vl.size)) := by
  have cE := entityQ_any q d A n cap av v E op sp nm w h hn hl
  have c5 := fun W => fiveQ_any nm W
  rw [five_empty nm h5] at c5
  rw [hf] at cE
  unfold openCase at hc
  rw [hf] at hc
  simp only at hc
  unfold entQ at cE
  obtain ⟨en, ev, ex⟩ := e
  simp only at cE hc hsz ⊢
  obtain ⟨i0, hi, hz0, hz1, hz2⟩ := info_parts infoS
  have HM := Lib.hid h
  have hqlt := h.lt
  obtain ⟨B, vc, rfl, hvc, hcells⟩ := own_sh h.own
  obtain ⟨m, hm⟩ : ∃ m, op.length = m := ⟨_, rfl⟩
  rw [hm] at hop hvc
  have HL := Lib.hid hm
  rw [hm] at HM
  have HC := Lib.hid hc
  clear hf hn h5 h hc
  go_enter Tryz.func48, Tryz.ntmps48
  go_wp2_with (first | (go_at_call 69; refine cE.mono ?_; rintro e w1 ⟨rfl, hb⟩; have hms := HM.out.below hb; obtain ⟨d3, d4, g3, g4⟩ := hms.cell; have hq1 := hms.lt; have HM1 := Lib.hid hms; clear hms) | (go_at_call 47; refine (c5 _).mono ?_; rintro e w2 ⟨rfl, rfl⟩))
  rw [HL.out] at hcells
  go_loop [10] (fun i => ∃ k : Nat, k ≤ m ∧ i = .int .i64 k ∧ Hid (memB nm (op.take k) = false)) (fun i => m - (intOf i).toNat)
  case atStart => exact ⟨0, by omega, rfl, (rfl : memB nm [] = false)⟩
  case round =>
    obtain ⟨k, hk, rfl, HK⟩ := hrel
    by_cases hlt : k < m
    · have hkl : k < op.length := by rw [HL.out]; exact hlt
      obtain ⟨g, rfl, hgl, hgc⟩ := hcells k hlt
      have hgc1 := (hb.cell (p := ⟨g, k, none⟩) hgl).trans hgc
      have hgl1 : g < w1.heap.size := Nat.lt_of_lt_of_le hgl hb.size
      obtain ⟨x, hx⟩ : ∃ x, op.getD k ⟨#[]⟩ = x := ⟨_, rfl⟩
      rw [hx] at hgc1 hgc
      clear hcells
      by_cases hq : x = nm
      · have hbq : (x.toList == nm.toList) = true := by rw [hq]; simp
        have hc1 : c = 1 := by
          have hmm : memB nm op = true := by rw [memB_iff, ← hq, ← hx]; simp only [List.getD, List.getElem?_eq_getElem hkl]; exact List.getElem_mem hkl
          rw [← HC.out, if_pos hmm]
        have HC1 := Lib.hid hc1
        clear hx HK hgc hc1
        go_wp2
        go_ret2
        exact .inl ⟨by rw [HC1.out]; decide, by rw [HC1.out]; rfl, hb.alloc hb.size _⟩
      · have hbq : (x.toList == nm.toList) = false := bytes_ne hq
        have HN2 : Hid (memB nm (op.take (k + 1)) = false) := memB_take hkl HK.out (by rw [hx]; exact hq)
        clear hx HK hgc
        go_wp2
        go_round
        case rel => exact ⟨k + 1, by omega, by go_num, HN2⟩
        case measure => simp [intOf]; omega
    · obtain rfl : k = m := by omega
      have hmf : memB nm op = false := by have := HK.out; rwa [← HL.out, List.take_length] at this
      have hc := HC.out
      rw [hmf, if_neg (by decide)] at hc
      clear HK hcells
      cases ex with
      | true =>
        rw [if_pos rfl] at hc
        have HC1 := Lib.hid hc
        clear hc hmf
        go_wp2
        go_ret2
        exact .inl ⟨by rw [← HC1.out]; decide, by rw [← HC1.out]; rfl, hb.alloc hb.size _⟩
      | false =>
        rw [if_neg (by decide)] at hc
        by_cases hle : sp + (ev.size : Int) ≤ most
        · have hsp : spendOk ev.size most sp = true := by unfold spendOk; simp; omega
          rw [hsp, if_pos rfl] at hc
          have HC1 := Lib.hid hc
          have hw : IntKind.i64.wrap (sp + (ev.size : Int)) = sp + (ev.size : Int) := IntWalk.i64_in _ (by omega)
          have hgt : ¬ (most < sp + (ev.size : Int)) := by omega
          clear hc hmf hsp
          go_wp2
          go_quiet (fail)
          go_wp2
          go_region
          have hSP := fun nq => (MS.spent (w := (w1.alloc (.cells #[.string en, .string ev, .bool false] 26)).drewN nq) ((HM1.out.below ((Below.refl _ _).alloc (Nat.le_refl _) _)).below (below_drewN (Below.refl _ _) nq)) hA (sp + (ev.size : Int)))
          obtain ⟨W0, hW0⟩ : ∃ W0, W0 = ((w1.alloc (.cells #[.string en, .string ev, .bool false] 26)).drewN (nq + 1)).setCell ⟨q, 3, none⟩ (.int .i64 (sp + (ev.size : Int))) := ⟨_, rfl⟩
          have hMS0 := (hSP (nq + 1)).1
          have hQT0 := (hSP (nq + 1)).2
          rw [← hW0] at hMS0 hQT0 ⊢
          have hz : w1.heap.size < W0.heap.size := by rw [hW0]; simp [World.setCell, World.drewN]
          clear hSP
          obtain ⟨e3, e4, k3, k4⟩ := hMS0.cell
          have hq0 := hMS0.lt
          have hbox : W0.heap[w1.heap.size]? = some (.cells #[.string en, .string ev, .bool false] 26 (0, 0)) := by
            rw [hW0, Below.heap_setCell _ _ _ _ (show w1.heap.size ≠ q by omega)]
            exact heap_alloc_new w1 _
          have bx1 : W0.cell? ⟨w1.heap.size, 1, none⟩ = some (.string ev) := cell_of hbox 1
          clear hW0
          have hLm := HL.out
          have hq3 : q < W0.heap.size + 1 := by omega
          rcases row_cells (v := .slice B k vc) (xs := op) (by have := hMS0.own; exact this) with ⟨hv, hx⟩ | ⟨g, vc', hv, hle2, hcm, hcl⟩
          · subst hx
            obtain rfl : k = 0 := by rw [← hLm]; rfl
            simp only [Value.slice.injEq] at hv
            obtain ⟨rfl, _, rfl⟩ := hv
            have HK4 := Lib.hid (fun w4 o1 (h : (((W0.alloc (.cells #[] 9)).alloc o1).grownBy w4 (some W0.heap.size))) => open_kept (w4 := w4) (o1 := o1) (o := .cells #[] 9) rfl ⟨rfl, rfl, rfl, Nat.le_refl _, fun _ _ _ => rfl⟩ (empty_at (heap_alloc_new W0 _) (Nat.le_refl _)) h)
            have hempty := empty_at (heap_alloc_new W0 (.cells #[] 9)) (Nat.le_refl _)
            have HNM := Lib.hid (fun w4 v3 hb ho => MS.named (w4 := w4) (v3 := v3) (b := W0.heap.size) (op' := [nm]) hMS0 hA hb ho (.inl (Nat.le_refl _)))
            have HQ0 := Lib.hid hQT0
            clear hMS0 hQT0
            go_wp2_with (at_builtin; first | (refine wpList_append_own_none rfl _ _ 39 rfl W0.heap.size 9 i0 1 Tryz.underlying39 hi (.slice (some ⟨W0.heap.size, 0, none⟩) 0 0) 0 [] rfl hempty rfl ?_; skip) | (refine wpList_append_own _ rfl _ _ 39 rfl W0.heap.size 9 i0 (.string ⟨#[]⟩) 1 16 Tryz.underlying39 hi hz0 hz1 hz2 rfl (by decide) (.slice (some ⟨W0.heap.size, 0, none⟩) 0 0) 0 [] rfl (hempty.alloc _) ⟨W0.heap.size + 1, 0, none⟩ 1 1 [.string nm] rfl rfl (by have h_ := cell_one_new (W0.alloc (.cells #[] 9)) (.string nm) 9; simpa using h_) (fun u hu => by obtain rfl := List.mem_singleton.1 hu; rfl) (by decide) (by decide) (by rw [size_alloc', size_alloc']; omega) ?_; intro v3 w4 hown4 hgrow4 _; obtain ⟨hbel, hblt⟩ := HK4.out _ _ hgrow4; obtain ⟨d4', f4', q4', hms4, hqt4⟩ := HNM.out _ v3 hbel (by simpa using hown4); obtain ⟨g3, cap3, rfl⟩ := own_shapeB hown4; have hx1 := (hbel.cell (p := ⟨w1.heap.size, 1, none⟩) hz).trans bx1; have hq4 : w1.heap.size < w4.heap.size := (by omega); have HMS4 := Lib.hid hms4; have HQT4 := Lib.hid hqt4; clear hms4 hqt4 hown4 hgrow4 hbel))
            go_ret2
            exact .inr ⟨HC1.out.symm, rfl, ((QT.of_below (hb.alloc hb.size _)).trans (QT.undrewN HQ0.out)).trans HQT4.out, _, HMS4.out⟩
          · simp only [Value.slice.injEq] at hv
            obtain ⟨hv1, hv2, hv3⟩ := hv
            subst hv1
            subst hv3
            clear hv2
            have hempty := empty_at (heap_alloc_new W0 (.cells #[] 9)) (Nat.le_refl _)
            have hnews := fun j u hj => (hMS0.own.alloc (.cells #[] 9)).cells rfl j u hj
            have HNM := Lib.hid (fun w4 v3 hb ho => MS.named (w4 := w4) (v3 := v3) (b := W0.heap.size) (op' := op ++ [nm]) hMS0 hA hb ho (.inl (Nat.le_refl _)))
            have HQ0 := Lib.hid hQT0
            have hlen : (op.map Value.string).length = k * 1 := by rw [List.length_map, hLm]; omega
            have hone : ∀ u ∈ op.map Value.string, u.oneCell' = true := by
              intro u hu
              obtain ⟨s, _, rfl⟩ := List.mem_map.1 hu
              rfl
            have hlen2 : (op ++ [nm]).length = k + 1 := by rw [List.length_append, hLm]; rfl
            have hmap2 : (op ++ [nm]).map Value.string = op.map Value.string ++ [.string nm] := by rw [List.map_append]; rfl
            have HL2 := Lib.hid hlen2
            have HP2 := Lib.hid hmap2
            clear hMS0 hQT0 hcl hlen2 hmap2
            go_wp2_with (at_builtin; first | (refine wpList_append_own _ rfl _ _ 39 rfl W0.heap.size 9 i0 (.string ⟨#[]⟩) 1 16 Tryz.underlying39 hi hz0 hz1 hz2 rfl (by decide) (.slice (some ⟨W0.heap.size, 0, none⟩) 0 0) 0 [] rfl hempty ⟨g, 0, none⟩ k vc (op.map Value.string) rfl hlen hnews hone (by unfold maxLen; omega) (by omega) (by simp) ?_; intro v2 w3 hown2 hgrow2 _; have HO2 := Lib.hid hown2; have HG2 := Lib.hid hgrow2; have hs3 := hgrow2.size; rw [size_alloc'] at hs3; clear hown2 hgrow2) | (refine wpList_append_own _ rfl _ _ 39 rfl W0.heap.size 9 i0 (.string ⟨#[]⟩) 1 16 Tryz.underlying39 hi hz0 hz1 hz2 rfl (by decide) v2 (0 + k) ([] ++ op.map Value.string) rfl (HO2.out.alloc _) ⟨w3.heap.size, 0, none⟩ 1 1 [.string nm] rfl rfl (cell_one_new _ _ _) (fun u hu => by obtain rfl := List.mem_singleton.1 hu; rfl) (by unfold maxLen; omega) (by omega) (by rw [size_alloc']; omega) ?_; intro v3 w4 hown4 hgrow4 _; rw [Nat.zero_add] at hown4; obtain ⟨hbel, hblt⟩ := open_kept rfl HG2.out HO2.out hgrow4; obtain ⟨d4', f4', q4', hms4, hqt4⟩ := HNM.out _ v3 hbel (by rw [HL2.out, HP2.out]; simpa using hown4); obtain ⟨g3, cap3, rfl⟩ := own_shapeB hown4; have hx1 := (hbel.cell (p := ⟨w1.heap.size, 1, none⟩) hz).trans bx1; have hq4 : w1.heap.size < w4.heap.size := (by omega); have HMS4 := Lib.hid hms4; have HQT4 := Lib.hid hqt4; clear hms4 hqt4 hown4 hgrow4 hbel))
            go_ret2
            exact .inr ⟨HC1.out.symm, rfl, ((QT.of_below (hb.alloc hb.size _)).trans (QT.undrewN HQ0.out)).trans HQT4.out, _, HMS4.out⟩
        · have hsp : spendOk ev.size most sp = false := by unfold spendOk; simp; omega
          rw [hsp, if_neg (by decide)] at hc
          have HC1 := Lib.hid hc
          have hw : IntKind.i64.wrap (sp + (ev.size : Int)) = sp + (ev.size : Int) := IntWalk.i64_in _ (by omega)
          have hgt : most < sp + (ev.size : Int) := by omega
          clear hc hmf hsp
          go_wp2
          go_quiet (fail)
          go_wp2
          go_ret2
          exact .inl ⟨by rw [← HC1.out]; decide, by rw [← HC1.out]; rfl, below_drewN (hb.alloc hb.size _) _⟩
/-! ### Close -/
theorem popped {w : World} {g cap : Nat} {ys : List ByteArray} {z : ByteArray} (h : w.ownsRow 0 9 1 (.slice (some ⟨g, 0, none⟩) (ys.length + 1) cap) (ys ++ [z]).length ((ys ++ [z]).map Value.string)) : w.ownsRow 0 9 1 (.slice (some ⟨g, 0, none⟩) ys.length cap) ys.length (ys.map Value.string) := by
  refine ⟨by simp, ?_⟩
  rcases h.2 with ⟨h1, h2⟩ | ⟨g', cap', cur, h1, h2, hg, h3, h4, h5, h6⟩
  · simp at h2
  · simp only [Value.slice.injEq, Option.some.injEq, Addr.mk.injEq, and_true] at h1
    obtain ⟨rfl, _, rfl⟩ := h1
    refine .inr ⟨g, cap, cur, rfl, h2, hg, by simp at h3; omega, h4, h5, ?_⟩
    have := congrArg (List.take (ys.length * 1)) h6
    simp only [List.take_take] at this
    rw [show min (ys.length * 1) ((ys ++ [z]).length * 1) = ys.length * 1 by simp] at this
    rw [this]
    simp
set_option maxRecDepth 100000 in
set_option maxHeartbeats 4000000 in
theorem closeQ_any (q : Nat) (d : ByteArray) (A : Option Addr) (n cap : Nat) (av v : Value) (E : List Ent) (ys : List ByteArray) (sp : Int) (nm : ByteArray) (w : World) (h : MS w q d A n cap av v E (ys ++ [nm]) sp) (hA : ∀ a, A = some a → a.block ≠ q) (hl : ys.length ≤ 1000000000) :
    Calls Tryz.prog 49 #[.pointer (some ⟨q, 0, none⟩), .string nm] w fun e w' => e = .returned (.bool true) ∧ QT q w w' ∧ ∃ v', MS w' q d A n cap av v' E ys sp := by
  obtain ⟨e3, e4, k3, k4⟩ := h.cell
  have hq := h.lt
  rcases row_cells h.own with ⟨rfl, h2⟩ | ⟨g, vc, rfl, hle, hcm, hc⟩
  · simp at h2
  · have hcz : w.cell? ⟨g, ys.length, none⟩ = some (.string nm) := by
      have := hc ys.length (by simp)
      simpa [List.getD] using this
    have hgl := World.block_lt_of_cell? w _ hcz
    rw [len_snoc] at e4 hle h
    have HP := Lib.hid (MS.named (w4 := w) (v3 := .slice (some ⟨g, 0, none⟩) ys.length vc) (op' := ys) (b := 0) h hA (Below.refl _ _) (popped h.own) (.inr rfl))
    clear h hc
    generalize ys.length = m at hl e4 hle hcz HP
    have hb : (nm.toList == nm.toList) = true := by simp
    have hb2 : (nm.toList != nm.toList) = false := by simp
    go_enter Tryz.func49, Tryz.ntmps49
    go_wp2
    have hz : (((m : Int) + 1) == 0) = false := by rw [beq_eq_false_iff_ne]; omega
    have hw : IntKind.i64.wrap (m : Int) = m := IntWalk.i64_in _ (by omega)
    have h0 : (0 : Int) ≤ (m : Int) := by omega
    have ht : ((m : Int)).toNat = m := by omega
    have hi : (m : Int) < (m : Int) + 1 := by omega
    go_ret
    obtain ⟨_, _, _, h1, h2⟩ := HP.out
    exact ⟨rfl, h2, _, h1⟩
end Go.Proofs.YtmjdjpelhhibgaaGreatDoor.Val
