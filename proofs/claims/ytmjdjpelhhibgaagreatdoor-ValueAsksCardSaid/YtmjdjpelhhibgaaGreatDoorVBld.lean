/- The builder within a reader of values: what its writes come to, and its text. -/
import Derived.Test.YtmjdjpelhhibgaaGreatDoorVSpec
import Derived.Test.YtmjdjpelhhibgaaGreatDoorVChar
import Derived.Lib.Builder
import Derived.Lib.FrozenHead2
import Derived.Lib.OthersKept
import Derived.Laws.Externs
import Derived.Shelf.Strings.BuilderK
namespace Go.Proofs.YtmjdjpelhhibgaaGreatDoor.Val
open Go Go.RowKit Go.Proofs.YtmjdjpelhhibgaaGreatDoor.Rf Go.Proofs.YtmjdjpelhhibgaaGreatDoor.Spec Go.Proofs.YtmjdjpelhhibgaaGreatDoor.Giv
set_option linter.unusedVariables false
set_option linter.unusedSimpArgs false
abbrev TR : TypeId := 60
abbrev TB : TypeId := 58
abbrev TU : TypeId := 5
theorem infoB : (Tryz.prog.info? TB).map (·.size) = some 2 := by kernel_rfl
theorem infoU : (Tryz.prog.info? TU).map (fun i => (i.zero, i.size, i.bytes)) = some (some (.int .u8 0), 1, 1) := by kernel_rfl
theorem liesR : liesAt Tryz.prog Tryz.prog.depth TR (4 / Tryz.prog.cellsOf TR) 0 TB 1 = true := by kernel_rfl
/-- Block b is a reader that has written cs. -/
def RdAt (B b : Nat) (p rf : Value) (most : Int) (cs : List Value) (w : World) : Prop :=
  B ≤ b ∧ ∃ v, w.heap[b]? = some (.cells #[p, v, rf, .int .i64 most] TR (0, 0)) ∧ w.ownsRowF B TU 1 v cs.length cs ∧ v.ownBlock ≠ some b ∧ (cs = [] → v = .slice none 0 0)
def IsRd (B b : Nat) (rf : Value) (most : Int) (cs : List Value) (w : World) : Prop :=
  RdAt B b (.pointer none) rf most cs w ∨ RdAt B b (.pointer (some ⟨b, 0, none⟩)) rf most cs w
def RdP (B b : Nat) (rf : Value) (most : Int) (cs : List Value) (w w' : World) : Prop :=
  RdAt B b (.pointer (some ⟨b, 0, none⟩)) rf most cs w' ∧ Below B w w' ∧ Lib.OthersKept TU (some b) w w'
theorem RdAt.cell0 {B b : Nat} {p rf : Value} {most : Int} {cs : List Value} {w : World} (h : RdAt B b p rf most cs w) : w.cell? ⟨b, 0, none⟩ = some p := by
  obtain ⟨_, v, hb, _⟩ := h
  exact cell_of hb 0
theorem RdAt.cell2 {B b : Nat} {p rf : Value} {most : Int} {cs : List Value} {w : World} (h : RdAt B b p rf most cs w) : w.cell? ⟨b, 2, none⟩ = some rf := by
  obtain ⟨_, v, hb, _⟩ := h
  exact cell_of hb 2
theorem RdAt.cell3 {B b : Nat} {p rf : Value} {most : Int} {cs : List Value} {w : World} (h : RdAt B b p rf most cs w) : w.cell? ⟨b, 3, none⟩ = some (.int .i64 most) := by
  obtain ⟨_, v, hb, _⟩ := h
  exact cell_of hb 3
theorem RdAt.shape {B b : Nat} {p rf : Value} {most : Int} {cs : List Value} {w : World} (h : RdAt B b p rf most cs w) : w.shape? b = some (TR, 4) := by
  obtain ⟨_, v, hb, _⟩ := h
  simp [World.shape?, hb]
theorem RdAt.frozen0 {B b : Nat} {p rf : Value} {most : Int} {cs : List Value} {w : World} (h : RdAt B b p rf most cs w) : w.frozen? ⟨b, 0, none⟩ = false := by
  obtain ⟨_, v, hb, _⟩ := h
  exact frozen_of hb 0
theorem RdAt.lt {B b : Nat} {p rf : Value} {most : Int} {cs : List Value} {w : World} (h : RdAt B b p rf most cs w) : b < w.heap.size := by
  obtain ⟨_, v, hb, _⟩ := h
  exact (Array.getElem?_eq_some_iff.1 hb).1
theorem RdAt.used {B b : Nat} {p rf : Value} {most : Int} {cs : List Value} {w : World} (h : RdAt B b p rf most cs w) (q : Value) : RdAt B b q rf most cs (w.setCell ⟨b, 0, none⟩ q) := by
  obtain ⟨hB, v, hb, hown, hne, hz⟩ := h
  refine ⟨hB, v, ?_, ?_, hne, hz⟩
  · simp [World.setCell, Array.getElem?_modify, hb]
  · refine hown.kept (row := some b) ⟨rfl, rfl, rfl, by simp [World.setCell], fun k _ hk => Below.heap_setCell _ _ _ _ (fun e => hk (by simp [e]))⟩ ?_
    exact Or.inr hne
theorem RdAt.put {B b : Nat} {p v v' rf : Value} {most : Int} {cs' : List Value} {w : World} (hB : B ≤ b) (hb : w.heap[b]? = some (.cells #[p, v, rf, .int .i64 most] TR (0, 0))) (hown : w.ownsRowF B TU 1 v' cs'.length cs') (hn : cs' ≠ []) :
    RdAt B b p rf most cs' (w.setCell ⟨b, 1, none⟩ v') := by
  have hne := Lib.ownBlock_neF hown hb (by decide)
  refine ⟨hB, v', ?_, ?_, hne, fun h => absurd h hn⟩
  · simp [World.setCell, Array.getElem?_modify, hb]
  · exact hown.kept (row := some b) ⟨rfl, rfl, rfl, by simp [World.setCell], fun k _ hk => Below.heap_setCell _ _ _ _ (fun e => hk (by simp [e]))⟩ (Or.inr hne)
set_option maxRecDepth 100000 in
set_option maxHeartbeats 1000000 in
theorem copyCheck_any (B b : Nat) (rf : Value) (most : Int) (cs : List Value) (w : World) (h : IsRd B b rf most cs w) :
    Calls Tryz.prog 50 #[.pointer (some ⟨b, 0, none⟩)] w fun e w' => e = .returned (.tuple #[]) ∧ RdP B b rf most cs w w' := by
  obtain ⟨j, hj, hjs⟩ := Option.map_eq_some_iff.1 infoB
  rcases h with h | h
  · have h0 := h.cell0
    have hsh := h.shape
    have hfz := h.frozen0
    have H1 := Lib.hid (h.used (.pointer (some ⟨b, 0, none⟩)))
    have H2 := Lib.hid h.1
    clear h
    go_enter Tryz.func50, Tryz.ntmps50
    go_wp2_with fail
    rw [Lib.run_to_unsafe w ⟨b, 0, none⟩ Tryz.underlying55 Tryz.underlying123 hj (by rw [hjs]; decide) hsh (Nat.zero_lt_succ 3)]
    simp only [Result.andThen]
    rw [Oper.upon_value]
    go_wp2_with fail
    rw [run_callFunc_extern Tryz.func70 (by kernel_rfl) (by kernel_rfl) (by kernel_rfl) (e := Extern.AbiNoEscape.same) (by kernel_rfl)]
    rw [Lib.run_noEscape]
    simp only [Result.andThen]
    rw [Oper.upon_value]
    go_wp2_with fail
    rw [Lib.run_from_unsafe w ⟨b, 0, none⟩ Tryz.underlying123 Tryz.underlying55 hj hsh liesR]
    simp only [Result.andThen]
    rw [Oper.upon_value]
    go_wp2_with fail
    go_end0
    exact ⟨rfl, H1.out, (Below.refl B w).setCell (p := ⟨b, 0, none⟩) H2.out _, (Lib.OthersKept.refl _ _ w).setCell ⟨b, 0, none⟩ rfl _⟩
  · have h0 := h.cell0
    have H := Lib.hid h
    clear h
    go_enter Tryz.func50, Tryz.ntmps50
    go_wp2_with fail
    rw [Lib.run_neq_ptr_same w _ Tryz.underlying55 hj]
    go_wp2_with fail
    go_end0
    exact ⟨rfl, H.out, Below.refl B _, Lib.OthersKept.refl _ _ _⟩
/-! ### writes -/
set_option maxRecDepth 100000 in
set_option maxHeartbeats 2000000 in
theorem writeByte_any (B b : Nat) (rf : Value) (most : Int) (cs : List Value) (c : Int) (w : World) (h : IsRd B b rf most cs w) (hlen : cs.length + 1 ≤ 140737488355328) (hBw : B ≤ w.heap.size) :
    Calls Tryz.prog 34 #[.pointer (some ⟨b, 0, none⟩), .int .u8 c] w fun e w' => e = .returned .nilIface ∧ RdP B b rf most (cs ++ [.int .u8 c]) w w' := by
  obtain ⟨i0, hi, hz0, hz1, hz2⟩ := info_parts infoU
  have H := copyCheck_any B b rf most cs w h
  clear h
  go_enter Tryz.func34, Tryz.ntmps34
  go_wp2_with fail
  refine H.mono ?_
  clear H
  rintro e w1 ⟨rfl, h1, hb1, hk1⟩
  obtain ⟨hB, v, hbk, hown, hne, hzz⟩ := h1
  clear hzz
  have c1 : w1.cell? ⟨b, 1, none⟩ = some v := cell_of hbk 1
  go_wp2_with (at_builtin; refine wpList_append_ownF _ rfl _ _ 56 rfl B TU i0 (.int .u8 0) 1 1 Tryz.underlying56 hi hz0 hz1 hz2 rfl (by decide) _ _ _ rfl (hown.alloc _) ⟨w1.heap.size, 0, none⟩ 1 1 [.int .u8 c] rfl rfl ?c1 ?c2 ?c3 ?c4 ?c5 ?_)
  case c1 =>
    intro j u hj
    match j, hj with
    | 0, hj => simp at hj; subst hj; simp [Addr.add]
  case c2 => intro u hu; simp at hu; subst hu; rfl
  case c3 => unfold maxLen; omega
  case c4 => omega
  case c5 => have := hb1.size; simp; omega
  intro v' w2 hown' hgrow _
  have hlt : b < w1.heap.size := (Array.getElem?_eq_some_iff.1 hbk).1
  have hb2 : w2.heap[b]? = some (.cells #[.pointer (some ⟨b, 0, none⟩), v, rf, .int .i64 most] TR (0, 0)) := by
    rw [hgrow.block b (by simp; omega) (fun e => hne e.symm), heap_alloc_old w1 _ hlt]
    exact hbk
  have d1 : w2.cell? ⟨b, 1, none⟩ = some v := cell_of hb2 1
  have f1 : w2.frozen? ⟨b, 1, none⟩ = false := frozen_of hb2 1
  obtain ⟨g, cap, rfl⟩ : ∃ g cap, v' = .slice (some ⟨g, 0, none⟩) (cs.length + 1) cap := by
    rcases hown'.2 with ⟨_, h0⟩ | ⟨g, cap, cur, fz, hv, _⟩
    · omega
    · exact ⟨g, cap, hv⟩
  go_wp2_with fail
  go_ret
  refine ⟨rfl, ?_, ?_, ((hk1.alloc _).grown hgrow (Lib.ownsRowF_kind (hown.alloc _))).setCell ⟨b, 1, none⟩ rfl _⟩
  · exact RdAt.put hB hb2 (cs' := cs ++ [.int .u8 c]) (by simpa using hown') (by simp)
  · exact ((hb1.alloc (by have := hb1.size; omega) _).grown hgrow (by have := hb1.size; simp; omega) (fun k hk => (hown.lt k hk).1)).setCell (p := ⟨b, 1, none⟩) hB _
set_option maxRecDepth 100000 in
set_option maxHeartbeats 2000000 in
theorem writeString_any (B b : Nat) (rf : Value) (most : Int) (cs : List Value) (s : ByteArray) (w : World) (h : IsRd B b rf most cs w) (hlen : cs.length + s.size ≤ 140737488355328) (hs : 0 < s.size) (hBw : B ≤ w.heap.size) :
    Calls Tryz.prog 40 #[.pointer (some ⟨b, 0, none⟩), .string s] w fun e w' => e = .returned (.tuple #[.int .i64 s.size, .nilIface]) ∧ RdP B b rf most (cs ++ Lib.strCells s) w w' := by
  obtain ⟨i0, hi, hz0, hz1, hz2⟩ := info_parts infoU
  have H := copyCheck_any B b rf most cs w h
  clear h
  go_enter Tryz.func40, Tryz.ntmps40
  go_wp2_with fail
  refine H.mono ?_
  clear H
  rintro e w1 ⟨rfl, h1, hb1, hk1⟩
  obtain ⟨hB, v, hbk, hown, hne, hzz⟩ := h1
  clear hzz
  have c1 : w1.cell? ⟨b, 1, none⟩ = some v := cell_of hbk 1
  go_wp2_with (at_builtin; refine Lib.wpList_append_own_stringF _ rfl _ _ 56 9 rfl B TU i0 Tryz.underlying56 Tryz.underlying9 hi hz0 hz1 hz2 _ _ _ rfl hown s rfl ?c3 ?c4 ?c5 ?_)
  case c3 => unfold maxLen; omega
  case c4 => omega
  case c5 => have := hb1.size; omega
  intro v' w2 hown' hgrow _
  have hlt : b < w1.heap.size := (Array.getElem?_eq_some_iff.1 hbk).1
  have hb2 : w2.heap[b]? = some (.cells #[.pointer (some ⟨b, 0, none⟩), v, rf, .int .i64 most] TR (0, 0)) := by
    rw [hgrow.block b hlt (fun e => hne e.symm)]
    exact hbk
  have d1 : w2.cell? ⟨b, 1, none⟩ = some v := cell_of hb2 1
  have f1 : w2.frozen? ⟨b, 1, none⟩ = false := frozen_of hb2 1
  obtain ⟨ao, n', cap, rfl⟩ : ∃ ao n' cap, v' = .slice ao n' cap := by
    rcases hown'.2 with ⟨hv, _⟩ | ⟨g, cap, cur, fz, hv, _⟩
    · exact ⟨_, _, _, hv⟩
    · exact ⟨_, _, _, hv⟩
  go_wp2_with fail
  go_ret2
  refine ⟨rfl, ?_, ?_, (hk1.grown hgrow (Lib.ownsRowF_kind hown)).setCell ⟨b, 1, none⟩ rfl _⟩
  · refine RdAt.put hB hb2 (cs' := cs ++ Lib.strCells s) (by simpa [Lib.strCells_length] using hown') ?_
    intro e
    have := congrArg List.length e
    rw [List.length_append, Lib.strCells_length, List.length_nil] at this
    omega
  · exact (hb1.grown hgrow (by have := hb1.size; omega) (fun k hk => (hown.lt k hk).1)).setCell (p := ⟨b, 1, none⟩) hB _
set_option maxRecDepth 100000 in
set_option maxHeartbeats 2000000 in
theorem writeRune_any (B b : Nat) (rf : Value) (most : Int) (cs : List Value) (r : Int) (hr0 : -2147483648 ≤ r) (hr1 : r ≤ 2147483647) (w : World) (h : IsRd B b rf most cs w) (hlen : cs.length + 4 ≤ 140737488355328) (hBw : B ≤ w.heap.size) :
    Calls Tryz.prog 37 #[.pointer (some ⟨b, 0, none⟩), .int .i32 r] w fun e w' => e = .returned (.tuple #[.int .i64 (Lib.runeCells r).length, .nilIface]) ∧ RdP B b rf most (cs ++ Lib.runeCells r) w w' := by
  have H := copyCheck_any B b rf most cs w h
  have hk4 := Lib.runeCells_le r
  clear h
  go_enter Tryz.func37, Tryz.ntmps37
  go_wp2_with fail
  refine H.mono ?_
  clear H
  rintro e w1 ⟨rfl, h1, hb1, hk1⟩
  obtain ⟨hB, v, hbk, hown, hne, hzz⟩ := h1
  clear hzz
  obtain ⟨ao, cap, rfl⟩ : ∃ ao cap, v = .slice ao cs.length cap := by
    rcases hown.2 with ⟨hv, h0⟩ | ⟨g, cap, cur, fz, hv, _⟩
    · exact ⟨none, 0, by rw [hv, h0]⟩
    · exact ⟨_, _, hv⟩
  have c1 : w1.cell? ⟨b, 1, none⟩ = some (.slice ao cs.length cap) := cell_of hbk 1
  have HA := Tryz.utf8_AppendRune_row B _ cs.length cs r hr0 hr1 w1 hown hlen (by have := hb1.size; omega)
  go_wp2_with fail
  refine HA.mono ?_
  clear HA
  rintro e w2 ⟨v', rfl, hown', o, hgrow⟩
  have hlt : b < w1.heap.size := (Array.getElem?_eq_some_iff.1 hbk).1
  have hb2 : w2.heap[b]? = some (.cells #[.pointer (some ⟨b, 0, none⟩), .slice ao cs.length cap, rf, .int .i64 most] TR (0, 0)) := by
    rw [hgrow.block b (by simp; omega) (fun e => hne e.symm), heap_alloc_old w1 _ hlt]
    exact hbk
  have d1 : w2.cell? ⟨b, 1, none⟩ = some (.slice ao cs.length cap) := cell_of hb2 1
  have f1 : w2.frozen? ⟨b, 1, none⟩ = false := frozen_of hb2 1
  obtain ⟨g, cap', rfl⟩ : ∃ g cap', v' = .slice (some ⟨g, 0, none⟩) (cs.length + (Lib.runeCells r).length) cap' := by
    rcases hown'.2 with ⟨_, h0⟩ | ⟨g, cap', cur, fz, hv, _⟩
    · omega
    · exact ⟨g, cap', hv⟩
  go_wp2_with fail
  go_ret2
  refine ⟨?_, ?_, ?_, ((hk1.alloc _).grown hgrow (Lib.ownsRowF_kind (hown.alloc _))).setCell ⟨b, 1, none⟩ rfl _⟩
  · have e : ((cs.length : Int) + ((Lib.runeCells r).length : Int) - (cs.length : Int)) = ((Lib.runeCells r).length : Int) := by omega
    simp [e]
  · refine RdAt.put hB hb2 (cs' := cs ++ Lib.runeCells r) (by simpa using hown') ?_
    intro e
    have := congrArg List.length e
    rw [List.length_append, List.length_nil] at this
    omega
  · exact ((hb1.alloc (by have := hb1.size; omega) _).grown hgrow (by have := hb1.size; simp; omega) (fun k hk => (hown.lt k hk).1)).setCell (p := ⟨b, 1, none⟩) hB _
/-! ### its text -/
set_option maxRecDepth 100000 in
set_option maxHeartbeats 2000000 in
theorem string_any (B b : Nat) (p rf : Value) (most : Int) (l : List UInt8) (w : World) (h : RdAt B b p rf most (Lib.byteCells l) w) :
    Calls Tryz.prog 24 #[.pointer (some ⟨b, 0, none⟩)] w fun e w' => e = .returned (.string ⟨l.toArray⟩) ∧ Below B w w' ∧ Lib.OthersKept TU (some b) w w' := by
  obtain ⟨hB, v, hbk, hown, hne, hz⟩ := h
  by_cases h0 : l = []
  · subst h0
    obtain rfl := hz rfl
    have hUS : ∀ (W : World) (q : Option Addr), (Builtin.unsafeString_ #[82, 3] 9 #[.pointer q, .int .i64 0]).run Tryz.prog W = .ok (.string .empty) W := fun W q => Lib.run_unsafeString_none W _ _ _ q
    have c1 : w.drew.cell? ⟨b, 1, none⟩ = some (.slice none 0 0) := cell_of (w := w.drew) hbk 1
    have hSD : (Builtin.unsafeSliceData_ #[56] 82 #[.slice none 0 0]).run Tryz.prog w.drew = .ok (.pointer none) w.drew := rfl
    go_enter Tryz.func24, Tryz.ntmps24
    go_wp2
    go_region
    all_goals (go_wp2; go_ret; exact ⟨rfl, Below.drew (Below.refl B w), (Lib.OthersKept.refl _ _ w).drew⟩)
  · have hl0 : l.length ≠ 0 := by simpa using h0
    rw [Lib.byteCells_length] at hown
    obtain ⟨g, cap, cur, fz, rfl, hbg, hg, hfz, hnc, hcm, hcs, htake⟩ : ∃ g cap cur fz, v = .slice (some ⟨g, 0, none⟩) l.length cap ∧ B ≤ g ∧ w.heap[g]? = some (.cells cur TU fz) ∧ fz.2 ≤ l.length * 1 ∧ l.length ≤ cap ∧ cap ≤ maxLen ∧ cur.size = cap * 1 ∧ cur.toList.take (l.length * 1) = Lib.byteCells l := by
      rcases hown.2 with ⟨_, hz⟩ | ⟨g, cap, cur, fz, hv, r⟩
      · exact absurd hz hl0
      · exact ⟨g, cap, cur, fz, hv, r⟩
    have c1 : w.drew.cell? ⟨b, 1, none⟩ = some (.slice (some ⟨g, 0, none⟩) l.length cap) := cell_of (w := w.drew) hbk 1
    have hSD : (Builtin.unsafeSliceData_ #[56] 82 #[.slice (some ⟨g, 0, none⟩) l.length cap]).run Tryz.prog w.drew = .ok (.pointer (some ⟨g, 0, none⟩)) w.drew :=
      Lib.run_unsafeSliceData_row _ _ _ _ _ _ (by omega)
    have hUS : (Builtin.unsafeString_ #[82, 3] 9 #[.pointer (some ⟨g, 0, none⟩), .int .i64 l.length]).run Tryz.prog w.drew = .ok (.string ⟨l.toArray⟩) (w.drew.freeze ⟨g, 0, none⟩ l.length) := by
      refine Lib.run_unsafeString_row w.drew 82 3 9 TU Tryz.underlying82 (by kernel_rfl) g cur.size (by have hg' : w.drew.heap[g]? = some (.cells cur TU fz) := hg; simp [World.shape?, hg']) l h0 (by omega) (by unfold maxLen at hcm; omega) ?_
      intro j x hx
      have := hown.cells (g := g) rfl j (.int .u8 x.toNat) (by simp [Lib.byteCells, hx])
      exact this
    go_enter Tryz.func24, Tryz.ntmps24
    go_wp2
    go_region
    all_goals (go_wp2; go_ret; exact ⟨rfl, Lib.below_freeze (Below.drew (Below.refl B w)) (p := ⟨g, 0, none⟩) hbg _, ((Lib.OthersKept.refl _ _ w).drew).freeze ⟨g, 0, none⟩ _ ⟨cur, fz, hg⟩⟩)
end Go.Proofs.YtmjdjpelhhibgaaGreatDoor.Val
