/- ValueNested: the row of entities that grows. -/
import Derived.Test.YtmjdjpelhhibgaaGreatDoorVNestC
import Derived.Test.YtmjdjpelhhibgaaGreatDoorVTold
import Derived.Deep.RegionHeld3
import Derived.Deep.AppendLies
import Derived.Deep.RegionLaw
namespace Go.Proofs.YtmjdjpelhhibgaaGreatDoor.Val
open Go Go.RowKit Go.Proofs.YtmjdjpelhhibgaaGreatDoor.Rf Go.Proofs.YtmjdjpelhhibgaaGreatDoor.Spec Go.Proofs.YtmjdjpelhhibgaaGreatDoor.Giv
set_option linter.unusedVariables false
set_option linter.unusedSimpArgs false
theorem infoE : (Tryz.prog.info? 26).map (fun i => (i.zero, i.size, i.bytes)) = some (some (.agg #[.string ⟨#[]⟩, .string ⟨#[]⟩, .bool false]), 3, 40) := by kernel_rfl
def cellsE (E : List Ent) : List Value := E.flatMap fun e => [.string e.nm, .string e.vl, .bool e.ext]
theorem cells_block (w : World) (cs : Array Value) (T : TypeId) : ∀ j u, cs.toList[j]? = some u → (w.alloc (.cells cs T)).cell? ((⟨w.heap.size, 0, none⟩ : Addr).add j) = some u := by
  intro j u hu
  have ha : (⟨w.heap.size, 0, none⟩ : Addr).add j = ⟨w.heap.size, j, none⟩ := by unfold Addr.add; split <;> simp_all
  rw [ha, cell_of (heap_alloc_new w _)]
  simpa using hu
theorem cellsE_len (E : List Ent) : (cellsE E).length = E.length * 3 := by
  induction E with
  | nil => rfl
  | cons e E ih => simp only [cellsE, List.flatMap_cons, List.length_append, List.length_cons] at *; simp at *; omega
theorem cellsE_at (E : List Ent) : ∀ i j, i < E.length → j < 3 → (cellsE E)[i * 3 + j]? = ([Value.string (E.getD i ⟨⟨#[]⟩, ⟨#[]⟩, false⟩).nm, .string (E.getD i ⟨⟨#[]⟩, ⟨#[]⟩, false⟩).vl, .bool (E.getD i ⟨⟨#[]⟩, ⟨#[]⟩, false⟩).ext])[j]? := by
  induction E with
  | nil => intro i j hi; simp at hi
  | cons e E ih =>
    intro i j hi hj
    have hc : cellsE (e :: E) = [.string e.nm, .string e.vl, .bool e.ext] ++ cellsE E := rfl
    rw [hc]
    cases i with
    | zero => rw [List.getElem?_append_left (by simp; omega)]; simp
    | succ i =>
      rw [List.getElem?_append_right (by simp; omega)]
      have := ih i j (by simpa using hi) hj
      rw [show (i + 1) * 3 + j - [Value.string e.nm, .string e.vl, .bool e.ext].length = i * 3 + j by simp; omega, this]
      simp
theorem rowE_of_cells {w : World} {ad : Addr} {E : List Ent} (hs : ad.spot = none) (hb : ad.block < w.heap.size) (hc : ∀ j u, (cellsE E)[j]? = some u → w.cell? (ad.add j) = some u) : RowE w (some ad) E := by
  intro i hi
  obtain ⟨b, o, s⟩ := ad
  simp only at hs hb
  subst hs
  have ha : ∀ k, (⟨b, o, none⟩ : Addr).add k = ⟨b, o + k, none⟩ := by intro k; unfold Addr.add; split <;> simp_all
  refine ⟨b, o, rfl, hb, ?_, ?_, ?_⟩
  · have := hc (i * 3 + 0) _ (cellsE_at E i 0 hi (by omega)); rw [ha] at this; simpa [Nat.add_assoc] using this
  · have := hc (i * 3 + 1) _ (cellsE_at E i 1 hi (by omega)); rw [ha] at this; simpa [Nat.add_assoc] using this
  · have := hc (i * 3 + 2) _ (cellsE_at E i 2 hi (by omega)); rw [ha] at this; simpa [Nat.add_assoc] using this
theorem rowE_of_own {w : World} {B n : Nat} {v : Value} {E : List Ent} (h : w.ownsRow B 26 3 v n (cellsE E)) (hn : 0 < n) : ∃ g cap, v = .slice (some ⟨g, 0, none⟩) n cap ∧ B ≤ g ∧ RowE w (some ⟨g, 0, none⟩) E := by
  rcases h.2 with ⟨_, h2⟩ | ⟨g, cap, cur, rfl, hg, h3, _⟩
  · omega
  · exact ⟨g, cap, rfl, hg, rowE_of_cells rfl (Array.getElem?_eq_some_iff.1 h3).1 (h.cells rfl)⟩
theorem cellsE_app (E F : List Ent) : cellsE (E ++ F) = cellsE E ++ cellsE F := by simp [cellsE]
/-- The box of the declarations lies at the top of w; its row of entities above it. -/
def NestR (w : World) (E : List Ent) (wr : World) : Prop :=
  Below w.heap.size w wr ∧ ∃ v, wr.heap[w.heap.size]? = some (.cells #[.string ⟨#[]⟩, v, .slice none 0 0] 30 (0, 0)) ∧ wr.ownsRow (w.heap.size + 1) 26 3 v E.length (cellsE E) ∧ w.heap.size + 1 ≤ wr.heap.size
theorem nest_start (w : World) : NestR w [] (w.alloc (.cells #[.string ⟨#[]⟩, .slice none 0 0, .slice none 0 0] 30)) :=
  ⟨(Below.refl _ _).alloc (Nat.le_refl _) _, _, heap_alloc_new _ _, World.ownsRow_nil _ _ _ _, by simp⟩
theorem nest_kept {w wr W0 w1 : World} {E : List Ent} {gg cap : Nat} {v : Value} {o1 : Obj} (e : Ent) (hR : NestR w E wr) (hd : wr.heap[w.heap.size]? = some (.cells #[.string ⟨#[]⟩, v, .slice none 0 0] 30 (0, 0)))
    (hown : wr.ownsRow (w.heap.size + 1) 26 3 v E.length (cellsE E)) (h0 : W0.heap = (wr.alloc o1).heap) (h0o : W0.os = wr.os) (h0t : W0.tape = wr.tape) (h0p : W0.output = wr.output) (hgrow : W0.grownBy w1 v.ownBlock)
    (hown1 : w1.ownsRow (w.heap.size + 1) 26 3 (.slice (some ⟨gg, 0, none⟩) (E.length + 1) cap) (E.length + 1) (cellsE E ++ [.string e.nm, .string e.vl, .bool e.ext])) :
    w1.cell? ⟨w.heap.size, 1, none⟩ = some v ∧ w1.frozen? ⟨w.heap.size, 1, none⟩ = false ∧ w.heap.size < w1.heap.size ∧ NestR w (E ++ [e]) (w1.setCell ⟨w.heap.size, 1, none⟩ (.slice (some ⟨gg, 0, none⟩) (E.length + 1) cap)) := by
  have hs := hgrow.size
  have hlt := (Array.getElem?_eq_some_iff.1 hd).1
  have hne : some w.heap.size ≠ v.ownBlock := fun e => by have := (hown.lt _ e.symm).1; omega
  have hz0 : W0.heap.size = wr.heap.size + 1 := by rw [h0]; simp
  have e1 : ∀ k, k < wr.heap.size → some k ≠ v.ownBlock → w1.heap[k]? = wr.heap[k]? := fun k hk hn =>
    (hgrow.block k (by omega) hn).trans (by rw [h0, heap_alloc_old _ _ hk])
  have hd1 := (e1 _ hlt hne).trans hd
  have hgg : gg ≠ w.heap.size := by have := (hown1.lt gg rfl).1; omega
  refine ⟨cell_of hd1 1, frozen_of hd1 1, by omega, ?_, .slice (some ⟨gg, 0, none⟩) (E.length + 1) cap, ?_, ?_, ?_⟩
  · refine ⟨(hgrow.os.trans h0o).trans hR.1.os, (hgrow.tape.trans h0t).trans hR.1.tape, (hgrow.output.trans h0p).trans hR.1.output, by simp [World.setCell]; omega, fun k hk => ?_⟩
    rw [Below.heap_setCell _ _ _ _ (by simp; omega), e1 k (by have := hR.1.size; omega) (fun e => by have := (hown.lt _ e.symm).1; omega)]
    exact hR.1.block k hk
  · simp only [World.setCell, Array.getElem?_modify, hd1]
    simp
  · have h3 : cellsE (E ++ [e]) = cellsE E ++ [.string e.nm, .string e.vl, .bool e.ext] := by simp [cellsE]
    rw [h3, List.length_append]
    exact ownsRow_setCell_below hown1 (by simp) _
  · simp [World.setCell]; omega
theorem own_shape3 {w : World} {B T s : Nat} {v : Value} {n : Nat} {xs : List Value} (h : w.ownsRow B T s v (n + 1) xs) : ∃ g cap, v = .slice (some ⟨g, 0, none⟩) (n + 1) cap := by
  rcases h.2 with ⟨_, h⟩ | ⟨g, cap, _, h, _⟩
  · omega
  · exact ⟨g, cap, h⟩
def abc8 : ByteArray := ⟨#[97, 98, 99, 100, 101, 102, 103, 104]⟩
theorem abc_at (j : Nat) (h : j < 8) : abc8.extract j (j + 1) = ⟨#[nmC j]⟩ := by
  match j, h with
  | 0, _ | 1, _ | 2, _ | 3, _ | 4, _ | 5, _ | 6, _ | 7, _ => decide +kernel
theorem slice8 (j : Nat) (h : j < 8) (W : World) : (Instr.slice 9 (.string ⟨#[97, 98, 99, 100, 101, 102, 103, 104]⟩) (some (.int .i64 (j : Int))) (some (.int .i64 ((j : Int) + 1))) none).run Tryz.prog W = .ok (.string ⟨#[nmC j]⟩) W := by
  have h1 : (0 : Int) ≤ (j : Int) + 1 := by omega
  have h2 : (j : Int) + 1 ≤ 8 := by omega
  have h3 : ((j : Int) + 1).toNat = j + 1 := by omega
  have h5 : (0 : Int) ≤ (j : Int) := by omega
  have h4 : (j : Int) ≤ ((j + 1 : Nat) : Int) := by omega
  have hsz : ByteArray.size ⟨#[97, 98, 99, 100, 101, 102, 103, 104]⟩ = 8 := rfl
  have ha := abc_at j h
  unfold abc8 at ha
  simp only [Instr.slice, Instr.sliceBounds, Instr.sliceBound, asIntOf, Sem.run_bind, run_underlying Tryz.underlying9, Result.andThen, hsz]
  simp [h1, h2, h3, ha]
theorem refs_succ (j : Nat) (c : UInt8) : refs (j + 1) c = refs j c ++ [38, c, 59] := by
  simp [refs, List.replicate_succ', List.flatten_append]
theorem refs_len (j : Nat) (c : UInt8) : (refs j c).length = 3 * j := by
  induction j with
  | zero => rfl
  | succ j ih => rw [refs_succ, List.length_append, ih]; simp; omega
theorem refs_string (j : Nat) (c : UInt8) : (⟨(refs j c).toArray⟩ : ByteArray) ++ ⟨#[38]⟩ ++ ⟨#[c]⟩ ++ ⟨#[59]⟩ = ⟨(refs (j + 1) c).toArray⟩ := by
  rw [refs_succ]
  apply ByteArray.ext
  simp
theorem refs_size (j : Nat) (c : UInt8) : (⟨(refs j c).toArray⟩ : ByteArray).size = 3 * j := by
  show ((refs j c).toArray).size = _
  simp [refs_len]
def tms (j : Nat) (l : List UInt8) : ByteArray := ⟨(List.replicate j l).flatten.toArray⟩
theorem tms_succ (j : Nat) (l : List UInt8) : tms j l ++ ⟨l.toArray⟩ = tms (j + 1) l := by
  apply ByteArray.ext
  simp [tms, List.replicate_succ', List.flatten_append]
theorem tms_size (j : Nat) (l : List UInt8) : (tms j l).size = j * l.length := by
  show ((List.replicate j l).flatten.toArray).size = _
  simp
theorem tms_small (j : Nat) (l : List UInt8) (hj : j ≤ 3) (hl : l.length ≤ 300) : (tms j l).size ≤ 900 := by
  rw [tms_size]
  calc j * l.length ≤ 3 * 300 := Nat.mul_le_mul hj hl
    _ ≤ 900 := by omega
theorem nestE_len (k p : Nat) : (nestE k p).length = p + 1 := by
  induction p with
  | zero => rfl
  | succ p ih => simp [nestE, ih]
def nestOk (k p : Nat) : Bool := decide ((nestT k p).length ≤ 300) && decide (nestC k p ≤ 2000)
theorem nestOk_all : ((List.range 4).all fun k => (List.range 6).all fun p => nestOk k p) = true := by decide +kernel
theorem nest_small (k p : Nat) (hk : k ≤ 3) (hp : p < 6) : (nestT k p).length ≤ 300 ∧ nestC k p ≤ 2000 := by
  have h1 := List.all_eq_true.1 nestOk_all k (by simp; omega)
  have h2 := List.all_eq_true.1 h1 p (by simpa using hp)
  simpa [nestOk] using h2
theorem nestE_small (k p : Nat) (hk : k ≤ 3) : ∀ e ∈ nestE k p, e.vl.size < 4294967281 := by
  induction p with
  | zero => intro e he; simp [nestE] at he; subst he; decide
  | succ p ih =>
    intro e he
    rcases List.mem_append.1 he with h | h
    · exact ih e h
    · obtain rfl := List.mem_singleton.1 h
      show (⟨(refs k (nmC p)).toArray⟩ : ByteArray).size < _
      rw [refs_size]; omega
end Go.Proofs.YtmjdjpelhhibgaaGreatDoor.Val
