/- What a replacer of single bytes is built to. -/
import Derived.Test.YtmjdjpelhhibgaaGreatDoorVNew
import Derived.Laws.BytesString
import Derived.Deep.WholeRow
namespace Go.Proofs.YtmjdjpelhhibgaaGreatDoor.Rep
open Go Go.RowKit Go.Proofs.YtmjdjpelhhibgaaGreatDoor.Rf Go.Proofs.YtmjdjpelhhibgaaGreatDoor.Once
set_option linter.unusedVariables false
set_option linter.unusedSimpArgs false
abbrev TBS : TypeId := 149
/-- The texts that a replacer is made of. -/
def oldnew (M : List (UInt8 × ByteArray)) : List ByteArray := M.flatMap fun p => [⟨#[p.1]⟩, p.2]
theorem oldnew_length (M : List (UInt8 × ByteArray)) : (oldnew M).length = 2 * M.length := by
  induction M with
  | nil => rfl
  | cons p M ih => simp [oldnew] at ih ⊢; omega
theorem oldnew_at : ∀ (M : List (UInt8 × ByteArray)) (j : Nat) (p : UInt8 × ByteArray), M[j]? = some p → (oldnew M)[2 * j]? = some ⟨#[p.1]⟩ ∧ (oldnew M)[2 * j + 1]? = some p.2
  | q :: M, 0, p, h => by
    simp at h
    subst h
    exact ⟨rfl, rfl⟩
  | q :: M, j + 1, p, h => by
    have ih := oldnew_at M j p (by simpa using h)
    have e : oldnew (q :: M) = ⟨#[q.1]⟩ :: q.2 :: oldnew M := rfl
    rw [e, show 2 * (j + 1) = 2 * j + 1 + 1 by omega]
    exact ih
theorem eqnil (W : World) : (binOp .eql 56 (.slice none 0 0) (.slice none 0 0)).run Tryz.prog W = .ok (.bool true) W := by kernel_rfl
theorem nenil (W : World) : (binOp .neq 56 (.slice none 0 0) (.slice none 0 0)).run Tryz.prog W = .ok (.bool false) W := by kernel_rfl
theorem nenil2 (a : Addr) (n c : Nat) (W : World) : (binOp .neq 56 (.slice (some a) n c) (.slice none 0 0)).run Tryz.prog W = .ok (.bool true) W := by kernel_rfl
theorem conv_one (pk : UInt8) (W : World) : (convert 56 9 (.slice (some ⟨W.heap.size, 0, none⟩) 1 1)).run Tryz.prog (W.alloc (.cells #[.int .u8 (pk.toNat : Int)] 5)) = .ok (.string ⟨#[pk]⟩) (W.alloc (.cells #[.int .u8 (pk.toNat : Int)] 5)) := by
  rw [run_convert_bytes_string _ 56 9 5 _ 1 1 Tryz.underlying56 Tryz.underlying5 Tryz.underlying9, run_bytesToString _ _ 1 1 [(pk.toNat : Int)]]
  · have e : UInt8.ofNat (pk.toNat : Int).toNat = pk := by simp
    simp only [List.foldl_cons, List.foldl_nil, e]
    rfl
  · have := run_loadCellsFrom_new (P := Tryz.prog) W 5 #[.int .u8 (pk.toNat : Int)] 1 rfl
    simpa [loadCells] using this
theorem conv_str (v : ByteArray) (W : World) : (convert 9 56 (.string v)).run Tryz.prog W = .ok (.slice (some ⟨W.heap.size, 0, none⟩) v.size (grownCap W v.size 0 5)) (Lib.bytesWorld W 5 v) :=
  Lib.run_convert_string_bytes W 9 56 5 v Tryz.underlying9 Tryz.underlying56 Tryz.underlying5
theorem bw_cell {W : World} {b : Nat} {cs : Array Value} {T : TypeId} {fz : Nat × Nat} (h : W.heap[b]? = some (.cells cs T fz)) (e : TypeId) (v : ByteArray) (j : Nat) : (Lib.bytesWorld W e v).cell? ⟨b, j, none⟩ = cs[j]? :=
  cell_of ((Lib.bytesWorld_at_old W e v b (Array.getElem?_eq_some_iff.1 h).1).trans h) j
theorem bw_frozen {W : World} {b : Nat} {cs : Array Value} {T : TypeId} (h : W.heap[b]? = some (.cells cs T (0, 0))) (e : TypeId) (v : ByteArray) (j : Nat) : (Lib.bytesWorld W e v).frozen? ⟨b, j, none⟩ = false :=
  frozen_of ((Lib.bytesWorld_at_old W e v b (Array.getElem?_eq_some_iff.1 h).1).trans h) j
def look (b : UInt8) (D : List (UInt8 × ByteArray)) : Option ByteArray := (D.find? fun p => p.1 == b).map (·.2)
abbrev TU : TypeId := 5
/-- Block g holds the bytes of v. -/
def RowB (W : World) (g : Nat) (v : ByteArray) : Prop := ∃ cur fz, W.heap[g]? = some (.cells cur TU fz) ∧ ∀ j, j < v.size → cur[j]? = some (.int .u8 (v.data.toList.getD j 0).toNat)
def Cell (W : World) (o : Option ByteArray) (c : Option Value) : Prop := match o with
  | none => c = some (.slice none 0 0)
  | some v => ∃ g cap, c = some (.slice (some ⟨g, 0, none⟩) v.size cap) ∧ RowB W g v
/-- Block bk holds what stands for each byte. -/
def Bst (B : Nat) (W : World) (bk : Nat) (D : List (UInt8 × ByteArray)) : Prop := B ≤ bk ∧ ∃ (cs : Array Value) (tr : Value), W.heap[bk]? = some (.cells cs TBS (0, 0)) ∧ cs.size = 257 ∧ (∀ b : UInt8, Cell W (look b D) cs[b.toNat]?) ∧ cs[256]? = some tr ∧
  W.ownsRow B 9 1 tr D.length (D.reverse.map fun p => Value.string ⟨#[p.1]⟩)
theorem zero_list : Tryz.zeroCells149.toList = List.replicate 257 (Value.slice none 0 0) := by kernel_rfl
theorem zero_store (w : World) (v : Value) (h1 : v.oneCell' = true) : ∃ Z : Array Value, Z.size = 257 ∧ (∀ b : UInt8, Z[b.toNat]? = some (.slice none 0 0)) ∧ Z[256]? = some v ∧
    (storeCells ⟨w.heap.size, 0, none⟩ (Tryz.zeroCells149.toList.set 256 v) 0).run Tryz.prog (w.alloc (.cells Tryz.zeroCells149 TBS)) = .ok () (w.alloc (.cells Z TBS)) := by
  have hz : Tryz.zeroCells149.size = 257 := by
    rw [← Array.length_toList, zero_list, List.length_replicate]
  refine ⟨((List.replicate 257 (Value.slice none 0 0)).set 256 v).toArray, by rw [List.size_toArray, List.length_set, List.length_replicate], ?_, by rw [List.getElem?_toArray, List.getElem?_set_self (by rw [List.length_replicate]; omega)], ?_⟩
  · intro b
    have hb := b.toNat_lt
    rw [List.getElem?_toArray, List.getElem?_set_ne (by omega), List.getElem?_replicate, if_pos (by omega)]
  · have h := run_storeCells_new (P := Tryz.prog) w TBS Tryz.zeroCells149 ((List.replicate 257 (Value.slice none 0 0)).set 256 v).toArray (by rw [List.size_toArray, List.length_set, List.length_replicate]; kernel_rfl) (by rw [hz, List.size_toArray, List.length_set, List.length_replicate]) ?_
    · rw [zero_list]
      exact h
    · rw [Array.all_eq_true']
      intro x hx
      rw [List.mem_toArray] at hx
      rcases List.mem_or_eq_of_mem_set hx with hx | rfl
      · rw [List.eq_of_mem_replicate hx]; rfl
      · exact h1
theorem look_drop (M : List (UInt8 × ByteArray)) (hnd : (M.map (·.1)).Nodup) (k : Nat) (p : UInt8 × ByteArray) (hp : M[k]? = some p) : look p.1 (M.drop (k + 1)) = none := by
  have hk : k < M.length := (List.getElem?_eq_some_iff.1 hp).1
  have hpk : M[k] = p := (List.getElem?_eq_some_iff.1 hp).2
  have hd : M.drop k = p :: M.drop (k + 1) := by rw [List.drop_eq_getElem_cons hk, hpk]
  have h2 : ((M.drop k).map (·.1)).Nodup := by rw [List.map_drop]; exact hnd.sublist (List.drop_sublist _ _)
  rw [hd, List.map_cons, List.nodup_cons] at h2
  unfold look
  rw [Option.map_eq_none_iff, List.find?_eq_none]
  intro q hq he
  have : q.1 = p.1 := by simpa using he
  exact h2.1 (List.mem_map.2 ⟨q, hq, this⟩)
theorem grown_heap {w1 w3 : World} {B n bk : Nat} {v : Value} {xs : List Value} {cs : Array Value} (hg : w1.grownBy w3 v.ownBlock) (ho : w1.ownsRow B 9 1 v n xs) (hb : w1.heap[bk]? = some (.cells cs TBS (0, 0))) : w3.heap[bk]? = some (.cells cs TBS (0, 0)) := by
  rw [hg.block bk (Array.getElem?_eq_some_iff.1 hb).1 (fun e => Lib.ownBlock_ne ho hb (by decide) e.symm)]
  exact hb
theorem bw_below {B bk : Nat} {w W : World} (h : Below B w W) (hs : B ≤ W.heap.size) (hb : B ≤ bk) (v : ByteArray) (j : Nat) (x : Value) : Below B w ((Lib.bytesWorld W TU v).setCell ⟨bk, j, none⟩ x) := by
  have h1 : Below B W (Lib.bytesWorld W TU v) := ⟨rfl, rfl, rfl, by rw [Lib.bytesWorld_size]; omega, fun k hk => Lib.bytesWorld_at_old W TU v k (by omega)⟩
  exact (h.trans h1).setCell (p := ⟨bk, j, none⟩) hb _
theorem setCell_heap {w : World} {b : Nat} {cs : Array Value} {T : TypeId} {fz : Nat × Nat} (h : w.heap[b]? = some (.cells cs T fz)) (j : Nat) (v : Value) : (w.setCell ⟨b, j, none⟩ v).heap[b]? = some (.cells (cs.setIfInBounds j v) T fz) := by
  simp [World.setCell, Array.getElem?_modify, h]
theorem RowB.kept {W W' : World} {g : Nat} {v : ByteArray} (h : RowB W g v) (hk : ∀ (k : Nat) (cs : Array Value) (fz : Nat × Nat), W.heap[k]? = some (Obj.cells cs TU fz) → W'.heap[k]? = W.heap[k]?) : RowB W' g v := by
  obtain ⟨cur, fz, h1, h2⟩ := h
  exact ⟨cur, fz, (hk g cur fz h1).trans h1, h2⟩
theorem Cell.kept {W W' : World} {o : Option ByteArray} {c : Option Value} (h : Cell W o c) (hk : ∀ (k : Nat) (cs : Array Value) (fz : Nat × Nat), W.heap[k]? = some (Obj.cells cs TU fz) → W'.heap[k]? = W.heap[k]?) : Cell W' o c := by
  cases o with
  | none => exact h
  | some v =>
    obtain ⟨g, cap, h1, h2⟩ := h
    exact ⟨g, cap, h1, h2.kept hk⟩
theorem own_keep {W W' : World} {B n : Nat} {v : Value} {xs : List Value} (h : W.ownsRow B 9 1 v n xs) (hk : ∀ (k : Nat) (cs : Array Value) (fz : Nat × Nat), W.heap[k]? = some (Obj.cells cs 9 fz) → W'.heap[k]? = W.heap[k]?) : W'.ownsRow B 9 1 v n xs := by
  refine ⟨h.1, ?_⟩
  rcases h.2 with h0 | ⟨g, cap, cur, hv, hb, hg, rest⟩
  · exact .inl h0
  · exact .inr ⟨g, cap, cur, hv, hb, (hk g _ _ hg).trans hg, rest⟩
theorem look_cons (b pk : UInt8) (pv : ByteArray) (D : List (UInt8 × ByteArray)) : look b ((pk, pv) :: D) = if pk = b then some pv else look b D := by
  unfold look
  by_cases h : pk = b
  · simp [h]
  · have : (pk == b) = false := by simpa using h
    simp [h, this]
theorem bst_step {B bk : Nat} {w3 : World} {D : List (UInt8 × ByteArray)} {pk : UInt8} {pv : ByteArray} {cs : Array Value} {v' : Value} (hB : B ≤ bk) (hcs : w3.heap[bk]? = some (.cells cs TBS (0, 0))) (hcz : cs.size = 257) (hct : ∀ b : UInt8, Cell w3 (look b D) cs[b.toNat]?)
    (hown : w3.ownsRow B 9 1 v' (D.length + 1) ((D.reverse.map fun p => Value.string ⟨#[p.1]⟩) ++ [Value.string ⟨#[pk]⟩])) (cap : Nat) :
    Bst B ((Lib.bytesWorld (w3.setCell ⟨bk, 256, none⟩ v') TU pv).setCell ⟨bk, pk.toNat, none⟩ (.slice (some ⟨w3.heap.size, 0, none⟩) pv.size cap)) bk ((pk, pv) :: D) := by
  have hlt := (Array.getElem?_eq_some_iff.1 hcs).1
  have hpk := pk.toNat_lt
  have h4 := setCell_heap hcs 256 v'
  have hsz : (w3.setCell ⟨bk, 256, none⟩ v').heap.size = w3.heap.size := by simp [World.setCell]
  have h5 := (Lib.bytesWorld_at_old (w3.setCell ⟨bk, 256, none⟩ v') TU pv bk (by rw [hsz]; exact hlt)).trans h4
  have h6 := setCell_heap h5 pk.toNat (.slice (some ⟨w3.heap.size, 0, none⟩) pv.size cap)
  have hoth : ∀ k, k ≠ bk → k < w3.heap.size → ((Lib.bytesWorld (w3.setCell ⟨bk, 256, none⟩ v') TU pv).setCell ⟨bk, pk.toNat, none⟩ (.slice (some ⟨w3.heap.size, 0, none⟩) pv.size cap)).heap[k]? = w3.heap[k]? := by
    intro k h1 h2
    rw [Below.heap_setCell _ _ _ _ h1, Lib.bytesWorld_at_old _ TU pv k (by rw [hsz]; exact h2), Below.heap_setCell _ _ _ _ h1]
  have hcell : ∀ (T : TypeId), T ≠ TBS → ∀ (k : Nat) (c : Array Value) (fz : Nat × Nat), w3.heap[k]? = some (Obj.cells c T fz) → ((Lib.bytesWorld (w3.setCell ⟨bk, 256, none⟩ v') TU pv).setCell ⟨bk, pk.toNat, none⟩ (.slice (some ⟨w3.heap.size, 0, none⟩) pv.size cap)).heap[k]? = w3.heap[k]? := by
    intro T hT k c fz hk
    refine hoth k ?_ (Array.getElem?_eq_some_iff.1 hk).1
    rintro rfl
    rw [hcs] at hk
    simp only [Option.some.injEq, Obj.cells.injEq] at hk
    exact hT hk.2.1.symm
  have hnew : ((Lib.bytesWorld (w3.setCell ⟨bk, 256, none⟩ v') TU pv).setCell ⟨bk, pk.toNat, none⟩ (.slice (some ⟨w3.heap.size, 0, none⟩) pv.size cap)).heap[w3.heap.size]? = (Lib.bytesWorld (w3.setCell ⟨bk, 256, none⟩ v') TU pv).heap[w3.heap.size]? := Below.heap_setCell _ _ _ _ (by show w3.heap.size ≠ bk; omega)
  have hnw2 := Lib.bytesWorld_at_new (w3.setCell ⟨bk, 256, none⟩ v') TU pv
  rw [hsz] at hnw2
  refine ⟨hB, _, v', h6, by simp [hcz], ?_, ?_, ?_⟩
  · intro b
    rw [look_cons]
    by_cases hb : pk = b
    · subst hb
      rw [if_pos rfl, Array.getElem?_setIfInBounds_self_of_lt (by simp; omega)]
      refine ⟨w3.heap.size, cap, rfl, _, _, hnew.trans hnw2, ?_⟩
      intro j hj
      have hj2 : j < pv.data.size := hj
      simp [Lib.bytesCells, Array.getElem?_append, List.getD, hj]
      try (rw [Array.getElem?_eq_getElem hj2])
      try rfl
    · have hne : pk.toNat ≠ b.toNat := fun e => hb (UInt8.toNat_inj.1 e)
      have hb2 := b.toNat_lt
      rw [if_neg hb, Array.getElem?_setIfInBounds_ne hne, Array.getElem?_setIfInBounds_ne (by omega)]
      exact (hct b).kept (hcell TU (by decide))
  · rw [Array.getElem?_setIfInBounds_ne (by omega), Array.getElem?_setIfInBounds_self_of_lt (by omega)]
  · rw [List.reverse_cons, List.map_append]
    exact own_keep hown (hcell 9 (by decide))
set_option maxRecDepth 100000 in
set_option maxHeartbeats 4000000 in
theorem build_any (B R : Nat) (M : List (UInt8 × ByteArray)) (hnd : (M.map (·.1)).Nodup) (hM : 2 ≤ M.length) (hM2 : M.length ≤ 100) (hV : ∀ p ∈ M, 2 ≤ p.2.size) (on : Value) (w : World) (d st : Int) (h : Rpl w R d st .nilIface on) (ho : w.ownsRow B 9 1 on (oldnew M).length ((oldnew M).map Value.string)) :
    Calls Tryz.prog 63 #[.pointer (some ⟨R, 0, none⟩)] w fun e w' => ∃ bk, e = .returned (.iface 150 (.pointer (some ⟨bk, 0, none⟩))) ∧ Bst w.heap.size w' bk M ∧ Below w.heap.size w w' := by
  have c4 := h.c4
  obtain ⟨g, cap, rfl⟩ : ∃ g cap, on = .slice (some ⟨g, 0, none⟩) (oldnew M).length cap := by
    rcases ho.2 with ⟨_, h0⟩ | ⟨g, cap, cur, hv, _⟩
    · rw [oldnew_length] at h0; omega
    · exact ⟨g, cap, hv⟩
  have hcells : ∀ j p, M[j]? = some p → w.cell? ⟨g, 2 * j, none⟩ = some (.string ⟨#[p.1]⟩) ∧ w.cell? ⟨g, 2 * j + 1, none⟩ = some (.string p.2) := by
    intro j p hj
    obtain ⟨h1, h2⟩ := oldnew_at M j p hj
    have k1 := ho.cells (g := g) rfl (2 * j) (.string ⟨#[p.1]⟩) (by simp [h1])
    have k2 := ho.cells (g := g) rfl (2 * j + 1) (.string p.2) (by simp [h2])
    refine ⟨?_, by simpa [Addr.add] using k2⟩
    by_cases hz : j = 0
    · subst hz; simpa [Addr.add] using k1
    · simpa [Addr.add, show 2 * j ≠ 0 by omega, hz] using k1
  rw [oldnew_length] at c4
  obtain ⟨m, hm⟩ : ∃ m, M.length = m := ⟨_, rfl⟩
  rw [hm] at hM hM2 c4
  have HM := Lib.hid hm
  have HC := Lib.hid hcells
  have HV := Lib.hid hV
  have hcl : 2 * m ≤ cap := by
    rcases ho.2 with ⟨h0, _⟩ | ⟨g, cap, cur, hv, _, _, hle, _⟩
    · cases h0
    · simp only [Value.slice.injEq] at hv
      obtain ⟨_, _, rfl⟩ := hv
      rw [oldnew_length, hm] at hle
      exact hle
  have HO := Lib.hid ho
  have HR := Lib.hid h
  have h2m : ((2 * m : Nat) : Int) ≠ 2 := by omega
  have h2b : (((2 * m : Nat) : Int) == 2) = false := by simpa using h2m
  clear h ho hcells hm hV
  go_enter Tryz.func63, Tryz.ntmps63
  go_wp2
  go_loop [4, 5] (fun b i => ∃ j : Nat, i = .int .i64 (2 * (j : Int)) ∧ j ≤ m ∧ b = .bool (decide (j = 0))) (fun _ i => 2 * m + 2 - (intOf i).toNat)
  case atStart => exact ⟨0, rfl, by omega, rfl⟩
  case round =>
    obtain ⟨j, rfl, hj, rfl⟩ := hrel
    by_cases hlt : j < m
    · have hlt2 : 2 * (j : Int) < 2 * (m : Int) := by omega
      obtain ⟨p, hp⟩ : ∃ p, M[j]? = some p := by
        have : j < M.length := by rw [HM.out]; exact hlt
        exact ⟨_, List.getElem?_eq_getElem this⟩
      obtain ⟨c0, c1⟩ := HC.out j p hp
      have hps := HV.out p (List.mem_of_getElem? hp)
      have z0 : (⟨#[p.1]⟩ : ByteArray).size = 1 := rfl
      have z1 : ((p.2.size : Int) != 1) = true := by rw [bne_iff_ne]; omega
      generalize (⟨#[p.1]⟩ : ByteArray) = A at *
      generalize p.2 = V at *
      clear hp
      go_wp2
      go_round
      case rel => exact ⟨j + 1, by go_num, by omega, by simp⟩
      case measure => simp [intOf]; omega
    · obtain rfl : j = m := by omega
      have hnl : ¬ (2 * (j : Int) < 2 * (j : Int)) := by omega
      have hj0 : decide (j = 0) = false := by rw [decide_eq_false_iff_not]; omega
      rw [hj0]
      have htd : (2 * (j : Int)).tdiv 2 = (j : Int) := by rw [Int.tdiv_eq_ediv_of_nonneg (by omega)]; omega
      obtain ⟨i0, hi, hz0, hz1, hz2⟩ := info_parts infoS
      obtain ⟨W1, hmk, hown1, hg1⟩ := run_make_own (P := Tryz.prog) w w.heap.size 39 9 i0 _ 1 Tryz.underlying39 hi hz0 hz1 .i64 .i64 j (by rw [hz2]; omega) (by unfold maxLen; omega) (Nat.le_refl _)
      obtain ⟨Z, hZ0, hZ1, hZ2, hst⟩ := zero_store W1 (.slice (some ⟨w.heap.size, 0, none⟩) 0 j) rfl
      go_wp2
      clear hst
      have HB0 : Hid (Bst w.heap.size (W1.alloc (.cells Z TBS)) W1.heap.size (M.drop j)) := by
        rw [List.drop_eq_nil_of_le (by rw [HM.out]; omega)]
        refine ⟨hg1.size, Z, _, heap_alloc_new W1 _, hZ0, fun b => hZ1 b, hZ2, ?_⟩
        simpa using hown1.alloc (.cells Z TBS)
      have hbel : Below w.heap.size w (W1.alloc (.cells Z TBS)) := Below.alloc ⟨hg1.os, hg1.tape, hg1.output, hg1.size, fun k hk => hg1.block k hk (by simp)⟩ hg1.size _
      generalize hbk : W1.heap.size = bk at *
      have hbkl : bk < (W1.alloc (.cells Z TBS)).heap.size := by simp; omega
      generalize W1.alloc (.cells Z TBS) = W2 at *
      clear hbk hmk hown1 hg1 hZ0 hZ1 hZ2
      go_loopw [12] (fun i wr => ∃ k : Nat, i = .int .i64 (2 * (k : Int) - 2) ∧ k ≤ j ∧ Below w.heap.size w wr ∧ Hid (Bst w.heap.size wr bk (M.drop k))) (fun i _ => (intOf i + 2).toNat)
      case atStart => exact ⟨j, rfl, Nat.le_refl _, hbel, HB0⟩
      case round =>
        obtain ⟨k, rfl, hk, hbw, HB⟩ := hrel
        clear HB0 hbel
        rcases k with _ | k
        · have hm2 : ¬ ((2 * ((0 : Nat) : Int) - 2) ≥ 0) := by omega
          go_wp2
          go_ret
          exact ⟨bk, rfl, by simpa using HB.out, hbw⟩
        · obtain ⟨p, hp⟩ : ∃ p, M[k]? = some p := by
            have : k < M.length := by rw [HM.out]; exact hk
            exact ⟨_, List.getElem?_eq_getElem this⟩
          obtain ⟨c0, c1⟩ := HC.out k p hp
          have hgl : g < w.heap.size := (HO.out.lt g rfl).2
          have d0 := (hbw.cell (p := ⟨g, 2 * k, none⟩) hgl).trans c0
          have d1 := (hbw.cell (p := ⟨g, 2 * k + 1, none⟩) hgl).trans c1
          have hlook : look p.1 (M.drop (k + 1)) = none := look_drop M hnd k p hp
          have hps := HV.out p (List.mem_of_getElem? hp)
          obtain ⟨hbk0, cs, tr, hcs, hcz, hct, ht, hrow⟩ := HB.out
          have hnil := hct p.1
          rw [hlook] at hnil
          have f0 : wr.cell? ⟨bk, p.1.toNat, none⟩ = some (.slice none 0 0) := by simp only [World.cell?, hcs]; exact hnil
          have f1 : wr.cell? ⟨bk, 256, none⟩ = some tr := by simp only [World.cell?, hcs]; exact ht
          have z0 : ∀ x, wr.frozen? ⟨bk, x, none⟩ = false := fun x => frozen_of hcs x
          obtain ⟨ao, tc, rfl⟩ := own_slice hrow
          have e : 2 * ((k + 1 : Nat) : Int) - 2 = 2 * (k : Int) := by omega
          rw [e]
          have hb256 := p.1.toNat_lt
          have HN0 := Lib.hid (show cs[p.1.toNat]? = some (.slice none 0 0) from hnil)
          have HCT := Lib.hid hct
          clear c0 c1 e hct hnil hlook
          obtain ⟨pk, pv⟩ := p
          simp only at *
          obtain ⟨K, hK⟩ : ∃ K : ByteArray, K = ⟨#[pk]⟩ := ⟨_, rfl⟩
          rw [← hK] at d0
          have hk0 : ∀ h : 0 < K.size, K[0]'h = pk := by subst hK; intro h; rfl
          have hks : K.size = 1 := by subst hK; rfl
          have hkz : 0 < K.size := by omega
          have hEq := eqnil
          have hC1 := conv_one pk
          have hC2 := conv_str pv
          have hbkl2 : bk < wr.heap.size := (Array.getElem?_eq_some_iff.1 hcs).1
          have hCS := Lib.hid hcs
          have hdl : (M.drop (k + 1)).length ≤ 100 := by rw [List.length_drop, HM.out]; omega
          generalize hDL : (M.drop (k + 1)).length = DL at *
          generalize hXS : ((M.drop (k + 1)).reverse.map fun p => Value.string ⟨#[p.1]⟩) = XS at *
          have HDL := Lib.hid hDL
          have HXS := Lib.hid hXS
          have hnw := cell_one_new (wr.alloc (.cells #[.int .u8 (pk.toNat : Int)] TU)) (.string ⟨#[pk]⟩) 9
          have HNW := Lib.hid (show ∀ jj u, [Value.string ⟨#[pk]⟩][jj]? = some u → ((wr.alloc (.cells #[.int .u8 (pk.toNat : Int)] TU)).alloc (.cells #[.string ⟨#[pk]⟩] 9)).cell? ((⟨wr.heap.size + 1, 0, none⟩ : Addr).add jj) = some u from by simpa using hnw)
          have HOW := Lib.hid hrow
          have HCA := Lib.hid (show ∀ o o', ((wr.alloc o).alloc o').heap[bk]? = some (.cells cs TBS (0, 0)) from fun o o' => (heap_alloc_old _ o' (by simp; omega)).trans ((heap_alloc_old _ o hbkl2).trans hcs))
          clear hnw
          clear hK hcs hDL hXS
          go_wp2_with (at_builtin; refine wpList_append_own_at _ rfl _ _ 39 rfl w.heap.size 9 i0 (.string ⟨#[]⟩) 1 16 Tryz.underlying39 hi hz0 hz1 hz2 rfl (by decide) (.slice ao DL tc) DL XS rfl ((hrow.alloc _).alloc _) ⟨wr.heap.size + 1, 0, none⟩ 1 1 [.string ⟨#[pk]⟩] rfl rfl HNW.out (by intro u hu; simp at hu; subst hu; rfl) (by unfold maxLen; omega) (by omega) (by have := hbw.size; simp; omega) ?_; intro v' w3 hown' hgrow hnil hloc; have hcs3 := grown_heap hgrow ((HOW.out.alloc _).alloc _) (HCA.out _ _); have q1 := (cell_of hcs3 256).trans ht; have q2 := frozen_of hcs3 256; obtain ⟨ao', tc', rfl⟩ := own_slice hown'; have hcs4 := setCell_heap hcs3 256 (.slice ao' (DL + 1) tc'); have q3 := (bw_cell hcs4 TU pv pk.toNat).trans ((Array.getElem?_setIfInBounds_ne (by omega)).trans HN0.out); have q4 := bw_frozen hcs4 TU pv pk.toNat; have H3 := Lib.hid hown'; have HG := Lib.hid hgrow; have HC3 := Lib.hid hcs3; have HC4 := Lib.hid hcs4; clear hown' hgrow hnil hloc hcs3 hcs4)
          go_roundw
          case rel =>
            refine ⟨k, rfl, by omega, ?_, ?_⟩
            · have hw3 : Below w.heap.size w w3 := Below.grown ((hbw.alloc hbw.size _).alloc (by have := hbw.size; simp; omega) _) HG.out (by have := hbw.size; simp; omega) (fun k hk => (HOW.out.lt k hk).1)
              exact bw_below (hw3.setCell (p := ⟨bk, 256, none⟩) hbk0 _) (by have := hw3.size; simpa [World.setCell] using this) hbk0 _ _ _
            · have hD : M.drop k = (pk, pv) :: M.drop (k + 1) := by
                have hk2 := (List.getElem?_eq_some_iff.1 hp)
                rw [List.drop_eq_getElem_cons hk2.1, hk2.2]
              show Bst _ _ _ _
              rw [hD]
              refine bst_step hbk0 HC3.out hcz (fun b => (HCT.out b).kept ?_) ?_ _
              · intro k2 c fz hk2
                rw [HG.out.block k2 (by have := (Array.getElem?_eq_some_iff.1 hk2).1; simp; omega) ?_, heap_alloc_old _ _ (by have := (Array.getElem?_eq_some_iff.1 hk2).1; simp; omega), heap_alloc_old _ _ (Array.getElem?_eq_some_iff.1 hk2).1]
                intro e
                exact Lib.ownBlock_ne HOW.out hk2 (by decide) e.symm
              · rw [HDL.out, HXS.out]
                exact H3.out
          case measure => simp [intOf]; omega
end Go.Proofs.YtmjdjpelhhibgaaGreatDoor.Rep
