/- The walk of RefsRoom. -/
import Derived.Test.YtiddhaakbcnbiaaRfFive
import Derived.Deep.RegionHeld3
import Derived.Deep.AppendLies
import Derived.Deep.RegionLaw
namespace Go.Proofs.Ytiddhaakbcnbiaa.Rf
open Go.RowKit
set_option linter.unusedVariables false
def zs (n : Nat) : Array Value := madeCells #[.int .u8 0] (n * 1)
def zeroS (n : Nat) : ByteArray := (List.replicate n (0 : Int)).foldl (fun r n => r.push (UInt8.ofNat n.toNat)) ByteArray.empty
theorem fold_size : ∀ (l : List Int) (s : ByteArray), (l.foldl (fun r n => r.push (UInt8.ofNat n.toNat)) s).size = s.size + l.length
  | [], s => by simp
  | x :: l, s => by
    rw [List.foldl_cons, fold_size l]
    have : (s.push (UInt8.ofNat x.toNat)).size = s.size + 1 := by show (s.data.push _).size = _; rw [Array.size_push]; rfl
    rw [this, List.length_cons]; omega
theorem zeroS_size (n : Nat) : (zeroS n).size = n := by
  unfold zeroS
  rw [fold_size]
  simp
theorem info5 : (Try.prog.info? 5).map (fun i => (i.zero, i.size, i.bytes)) = some (some (.int .u8 0), 1, 1) := by kernel_rfl
theorem make_eq (n : Nat) (hn : n ≤ 100) (W : World) : (Instr.makeSlice 43 (.int .u64 (n : Int)) (.int .u64 (n : Int))).run Try.prog W = .ok (.slice (some ⟨W.heap.size, 0, none⟩) n n) (W.alloc (.cells (zs n) 5)) := by
  obtain ⟨i, hi, hz0, hz1, hz2⟩ := info_parts info5
  have h := run_make (P := Try.prog) W 43 5 i (.int .u8 0) Try.underlying43 hi hz0 .u64 .u64 n n (by omega) (by omega) (by rw [hz2]; omega) (by omega)
  rw [hz1] at h
  simpa [zs, Value.cells] using h
theorem zs_get (n i : Nat) (h : i < n) : (zs n)[i]? = some (.int .u8 0) := by
  simp [zs, madeCells, h, Nat.mod_one]
theorem conv_eq (n b : Nat) (W : World) (h : W.heap[b]? = some (.cells (zs n) 5)) : (convert 43 9 (.slice (some ⟨b, 0, none⟩) n n)).run Try.prog W = .ok (.string (zeroS n)) W := by
  rw [run_convert_bytes_string W _ _ _ _ _ _ Try.underlying43 Try.underlying5 Try.underlying9]
  have hl : (loadCells (⟨b, 0, none⟩ : Addr) n).run Try.prog W = .ok ((List.replicate n (0 : Int)).map (Value.int .u8)).toArray W := by
    have hc := run_loadCells (P := Try.prog) W ⟨b, 0, none⟩ n (fun _ => .int .u8 0) (fun j hj => by
      have ha : (⟨b, 0, none⟩ : Addr).add j = ⟨b, j, none⟩ := by unfold Addr.add; split <;> simp_all
      rw [ha, cell_of h]
      exact zs_get n j hj)
    rw [hc]
    congr 2
    simp
    rw [List.map_const', List.length_range]
  exact run_bytesToString W _ n n _ hl
def cnt (z : List Int) (i : Nat) : Nat := ((IntKind.u64.wrap (z.getD i 0)).tmod 31).toNat
theorem cnt_eq (z : List Int) (i : Nat) : (IntKind.u64.wrap (z.getD i 0)).tmod 31 = (cnt z i : Int) ∧ cnt z i ≤ 30 := by
  have hw : 0 ≤ IntKind.u64.wrap (z.getD i 0) := by unfold IntKind.wrap; simp [IntKind.bits, IntKind.signed]; omega
  have h0 : 0 ≤ Int.tmod (IntKind.u64.wrap (z.getD i 0)) 31 := Int.tmod_nonneg _ hw
  have h1 : Int.tmod (IntKind.u64.wrap (z.getD i 0)) 31 < 31 := Int.tmod_lt_of_pos _ (by omega)
  unfold cnt
  omega
def entsR (z : List Int) (n : Nat) : List Ent := (List.range n).map fun i => ⟨nmE i, zeroS (cnt z i), false⟩
def RoomR (w : World) (z : List Int) (j : Nat) (wr : World) : Prop :=
  Below w.heap.size w wr ∧ ∃ v, wr.heap[w.heap.size]? = some (.cells #[.string ⟨#[]⟩, v, .slice none 0 0] 30 (0, 0)) ∧ wr.ownsRow (w.heap.size + 1) 25 3 v j (cellsE (entsR z j)) ∧ w.heap.size + 1 ≤ wr.heap.size
theorem room_start (w : World) (z : List Int) : RoomR w z 0 (w.alloc (.cells #[.string ⟨#[]⟩, .slice none 0 0, .slice none 0 0] 30)) :=
  ⟨(Below.refl _ _).alloc (Nat.le_refl _) _, _, heap_alloc_new _ _, World.ownsRow_nil _ _ _ _, by simp⟩
theorem slice_eq (j : Nat) (h : j < 20) (W : World) : (Instr.slice 9 (.string ⟨#[97, 98, 99, 100, 101, 102, 103, 104, 105, 106, 107, 108, 109, 110, 111, 112, 113, 114, 115, 116]⟩) (some (.int .i64 (j : Int))) (some (.int .i64 ((j : Int) + 1))) none).run Try.prog W = .ok (.string (nmE j)) W := by
  have h1 : (0 : Int) ≤ (j : Int) + 1 := by omega
  have h2 : (j : Int) + 1 ≤ 20 := by omega
  have h3 : ((j : Int) + 1).toNat = j + 1 := by omega
  have h5 : (0 : Int) ≤ (j : Int) := by omega
  have h4 : (j : Int) ≤ ((j + 1 : Nat) : Int) := by omega
  have hsz : ByteArray.size ⟨#[97, 98, 99, 100, 101, 102, 103, 104, 105, 106, 107, 108, 109, 110, 111, 112, 113, 114, 115, 116]⟩ = 20 := rfl
  simp only [Instr.slice, Instr.sliceBounds, Instr.sliceBound, asIntOf, Sem.run_bind, run_underlying Try.underlying9, Result.andThen, hsz]
  simp [h1, h2, h3, nmE, abc]
theorem room_kept {w wr w1 : World} {z : List Int} {j gg cap : Nat} {v : Value} {o1 o2 : Obj} (hR : RoomR w z j wr) (hd : wr.heap[w.heap.size]? = some (.cells #[.string ⟨#[]⟩, v, .slice none 0 0] 30 (0, 0)))
    (hown : wr.ownsRow (w.heap.size + 1) 25 3 v j (cellsE (entsR z j))) (hgrow : (((wr.alloc o1).alloc o2).drew).grownBy w1 v.ownBlock)
    (hown1 : w1.ownsRow (w.heap.size + 1) 25 3 (.slice (some ⟨gg, 0, none⟩) (j + 1) cap) (j + 1) (cellsE (entsR z j) ++ [.string (nmE j), .string (zeroS (cnt z j)), .bool false])) (hat : v.ownBlock = some gg ∨ gg = wr.heap.size + 2) :
    w1.cell? ⟨w.heap.size, 1, none⟩ = some v ∧ w1.frozen? ⟨w.heap.size, 1, none⟩ = false ∧ w.heap.size < w1.heap.size ∧ RoomR w z (j + 1) (w1.setCell ⟨w.heap.size, 1, none⟩ (.slice (some ⟨gg, 0, none⟩) (j + 1) cap)) := by
  have hs := hgrow.size
  have hlt := (Array.getElem?_eq_some_iff.1 hd).1
  have hne : some w.heap.size ≠ v.ownBlock := fun e => by have := (hown.lt _ e.symm).1; omega
  have e1 : ∀ k, k < wr.heap.size → some k ≠ v.ownBlock → w1.heap[k]? = wr.heap[k]? := fun k hk hn =>
    (hgrow.block k (by show k < ((wr.heap.push o1).push o2).size; simp; omega) hn).trans (by
      show ((wr.alloc o1).alloc o2).heap[k]? = _
      rw [heap_alloc_old _ _ (by simp; omega), heap_alloc_old _ _ hk])
  have hd1 := (e1 _ hlt hne).trans hd
  have hs2 : wr.heap.size + 2 ≤ w1.heap.size := by
    have : (((wr.alloc o1).alloc o2).drew).heap.size = wr.heap.size + 2 := by show ((wr.heap.push o1).push o2).size = _; simp
    omega
  have hgg : gg ≠ w.heap.size := by
    rcases hat with h | h
    · have := (hown.lt _ h).1; omega
    · omega
  refine ⟨cell_of hd1 1, frozen_of hd1 1, by omega, ?_, .slice (some ⟨gg, 0, none⟩) (j + 1) cap, ?_, ?_, ?_⟩
  · refine ⟨hgrow.os.trans hR.1.os, hgrow.tape.trans hR.1.tape, hgrow.output.trans hR.1.output, by simp [World.setCell]; omega, fun k hk => ?_⟩
    rw [Below.heap_setCell _ _ _ _ (by simp; omega), e1 k (by have := hR.1.size; omega) (fun e => by have := (hown.lt _ e.symm).1; omega)]
    exact hR.1.block k hk
  · simp only [World.setCell, Array.getElem?_modify, hd1]
    simp
  · have h3 : cellsE (entsR z (j + 1)) = cellsE (entsR z j) ++ [.string (nmE j), .string (zeroS (cnt z j)), .bool false] := by simp [cellsE, entsR, List.range_succ]
    rw [h3]
    exact ownsRow_setCell_below hown1 (by simp) _
  · simp [World.setCell]; omega
theorem entsR_getD (z : List Int) (n i : Nat) (h : i < n) : (entsR z n).getD i ⟨⟨#[]⟩, ⟨#[]⟩, false⟩ = ⟨nmE i, zeroS (cnt z i), false⟩ := by simp [entsR, List.getD, h]
theorem rowR_of {w : World} {B n : Nat} {v : Value} {z : List Int} (h : w.ownsRow B 25 3 v n (cellsE (entsR z n))) : ∃ A cap, v = .slice A n cap ∧ RowE w A (entsR z n) := by
  cases n with
  | zero =>
    rcases h.2 with ⟨rfl, _⟩ | ⟨g, cap, cur, rfl, _⟩
    · exact ⟨none, 0, rfl, fun i hi => by simp [entsR] at hi⟩
    · exact ⟨_, _, rfl, fun i hi => by simp [entsR] at hi⟩
  | succ n =>
    obtain ⟨g, cap, rfl, _, hr⟩ := rowE_of_own h (by omega)
    exact ⟨_, _, rfl, hr⟩
theorem rowR_cells {w : World} {B n cap : Nat} {A : Option Addr} {z : List Int} (h : w.ownsRow B 25 3 (.slice A n cap) n (cellsE (entsR z n))) :
    ∀ i, i < n → ∃ b, A = some ⟨b, 0, none⟩ ∧ b < w.heap.size ∧ w.cell? ⟨b, i * 3, none⟩ = some (.string (nmE i)) ∧ w.cell? ⟨b, i * 3 + 1, none⟩ = some (.string (zeroS (cnt z i))) := by
  intro i hi
  rcases h.2 with ⟨_, h2⟩ | ⟨g, cap', cur, hv, _, h3, _⟩
  · omega
  · simp only [Value.slice.injEq] at hv
    obtain ⟨rfl, _, rfl⟩ := hv
    have hc := h.cells (g := g) rfl
    have ha : ∀ k, (⟨g, 0, none⟩ : Addr).add k = ⟨g, k, none⟩ := by intro k; unfold Addr.add; split <;> simp_all
    have hl : i < (entsR z n).length := by simpa [entsR] using hi
    refine ⟨g, rfl, (Array.getElem?_eq_some_iff.1 h3).1, ?_, ?_⟩
    · have := hc (i * 3 + 0) _ (cellsE_at _ i 0 hl (by omega)); rw [ha, entsR_getD z n i hi] at this; simpa using this
    · have := hc (i * 3 + 1) _ (cellsE_at _ i 1 hl (by omega)); rw [ha, entsR_getD z n i hi] at this; simpa using this
theorem nm_ne : ((List.range 20).all fun i => (List.range 20).all fun k => (decide (nmE i = nmE k) == decide (i = k)) && !(fiveR (nmE i)).2) = true := by decide +kernel
theorem nm_inj {i k : Nat} (hi : i < 20) (hk : k < 20) : (nmE i = nmE k ↔ i = k) ∧ (fiveR (nmE i)).2 = false := by
  have h := List.all_eq_true.1 (List.all_eq_true.1 nm_ne i (by simpa using hi)) k (by simpa using hk)
  simp only [Bool.and_eq_true, beq_iff_eq, Bool.not_eq_true', decide_eq_decide] at h
  exact h
theorem fndR (z : List Int) (i : Nat) (hi : i < 20) : ∀ n, n ≤ 20 → fnd (nmE i) (entsR z n) = if i < n then some ⟨nmE i, zeroS (cnt z i), false⟩ else none
  | 0, _ => by simp [entsR, fnd]
  | n + 1, hn => by
    have e : entsR z (n + 1) = entsR z n ++ [⟨nmE n, zeroS (cnt z n), false⟩] := by simp [entsR, List.range_succ]
    rw [e, fnd_app, fndR z i hi n (by omega)]
    by_cases h1 : i < n
    · rw [if_pos h1, if_pos (show i < n + 1 by omega)]
    · rw [if_neg h1]
      by_cases h2 : i = n
      · subst h2; simp
      · rw [if_neg (fun e => h2 ((nm_inj (by omega) (by omega)).1.1 e).symm), if_neg (by omega)]
theorem entRR (z : List Int) (n i : Nat) (hi : i < n) (hn : n ≤ 20) : entR (entsR z n) (nmE i) = (nmE i, zeroS (cnt z i), false, 0) := by
  unfold entR
  rw [fndR z i (by omega) n hn, if_pos hi]
  rfl
theorem openRR (z : List Int) (n i s M : Nat) (hi : i < n) (hn : n ≤ 20) (hs : s ≤ M) :
    openS (entsR z n) [] (s : Int) (nmE i) (M : Int) = if s + cnt z i ≤ M then ((zeroS (cnt z i), 0), ([nmE i], ((s + cnt z i : Nat) : Int))) else ((⟨#[]⟩, 3), ([], (s : Int))) := by
  have h5 := (nm_inj (i := i) (k := i) (by omega) (by omega)).2
  have hc : openC (entsR z n) [] (s : Int) (nmE i) (M : Int) = if s + cnt z i ≤ M then 0 else 3 := by
    unfold openC
    rw [h5, entRR z n i hi hn]
    simp only [Bool.false_eq_true, if_false, memB, List.any_nil, zeroS_size, ne_eq, not_true_eq_false]
    by_cases h : s + cnt z i ≤ M
    · rw [if_pos h, if_pos]
      unfold spendOk; simp; omega
    · rw [if_neg h, if_neg]
      unfold spendOk; simp; omega
  unfold openS
  rw [hc, entRR z n i hi hn]
  by_cases h : s + cnt z i ≤ M
  · rw [if_pos h, if_pos rfl, if_pos h]; simp [zeroS_size]
  · rw [if_neg h, if_neg (by decide), if_neg h]
set_option maxRecDepth 100000 in
set_option maxHeartbeats 4000000 in
theorem room_walk (a0 : Option Addr) (len0 cap0 : Nat) (z : List Int) (most : Int) (w : World)
    (w0 : (a0 = none ∧ len0 = 0 ∧ cap0 = 0 ∧ z = []) ∨ ∃ x, a0 = some x ∧ len0 ≤ cap0 ∧ cap0 ≤ maxLen ∧ z.length = cap0 ∧ (∀ i, i < z.length → w.cell? (x.add i) = some (.int .i64 (z.getD i 0))) ∧ ∀ n ∈ z, (Lit.int .i64 n).wf = true) (y0 : len0 * 8 ≤ 140737488351232) (w1 : (Lit.int .i64 most).wf = true) :
    Calls Try.prog 5 #[.slice a0 len0 cap0, .int .i64 most] w fun e w' => e = .returned (.bool true) ∧ Below w.heap.size w w' := by
  have hcl : ∀ i, i < len0 → ∃ b o, a0 = some ⟨b, o, none⟩ ∧ b < w.heap.size ∧ w.cell? ⟨b, o + i, none⟩ = some (.int .i64 (z.getD i 0)) := by
    intro i hi
    rcases w0 with ⟨_, h, _, _⟩ | ⟨x, rfl, h1, h2, h3, h4, _⟩
    · omega
    · have hc := h4 i (by omega)
      have hc0 := h4 0 (by omega)
      have hsp : x.spot = none := by
        rw [show x.add 0 = x by simp [Addr.add]] at hc0
        unfold World.cell? at hc0
        cases hs : x.spot with
        | none => rfl
        | some q =>
          rw [hs] at hc0
          split at hc0 <;> simp at hc0
      obtain ⟨b, o, s⟩ := x
      simp only at hsp
      subst hsp
      have ha : (⟨b, o, none⟩ : Addr).add i = ⟨b, o + i, none⟩ := by unfold Addr.add; split <;> simp_all
      rw [ha] at hc
      exact ⟨b, o, rfl, World.block_lt_of_cell? w _ hc, hc⟩
  obtain ⟨M, hM, hM2⟩ : ∃ M : Nat, wrap64 ((IntKind.u64.wrap most).tmod 401) = (M : Int) ∧ M ≤ 400 := by
    have hw : 0 ≤ IntKind.u64.wrap most := by unfold IntKind.wrap; simp [IntKind.bits, IntKind.signed]; omega
    have h0 : 0 ≤ Int.tmod (IntKind.u64.wrap most) 401 := Int.tmod_nonneg _ hw
    have h1 : Int.tmod (IntKind.u64.wrap most) 401 < 401 := Int.tmod_lt_of_pos _ (by omega)
    refine ⟨((IntKind.u64.wrap most).tmod 401).toNat, ?_, by omega⟩
    unfold wrap64
    omega
  clear w0 w1
  obtain ⟨i0, hi, hz0, hz1, hz2⟩ := info_parts infoE
  have hl0 : len0 ≤ 140737488351232 := by omega
  clear y0
  go_enter Try.func5, Try.ntmps5
  go_wp2_with fail
  generalize wrap64 ((IntKind.u64.wrap most).tmod 401) = MI at hM ⊢
  subst hM
  generalize (IntKind.u64.wrap most).tmod 401 = z1
  go_loopw [7] (fun x wr => ∃ j : Nat, j ≤ len0 ∧ j ≤ 20 ∧ x = .int .i64 j ∧ Hid (RoomR w z j wr)) (fun x _ => len0 - (intOf x).toNat)
  case atStart => exact ⟨0, by omega, by omega, rfl, room_start w z⟩
  case round =>
    obtain ⟨j, hj, hj20, rfl, hR⟩ := hrel
    by_cases hlt : j < len0 ∧ j < 20
    · obtain ⟨hlt, hlt2⟩ := hlt
      obtain ⟨hB, v, hd, hown, hsz⟩ := hR.out
      obtain ⟨b, o, rfl, hb, hc⟩ := hcl j hlt
      have hcj := (hB.cell (p := ⟨b, o + j, none⟩) hb).trans hc
      obtain ⟨hcnt, hcnt2⟩ := cnt_eq z j
      obtain ⟨n, hn⟩ : ∃ n, cnt z j = n := ⟨_, rfl⟩
      rw [hn] at hcnt hcnt2
      have hkeep := fun v o1 o2 gg cap w1 => @room_kept w wr w1 z j gg cap v o1 o2
      rw [hn] at hkeep
      have HK := Lib.hid hkeep
      clear hkeep hn
      have d1 : wr.cell? ⟨w.heap.size, 1, none⟩ = some v := cell_of hd 1
      have g1 := frozen_of hd 1
      have hbz : b < wr.heap.size := by omega
      have hdz : w.heap.size < wr.heap.size := by omega
      have hmk := make_eq n (by omega)
      generalize z.getD j 0 = q at hcj hcnt hc
      clear hc hB hcl
      have hj0 : (0 : Int) ≤ (j : Int) := by omega
      have hj1 : (j : Int) < (len0 : Int) := by omega
      have hcv : (convert 43 9 (.slice (some ⟨wr.heap.size, 0, none⟩) n n)).run Try.prog ((wr.alloc (.cells (zs n) 5)).drew) = .ok (.string (zeroS n)) ((wr.alloc (.cells (zs n) 5)).drew) := conv_eq n _ _ (heap_alloc_new _ _)
      have hcv2 : (convert 43 9 (.slice (some ⟨wr.heap.size, 0, none⟩) n n)).run Try.prog (wr.drew.alloc (.cells (zs n) 5)) = .ok (.string (zeroS n)) (wr.drew.alloc (.cells (zs n) 5)) := conv_eq n _ _ (heap_alloc_new _ _)
      have hcv3 : (convert 43 9 (.slice (some ⟨wr.heap.size, 0, none⟩) n n)).run Try.prog (wr.alloc (.cells (zs n) 5)) = .ok (.string (zeroS n)) (wr.alloc (.cells (zs n) 5)) := conv_eq n _ _ (heap_alloc_new _ _)
      go_wp2_with fail
      have hs1 : IntKind.i64.wrap ((j : Int) + 1) = (j : Int) + 1 := IntWalk.i64_in _ (by omega)
      have hs2 : ((j : Int) + 1).toNat = j + 1 := by omega
      have hs3 : (0 : Int) ≤ (j : Int) + 1 := by omega
      have hs4 : (j : Int) + 1 ≤ 20 := by omega
      have hsl := slice_eq j hlt2
      go_region_law ((refine step_append_lies _ (by rfl) _ _ _ (by rfl) (w.heap.size + 1) 25 i0 _ 3 40 Try.underlying23 hi hz0 hz1 hz2 rfl (by omega) v j (cellsE (entsR z j)) (by rfl) (((hown.alloc _).alloc _).drew) ⟨wr.heap.size + 1, 0, none⟩ 1 1 [.string (nmE j), .string (zeroS n), .bool false] (by rfl) (by rfl) (by have h_ := cells_block (wr.alloc (.cells (zs n) 5)) #[.string (nmE j), .string (zeroS n), .bool false] 25; simpa using h_) (by intro u hu; simp at hu; rcases hu with rfl | rfl | rfl <;> rfl) (by omega) (by unfold maxLen; omega) (by omega) (by simp; omega) (wr.heap.size + 2) (by simp) ?_; intro gg cap w1 hown1 hgrow hat hlt3; obtain ⟨d2, g2, hdz2, hR2⟩ := HK.out _ _ _ _ _ _ hR.out hd hown hgrow hown1 hat; have HR2 := Lib.hid hR2; clear hR2 hown1 hgrow hat))
      all_goals
        clear hcv hcv2 hcv3 hs1 hs2 hs3 hs4 hsl hmk hcnt hcj d1 g1 d2 g2 hd hown HK hi hz0 hz1 hz2
        go_wp2_with fail
        go_roundw
        case rel => exact ⟨j + 1, by omega, by omega, by go_num, HR2⟩
        case measure => simp [intOf]; omega
    · have hstop : ¬ (j < len0 ∧ j < 20) := hlt
      obtain ⟨hB, v, hd, hown, hsz⟩ := hR.out
      have hE := rowR_of hown
      obtain ⟨A, cap, rfl, hrow⟩ := hE
      have d0 : wr.cell? ⟨w.heap.size, 0, none⟩ = some (.string ⟨#[]⟩) := cell_of hd 0
      have d1 : wr.cell? ⟨w.heap.size, 1, none⟩ = some (.slice A j cap) := cell_of hd 1
      have d2 : wr.cell? ⟨w.heap.size, 2, none⟩ = some (.slice none 0 0) := cell_of hd 2
      have hdz : w.heap.size < wr.heap.size := by omega
      have hAl : ∀ i, i < j → ∃ b, A = some ⟨b, 0, none⟩ ∧ b < wr.heap.size ∧ wr.cell? ⟨b, i * 3, none⟩ = some (.string (nmE i)) ∧ wr.cell? ⟨b, i * 3 + 1, none⟩ = some (.string (zeroS (cnt z i))) := rowR_cells hown
      clear hd hown hR hcl hlt hi hz0 hz1 hz2
      have HNEW := new_RS ⟨#[]⟩ A j cap (.slice none 0 0) (entsR z j) wr hrow (by simp [entsR]) (by omega)
      obtain ⟨wo, rfl⟩ : ∃ wo : World, wo = wr := ⟨_, rfl⟩
      by_cases hl : j < len0
      · have h20 : ¬ (j : Int) < 20 := by omega
        go_wp2_with fail
        refine HNEW.mono ?_
        clear HNEW hrow
        rintro e w1 ⟨p, rfl, h1⟩
        go_wp2_with fail
        have h2 : RS wo w1 p (entsR z j) [] ((0 : Nat) : Int) := h1
        clear h1
        go_loopw [9, 10] (fun y x wz => ∃ i s : Nat, i ≤ j ∧ s ≤ M ∧ y = .int .i64 s ∧ x = .int .i64 i ∧ RS wo wz p (entsR z j) [] (s : Int)) (fun _ x _ => j - (intOf x).toNat)
        case atStart => exact ⟨0, 0, by omega, by omega, rfl, rfl, h2⟩
        case round =>
          obtain ⟨i, s, hij, hsM, rfl, rfl, hS⟩ := hrel
          clear h2
          have hb := hS.bel
          have e1 := (hb.cell (p := ⟨w.heap.size, 1, none⟩) hdz).trans d1
          have hdz2 : w.heap.size < wr.heap.size := Nat.lt_of_lt_of_le hdz hb.size
          by_cases hlt : i < j
          · obtain ⟨b, rfl, hbl, hc0, hc1⟩ := hAl i hlt
            have c0 := (hb.cell (p := ⟨b, i * 3, none⟩) hbl).trans hc0
            have c1 := (hb.cell (p := ⟨b, i * 3 + 1, none⟩) hbl).trans hc1
            have hbz : b < wr.heap.size := Nat.lt_of_lt_of_le hbl hb.size
            have hO := openRR z j i s M hlt (by omega) hsM
            have hsz := zeroS_size (cnt z i)
            have hent := entRR z j i hlt (by omega)
            have hcn := (cnt_eq z i).2
            have hE1 : (entR (entsR z j) (nmE i)).2.1.size ≤ 4611686018427387904 := by rw [hent]; simp only; omega
            clear hent hAl
            by_cases hfit : s + cnt z i ≤ M
            · rw [if_pos hfit] at hO
              have HO := hS.opens (nmE i) (M : Int) (by simp) (by omega) (by omega) (by omega) (by omega) hE1 _ _ _ _ hO
              have HC := fun W (h : RS wo W p (entsR z j) [nmE i] ((s + cnt z i : Nat) : Int)) => h.closes (nmE i) (by simp) true [] (by simp [closeS])
              generalize zeroS (cnt z i) = Z at hsz c1 HO
              generalize nmE i = nm at c0 HO HC hc0
              generalize cnt z i = n at hsz hfit HO HC hcn hc1
              subst hsz
              have hcb0 := Lib.hid hc0
              clear hO hE1 hc0 hc1
              go_wp2_with fail
              refine HO.mono ?_
              clear HO hb e1 c0 c1 hdz2 hbz
              rintro e w2 ⟨rfl, hS2⟩
              have hb := hS2.bel
              have e1 := (hb.cell (p := ⟨w.heap.size, 1, none⟩) hdz).trans d1
              have hdz2 : w.heap.size < w2.heap.size := Nat.lt_of_lt_of_le hdz hb.size
              have hbz : b < w2.heap.size := Nat.lt_of_lt_of_le hbl hb.size
              have c0 := (hb.cell (p := ⟨b, i * 3, none⟩) hbl).trans hcb0.out
              go_wp2_with fail
              refine (HC _ hS2).mono ?_
              clear HC
              rintro e w3 ⟨rfl, hS3⟩
              go_wp2_with fail
              refine hS3.spent.mono ?_
              rintro e w4 ⟨rfl, rfl⟩
              go_wp2_with fail
              go_roundw
              case rel => exact ⟨i + 1, s + Z.size, by omega, hfit, by go_num, by go_num, hS3⟩
              case measure => simp [intOf]; omega
            · rw [if_neg hfit] at hO
              have HO := hS.opens (nmE i) (M : Int) (by simp) (by omega) (by omega) (by omega) (by omega) hE1 _ _ _ _ hO
              generalize zeroS (cnt z i) = Z at hsz c1 HO
              generalize nmE i = nm at c0 HO hc0
              generalize cnt z i = n at hsz hfit HO hcn hc1
              subst hsz
              clear hO hE1 hc0 hc1
              go_wp2_with fail
              refine HO.mono ?_
              clear HO hb e1 c0 c1 hdz2 hbz
              rintro e w2 ⟨rfl, hS2⟩
              go_wp2_with fail
              refine hS2.spent.mono ?_
              rintro e w4 ⟨rfl, rfl⟩
              go_wp2_with fail
              go_roundw
              case rel => exact ⟨i + 1, s, by omega, hsM, rfl, by go_num, hS2⟩
              case measure => simp [intOf]; omega
          · obtain rfl : i = j := by omega
            go_wp2_with fail
            refine (told_calls _).mono ?_
            rintro e w2 ⟨rfl, hb2⟩
            replace hS := hS.below hb2
            clear hb2 hb e1 hdz2
            go_wp2_with fail
            refine hS.depth.mono ?_
            rintro e w3 ⟨rfl, rfl⟩
            have H1 := hS.spends ((M : Int) - (s : Int)) (M : Int) (by omega) (by omega) (by omega) (by omega) (by omega) (by omega) 0 ((M : Nat) : Int) (by rw [if_pos (by unfold spendOk; simp; omega)]; simp; omega)
            go_wp2_with fail
            refine H1.mono ?_
            clear H1 hS
            rintro e w3 ⟨rfl, hS⟩
            go_wp2_with fail
            refine hS.spent.mono ?_
            rintro e w4 ⟨rfl, rfl⟩
            go_wp2_with fail
            refine (hS.spends 1 (M : Int) (by omega) (by omega) (by omega) (by omega) (by omega) (by omega) 3 ((M : Nat) : Int) (by rw [if_neg (by unfold spendOk; simp; omega)])).mono ?_
            rintro e w4 ⟨rfl, hS4⟩
            go_wp2_with fail
            go_ret
            exact ⟨rfl, hB.trans (hS4.bel.mono hB.size)⟩
      · have h20 : j = len0 := by omega
        have HL0 := Lib.hid h20
        clear h20 hstop
        go_wp2_with fail
        refine HNEW.mono ?_
        clear HNEW hrow
        rintro e w1 ⟨p, rfl, h1⟩
        go_wp2_with fail
        have h2 : RS wo w1 p (entsR z j) [] ((0 : Nat) : Int) := h1
        clear h1
        go_loopw [9, 10] (fun y x wz => ∃ i s : Nat, i ≤ j ∧ s ≤ M ∧ y = .int .i64 s ∧ x = .int .i64 i ∧ RS wo wz p (entsR z j) [] (s : Int)) (fun _ x _ => j - (intOf x).toNat)
        case atStart => exact ⟨0, 0, by omega, by omega, rfl, rfl, h2⟩
        case round =>
          obtain ⟨i, s, hij, hsM, rfl, rfl, hS⟩ := hrel
          clear h2
          have hb := hS.bel
          have e1 := (hb.cell (p := ⟨w.heap.size, 1, none⟩) hdz).trans d1
          have hdz2 : w.heap.size < wr.heap.size := Nat.lt_of_lt_of_le hdz hb.size
          by_cases hlt : i < j
          · obtain ⟨b, rfl, hbl, hc0, hc1⟩ := hAl i hlt
            have c0 := (hb.cell (p := ⟨b, i * 3, none⟩) hbl).trans hc0
            have c1 := (hb.cell (p := ⟨b, i * 3 + 1, none⟩) hbl).trans hc1
            have hbz : b < wr.heap.size := Nat.lt_of_lt_of_le hbl hb.size
            have hO := openRR z j i s M hlt (by omega) hsM
            have hsz := zeroS_size (cnt z i)
            have hent := entRR z j i hlt (by omega)
            have hcn := (cnt_eq z i).2
            have hE1 : (entR (entsR z j) (nmE i)).2.1.size ≤ 4611686018427387904 := by rw [hent]; simp only; omega
            clear hent hAl
            by_cases hfit : s + cnt z i ≤ M
            · rw [if_pos hfit] at hO
              have HO := hS.opens (nmE i) (M : Int) (by simp) (by omega) (by omega) (by omega) (by omega) hE1 _ _ _ _ hO
              have HC := fun W (h : RS wo W p (entsR z j) [nmE i] ((s + cnt z i : Nat) : Int)) => h.closes (nmE i) (by simp) true [] (by simp [closeS])
              generalize zeroS (cnt z i) = Z at hsz c1 HO
              generalize nmE i = nm at c0 HO HC hc0
              generalize cnt z i = n at hsz hfit HO HC hcn hc1
              subst hsz
              have hcb0 := Lib.hid hc0
              clear hO hE1 hc0 hc1
              go_wp2_with fail
              refine HO.mono ?_
              clear HO hb e1 c0 c1 hdz2 hbz
              rintro e w2 ⟨rfl, hS2⟩
              have hb := hS2.bel
              have e1 := (hb.cell (p := ⟨w.heap.size, 1, none⟩) hdz).trans d1
              have hdz2 : w.heap.size < w2.heap.size := Nat.lt_of_lt_of_le hdz hb.size
              have hbz : b < w2.heap.size := Nat.lt_of_lt_of_le hbl hb.size
              have c0 := (hb.cell (p := ⟨b, i * 3, none⟩) hbl).trans hcb0.out
              go_wp2_with fail
              refine (HC _ hS2).mono ?_
              clear HC
              rintro e w3 ⟨rfl, hS3⟩
              go_wp2_with fail
              refine hS3.spent.mono ?_
              rintro e w4 ⟨rfl, rfl⟩
              go_wp2_with fail
              go_roundw
              case rel => exact ⟨i + 1, s + Z.size, by omega, hfit, by go_num, by go_num, hS3⟩
              case measure => simp [intOf]; omega
            · rw [if_neg hfit] at hO
              have HO := hS.opens (nmE i) (M : Int) (by simp) (by omega) (by omega) (by omega) (by omega) hE1 _ _ _ _ hO
              generalize zeroS (cnt z i) = Z at hsz c1 HO
              generalize nmE i = nm at c0 HO hc0
              generalize cnt z i = n at hsz hfit HO hcn hc1
              subst hsz
              clear hO hE1 hc0 hc1
              go_wp2_with fail
              refine HO.mono ?_
              clear HO hb e1 c0 c1 hdz2 hbz
              rintro e w2 ⟨rfl, hS2⟩
              go_wp2_with fail
              refine hS2.spent.mono ?_
              rintro e w4 ⟨rfl, rfl⟩
              go_wp2_with fail
              go_roundw
              case rel => exact ⟨i + 1, s, by omega, hsM, rfl, by go_num, hS2⟩
              case measure => simp [intOf]; omega
          · obtain rfl : i = j := by omega
            go_wp2_with fail
            refine (told_calls _).mono ?_
            rintro e w2 ⟨rfl, hb2⟩
            replace hS := hS.below hb2
            clear hb2 hb e1 hdz2
            go_wp2_with fail
            refine hS.depth.mono ?_
            rintro e w3 ⟨rfl, rfl⟩
            have H1 := hS.spends ((M : Int) - (s : Int)) (M : Int) (by omega) (by omega) (by omega) (by omega) (by omega) (by omega) 0 ((M : Nat) : Int) (by rw [if_pos (by unfold spendOk; simp; omega)]; simp; omega)
            go_wp2_with fail
            refine H1.mono ?_
            clear H1 hS
            rintro e w3 ⟨rfl, hS⟩
            go_wp2_with fail
            refine hS.spent.mono ?_
            rintro e w4 ⟨rfl, rfl⟩
            go_wp2_with fail
            refine (hS.spends 1 (M : Int) (by omega) (by omega) (by omega) (by omega) (by omega) (by omega) 3 ((M : Nat) : Int) (by rw [if_neg (by unfold spendOk; simp; omega)])).mono ?_
            rintro e w4 ⟨rfl, hS4⟩
            go_wp2_with fail
            go_ret
            exact ⟨rfl, hB.trans (hS4.bel.mono hB.size)⟩
end Go.Proofs.Ytiddhaakbcnbiaa.Rf
