/- The contracts of the package of namespaces: All. -/
import Derived.Test.YtfohbgcpdpnndaaSc4
import Derived.Test.YtfohbgcpdpnndaaShelf
import Derived.Sort.Grow
namespace Go.Proofs.Ytfohbgcpdpnndaa.Sc
open Go.RowKit Go.Sort Go.Proofs.Ytfohbgcpdpnndaa.Ow
set_option linter.unusedVariables false

abbrev encB : List UInt8 → Value := fun l => Value.string ⟨l.toArray⟩
theorem encB_self (s : ByteArray) : encB s.toList = .string s := by
  show Value.string ⟨s.toList.toArray⟩ = _
  rw [ByteArray.toList_eq]
/-- The row behind a library's call that laid other cells into it. -/
theorem own_putRow {w : World} {B g cap n q : Nat} {T : TypeId} {xs : List Value} {ds : List (List UInt8)} {os : Array Obj} (h : w.ownsRow B T 1 (.slice (some ⟨g, 0, none⟩) n cap) n xs) (hn : ds.length = n) :
    (grow (putRow encStr (Sort.ahead w q) g 0 ds.toArray) os).ownsRow B T 1 (.slice (some ⟨g, 0, none⟩) n cap) n (ds.map encB) ∧
    ∀ k, k < w.heap.size → k ≠ g → (grow (putRow encStr (Sort.ahead w q) g 0 ds.toArray) os).heap[k]? = w.heap[k]? := by
  have hkeep : ∀ k, k < w.heap.size → k ≠ g → (grow (putRow encStr (Sort.ahead w q) g 0 ds.toArray) os).heap[k]? = w.heap[k]? := by
    intro k hk hne
    show ((w.heap.modify g _) ++ os)[k]? = _
    rw [Array.getElem?_append_left (by simpa using hk), Array.getElem?_modify, if_neg (fun e => hne e.symm)]
  refine ⟨⟨by simp [hn], ?_⟩, hkeep⟩
  rcases h.2 with ⟨h1, _⟩ | ⟨g', cap', cur, hv, hB, hg, h3, h4, h5, h6⟩
  · cases h1
  · simp only [Value.slice.injEq, Option.some.injEq, Addr.mk.injEq, and_true, true_and] at hv
    obtain ⟨rfl, rfl⟩ := hv
    refine .inr ⟨g, cap, putCells encStr 0 ds.toArray cur, rfl, hB, ?_, h3, h4, by simp [putCells, h5], ?_⟩
    · show ((w.heap.modify g (onCells (putCells encStr 0 ds.toArray))) ++ os)[g]? = _
      rw [Array.getElem?_append_left (by simpa using (Array.getElem?_eq_some_iff.1 hg).1), Array.getElem?_modify, if_pos rfl, hg]
      rfl
    · apply List.ext_getElem?
      intro i
      by_cases hi : i < n
      · have hc : i < cur.size := by omega
        simp [putCells, hi, hc, hn]
      · simp [List.getElem?_take, hi, hn]
/-! ### what All tells -/
def namesL (l : List At) : List ByteArray := l.map fun a => (declR a).1
def names (lv : List (List At)) : List ByteArray := ⟨xmlL.toArray⟩ :: lv.flatMap namesL
def sortedN (lv : List (List At)) : List (List UInt8) := ((names lv).map ByteArray.toList).mergeSort fun x y => decide (x ≤ y)
def compactN (lv : List (List At)) : List (List UInt8) := Lib.compact (sortedN lv)
abbrev nsS : ByteArray := ⟨nsL.toArray⟩
abbrev xmlnsS : ByteArray := ⟨xmlnsL.toArray⟩
def one (lv : List (List At)) (p : List UInt8) : List At :=
  if ((uriR lv ⟨p.toArray⟩).1.toList == []) = true then [] else if (p == []) = true then [⟨⟨#[]⟩, xmlnsS, nsS, (uriR lv ⟨p.toArray⟩).1⟩] else [⟨xmlnsS, ⟨p.toArray⟩, nsS, (uriR lv ⟨p.toArray⟩).1⟩]
def allR (lv : List (List At)) : List At := (compactN lv).flatMap (one lv)
def countL (lv : List (List At)) : Nat := (lv.map List.length).sum
theorem infoS : (Try.prog.info? 9).map (fun i => (i.zero, i.size, i.bytes)) = some (some (.string ⟨#[]⟩), 1, 16) := by kernel_rfl
def AllR1 (w : World) (lv : List (List At)) (k : Nat) (ex : List ByteArray) (s : Value) (wr : World) : Prop :=
  Below w.heap.size w wr ∧ wr.ownsRow w.heap.size 9 1 s (names (lv.take k) ++ ex).length ((names (lv.take k) ++ ex).map Value.string)
theorem level_at (p : Nat) (v : Value) (lv : List (List At)) (k : Nat) (hk : k < lv.length) (w0 w : World) (h : IsScope w0 p v lv) (hb : RowKit.Below w0.heap.size w0 w) :
    Calls Try.prog 28 #[.pointer (some ⟨p, 0, none⟩), .int .i64 (k : Int)] w fun e w' => ∃ A c, e = .returned (.slice A (lv.getD k []).length c) ∧ CellsAt w0 A (lv.getD k []) ∧ w = w' := by
  have hlt := h.lt
  have c0 : w.cell? ⟨p, 0, none⟩ = some v := (hb.cell (p := ⟨p, 0, none⟩) hlt).trans (cell_of h.cells 0)
  obtain ⟨g, cap, A, c, rfl, hc, hC⟩ := h.level hk
  have hc2 := (hb.cell (p := ⟨g, k, none⟩) (World.block_lt_of_cell? w0 _ hc)).trans hc
  have hass := assert_attrs (.slice A (lv.getD k []).length c)
  have HC := Lib.hid hC
  generalize lv.getD k [] = l at hc2 hass HC ⊢
  generalize lv.length = n at c0 hk
  clear h hC hc hb
  go_enter Try.func28, Try.ntmps28
  go_wp2
  go_ret
  exact ⟨_, _, rfl, HC.out, rfl⟩
theorem names_take {lv : List (List At)} {q : Nat} {l : List At} (hq : q < lv.length) (hl : lv.getD q [] = l) : names (lv.take (q + 1)) = names (lv.take q) ++ namesL l := by
  have : lv.take (q + 1) = lv.take q ++ [l] := by rw [List.take_succ_eq_append_getElem hq, ← hl]; simp [List.getD, hq]
  rw [this]
  simp [names]
theorem names_len (lv : List (List At)) : (names lv).length = countL lv + 1 := by simp [names, countL, namesL, List.length_flatMap]
theorem count_take (lv : List (List At)) (k : Nat) : countL (lv.take k) ≤ countL lv := by
  have h : countL lv = countL (lv.take k) + countL (lv.drop k) := by
    conv => lhs; rw [← List.take_append_drop k lv]
    unfold countL
    rw [List.map_append, List.sum_append]
  omega
theorem count_get {lv : List (List At)} {q : Nat} {l : List At} (hq : q < lv.length) (hl : lv.getD q [] = l) : countL (lv.take q) + l.length ≤ countL lv := by
  have h1 : lv.take (q + 1) = lv.take q ++ [l] := by rw [List.take_succ_eq_append_getElem hq, ← hl]; simp [List.getD, hq]
  have h2 := count_take lv (q + 1)
  rw [h1] at h2
  simpa [countL] using h2
theorem all_start (w : World) (lv : List (List At)) : (w.alloc (.cells #[.string ⟨#[120, 109, 108]⟩] 9)).ownsRow w.heap.size 9 1 (.slice (some ⟨w.heap.size, 0, none⟩) 1 1) (names (lv.take 0) ++ []).length ((names (lv.take 0) ++ []).map Value.string) :=
  ⟨rfl, .inr ⟨w.heap.size, 1, _, rfl, Nat.le_refl _, heap_alloc_new _ _, Nat.le_refl 1, by decide, rfl, rfl⟩⟩
theorem holds_of_own {w : World} {B g cap n : Nat} {T : TypeId} {xs : List Value} (h : w.ownsRow B T 1 (.slice (some ⟨g, 0, none⟩) n cap) n xs) (ss : List ByteArray) (hx : xs = ss.map Value.string) : Holds encStr w g 0 (ss.map ByteArray.toList).toArray := by
  subst hx
  intro j hj
  have hj' : j < ss.length := by simpa using hj
  have hc := h.cells (g := g) rfl j (.string ss[j]) (by simp [hj'])
  have ha : (⟨g, 0, none⟩ : Addr).add j = ⟨g, j, none⟩ := by unfold Addr.add; split <;> simp_all
  rw [ha] at hc
  rw [Nat.zero_add]
  refine ⟨?_, ?_⟩
  · rw [hc]
    simp only [getElem!_pos (ss.map ByteArray.toList).toArray j hj, List.getElem_toArray, List.getElem_map]
    exact congrArg some (encB_self _).symm
  · rcases h.2 with ⟨h1, _⟩ | ⟨g', cap', cur, hv, _, hg, _⟩
    · cases h1
    · simp only [Value.slice.injEq, Option.some.injEq, Addr.mk.injEq, and_true, true_and] at hv
      obtain ⟨rfl, _⟩ := hv
      exact frozen_of hg j
theorem holds_of_ownB {w : World} {B g cap n : Nat} {T : TypeId} {ds : List (List UInt8)} (h : w.ownsRow B T 1 (.slice (some ⟨g, 0, none⟩) n cap) n (ds.map encB)) (hn : ds.length = n) : Holds encStr w g 0 ds.toArray := by
  have := holds_of_own h (ds.map fun l => (⟨l.toArray⟩ : ByteArray)) (by simp)
  have e : (ds.map fun l => (⟨l.toArray⟩ : ByteArray)).map ByteArray.toList = ds := by
    rw [List.map_map]
    conv => rhs; rw [← List.map_id ds]
    apply List.map_congr_left
    intro l _
    show ByteArray.toList ⟨l.toArray⟩ = l
    rw [ByteArray.toList_eq]
  rwa [e] at this
theorem below_putRow {w : World} {B g q : Nat} {ds : List (List UInt8)} {os : Array Obj} (hg : B ≤ g) (hgl : g < w.heap.size) : RowKit.Below B w (grow (putRow encStr (Sort.ahead w q) g 0 ds.toArray) os) := by
  refine ⟨rfl, rfl, rfl, ?_, fun k hk => ?_⟩
  · show w.heap.size ≤ ((w.heap.modify g _) ++ os).size
    simp
  · show ((w.heap.modify g _) ++ os)[k]? = _
    rw [Array.getElem?_append_left (by simp; omega), Array.getElem?_modify, if_neg (by omega)]
theorem own_cap {w : World} {B g cap n : Nat} {T : TypeId} {xs : List Value} (h : w.ownsRow B T 1 (.slice (some ⟨g, 0, none⟩) n cap) n xs) : n ≤ cap := by
  rcases h.2 with ⟨h1, _⟩ | ⟨g', cap', cur, hv, _, hg, h3, _⟩
  · cases h1
  · simp only [Value.slice.injEq] at hv
    obtain ⟨_, _, rfl⟩ := hv
    exact h3
theorem own_take {w : World} {B g cap n : Nat} {T : TypeId} {ds es : List (List UInt8)} (h : w.ownsRow B T 1 (.slice (some ⟨g, 0, none⟩) n cap) n ((ds ++ es).map encB)) (hn : ds.length ≤ n) : w.ownsRow B T 1 (.slice (some ⟨g, 0, none⟩) ds.length cap) ds.length (ds.map encB) := by
  refine ⟨by simp, ?_⟩
  rcases h.2 with ⟨h1, _⟩ | ⟨g', cap', cur, hv, hB, hg, h3, h4, h5, h6⟩
  · cases h1
  · simp only [Value.slice.injEq, Option.some.injEq, Addr.mk.injEq, and_true, true_and] at hv
    obtain ⟨rfl, rfl⟩ := hv
    refine .inr ⟨g, cap, cur, rfl, hB, hg, by omega, h4, h5, ?_⟩
    have := congrArg (List.take (ds.length * 1)) h6
    rw [List.take_take, show min (ds.length * 1) (n * 1) = ds.length * 1 by omega] at this
    rw [this]
    simp
theorem compact_len (l : List (List UInt8)) : (Lib.compact l).length ≤ l.length := by
  unfold Lib.compact Lib.compactUpTo
  rw [List.length_map]
  exact Nat.le_trans (List.length_filter_le _ _) (by simp)
theorem count_mem {lv : List (List At)} {l : List At} (h : l ∈ lv) : l.length ≤ countL lv := by
  induction lv with
  | nil => simp at h
  | cons x lv ih =>
    simp only [countL, List.map_cons, List.sum_cons] at *
    rcases List.mem_cons.1 h with rfl | h
    · omega
    · have := ih h; omega
theorem one_len (lv : List (List At)) (ps : List (List UInt8)) : (ps.flatMap (one lv)).length ≤ ps.length := by
  induction ps with
  | nil => simp
  | cons p ps ih =>
    have : (one lv p).length ≤ 1 := by unfold one; split; simp; split <;> simp
    simp only [List.flatMap_cons, List.length_append, List.length_cons]
    omega
def AllR2 (w : World) (lv : List (List At)) (g cap m k : Nat) (s : Value) (wr : World) : Prop :=
  RowKit.Below w.heap.size w wr ∧ wr.ownsRow w.heap.size 9 1 (.slice (some ⟨g, 0, none⟩) m cap) m ((compactN lv).map encB) ∧
  wr.ownsRow w.heap.size 35 4 s (((compactN lv).take k).flatMap (one lv)).length (cellsA (((compactN lv).take k).flatMap (one lv)))
set_option maxRecDepth 100000 in
set_option maxHeartbeats 4000000 in
theorem all_any (p : Nat) (v : Value) (lv : List (List At)) (w : World) (h : IsScope w p v lv) (hl : lv.length ≤ 1000000) (hc : countL lv ≤ 1000000) :
    Calls Try.prog 11 #[.pointer (some ⟨p, 0, none⟩)] w fun e w' => ∃ s, e = .returned s ∧ w'.ownsRow w.heap.size 35 4 s (allR lv).length (cellsA (allR lv)) ∧ Below w.heap.size w w' := by
  have c0 : w.cell? ⟨p, 0, none⟩ = some v := cell_of h.cells 0
  obtain ⟨A, cap, hv⟩ := h.shape
  rw [hv] at c0
  obtain ⟨n, hn⟩ : ∃ n, lv.length = n := ⟨_, rfl⟩
  rw [hn] at c0 hl
  have HN := Lib.hid hn
  have hp := h.lt
  have HS := Lib.hid h
  clear hn h hv
  obtain ⟨i0, hi, hz0, hz1, hz2⟩ := info_parts infoS
  go_enter Try.func11, Try.ntmps11
  go_wp2_with fail
  have hd0 : (w.alloc (.cells #[.string ⟨#[120, 109, 108]⟩] 9)).cell? ⟨p, 0, none⟩ = some (.slice A n cap) := (World.cell?_of_block (heap_alloc_old _ _ hp)).trans c0
  go_loopw [3, 22] (fun s x wr => ∃ k : Nat, k ≤ n ∧ x = .int .i64 k ∧ Hid (AllR1 w lv k [] s wr)) (fun _ x _ => n - (intOf x).toNat)
  case atStart => exact ⟨0, by omega, rfl, (Below.refl _ _).alloc (Nat.le_refl _) _, all_start w lv⟩
  case round =>
    obtain ⟨k, hk, rfl, hR⟩ := hrel
    clear hd0 c0
    by_cases hlt : k < n
    · have hq : k < lv.length := by rw [HN.out]; exact hlt
      obtain ⟨l, hlq⟩ : ∃ l, lv.getD k [] = l := ⟨_, rfl⟩
      have hnt := names_take hq hlq
      have hct := count_get hq hlq
      have hnl := names_len (lv.take k)
      obtain ⟨hB, hown⟩ := hR.out
      have HL := level_at p v lv k hq w wr HS.out hB
      rw [hlq] at HL
      have HNT := Lib.hid hnt
      have hlm : l.length ≤ 1000000 := by omega
      clear hnt hlq hB hown
      go_wp2_with fail
      refine HL.mono ?_
      clear HL
      rintro e w1 ⟨A', c', rfl, hC, rfl⟩
      obtain ⟨nl, hnl2⟩ : ∃ nl, l.length = nl := ⟨_, rfl⟩
      rw [hnl2] at hlm hct ⊢
      have HNL := Lib.hid hnl2
      clear hnl2
      go_wp2_with fail
      obtain ⟨wo, rfl⟩ : ∃ wo : World, wo = wr := ⟨_, rfl⟩
      go_loopw [3, 29] (fun s x wz => ∃ j : Nat, j ≤ nl ∧ x = .int .i64 j ∧ Hid (AllR1 w lv k (namesL (l.take j)) s wz)) (fun _ x _ => nl - (intOf x).toNat)
      case atStart => exact ⟨0, by omega, rfl, hR⟩
      case round =>
        obtain ⟨j, hj, rfl, hR2⟩ := hrel
        have hB2 := hR2.out.1
        clear hR
        by_cases hlt2 : j < nl
        · have hjl : j < l.length := by rw [HNL.out]; exact hlt2
          obtain ⟨a, ha⟩ : ∃ a, l.getD j zA = a := ⟨_, rfl⟩
          obtain ⟨g, o, rfl, hgl, e0, e1, e2, e3⟩ := hC j hjl
          rw [ha] at e0 e1 e2 e3
          have htk : namesL (l.take (j + 1)) = namesL (l.take j) ++ [(declR a).1] := by
            rw [List.take_succ_eq_append_getElem hjl, ← ha]; unfold namesL; rw [List.map_append]; simp [List.getD, hjl]
          have HT := Lib.hid htk
          have f0 := (hB2.cell (p := ⟨g, o + j * 4, none⟩) hgl).trans e0
          have f1 := (hB2.cell (p := ⟨g, o + j * 4 + 1, none⟩) hgl).trans e1
          have f2 := (hB2.cell (p := ⟨g, o + j * 4 + 2, none⟩) hgl).trans e2
          have f3 := (hB2.cell (p := ⟨g, o + j * 4 + 3, none⟩) hgl).trans e3
          have hgz : g < wr.heap.size := Nat.lt_of_lt_of_le hgl hB2.size
          have HD := fun W => declares_any a W
          obtain ⟨hBw, hown⟩ := hR2.out
          have hBs := hBw.size
          have HBw := Lib.hid hBw
          have hlen : (names (lv.take k) ++ namesL (l.take j)).length ≤ 1000001 := by
            rw [List.length_append]
            have : (namesL (l.take j)).length ≤ nl := by simp [namesL]; omega
            omega
          clear htk ha e0 e1 e2 e3 hC hBw hnl hB2
          generalize hD : declR a = D at HD
          have HDD := Lib.hid hD
          clear hD
          obtain ⟨d1, d2⟩ := D
          simp only at HD
          go_wp2_with fail
          refine (HD _).mono ?_
          clear HD
          rintro e w2 ⟨rfl, hb2⟩
          have hbw2 : Below wr.heap.size wr w2 := ((Below.refl _ _).alloc (Nat.le_refl _) _).trans (hb2.mono (by simp))
          have hown2 := own_kept_below hown hbw2
          have hs2 := hbw2.size
          generalize hX : names (lv.take k) ++ namesL (l.take j) = X at hown2 hlen
          have HX := Lib.hid hX
          clear hX hown
          go_wp2_with (at_builtin; refine wpList_append_own _ rfl (.tmp 38) (.tmp 40) 37 rfl w.heap.size 9 i0 (.string ⟨#[]⟩) 1 16 Try.underlying37 hi hz0 hz1 hz2 rfl (by decide) u3 X.length (X.map Value.string) rfl (hown2.alloc _) ⟨w2.heap.size, 0, none⟩ 1 1 [.string d1] rfl rfl (cells_block _ _ _) (by intro u hu; simp at hu; subst hu; rfl) (by unfold maxLen; omega) (by omega) (by simp; omega) ?_; intro v' w5 hown5 hgrow _; obtain ⟨g', cap', rfl⟩ := own_shape3 hown5)
          go_roundw
          case rel =>
            refine ⟨j + 1, by omega, by go_num, ?_, ?_⟩
            · exact (((HBw.out.trans (hbw2.mono hBs)).alloc (by omega) _).grown hgrow (by simp; omega) (fun k hk => (hown2.lt k hk).1))
            · have e1 : names (lv.take k) ++ namesL (l.take (j + 1)) = X ++ [d1] := by rw [HT.out, ← List.append_assoc, HX.out, HDD.out]
              rw [e1, List.map_append, len_snoc]
              exact hown5
          case measure => simp [intOf]; omega
        · obtain rfl : j = nl := by omega
          have hR3 : Hid (AllR1 w lv (k + 1) [] u3 wr) := by
            have := hR2.out
            rw [← HNL.out, List.take_length] at this
            obtain ⟨q1, q2⟩ := this
            refine ⟨q1, ?_⟩
            rw [List.append_nil, HNT.out]
            exact q2
          clear hC hR2
          go_wp2_with fail
          go_roundw
          case rel => exact ⟨k + 1, by omega, by go_num, hR3⟩
          case measure => first | (simp [intOf]; done) | (simp [intOf]; omega)
    · obtain rfl : k = n := by omega
      obtain ⟨hB, hown⟩ := hR.out
      rw [← HN.out, List.take_length, List.append_nil, names_len] at hown
      obtain ⟨g, cap3, rfl⟩ := own_shape3 hown
      have hss : ((names lv).map ByteArray.toList).length = countL lv + 1 := by rw [List.length_map, names_len]
      have hH := holds_of_own hown (names lv) rfl
      have hgl := (hown.lt g rfl).2
      have hgB := (hown.lt g rfl).1
      have HSORT := Try.slices_Sort_string g 0 cap3 ((names lv).map ByteArray.toList) wr hH hgl (by rw [hss]; omega)
      rw [hss] at HSORT
      have HB := Lib.hid hB
      have HOWN := Lib.hid hown
      clear hB hown hR hH hlt hss hi hz0 hz1 hz2
      go_wp2_with fail
      refine HSORT.mono ?_
      clear HSORT
      rintro e w1 ⟨rfl, q1, os, hw1⟩
      have hsl : (sortedN lv).length = countL lv + 1 := by unfold sortedN; rw [List.length_mergeSort, List.length_map, names_len]
      obtain ⟨hown1, hk1⟩ := own_putRow (q := q1) (os := os) HOWN.out hsl
      have hBel1 : RowKit.Below w.heap.size w w1 := by
        have : RowKit.Below w.heap.size wr w1 := by rw [hw1]; exact below_putRow hgB hgl
        exact HB.out.trans this
      rw [show ((names lv).map ByteArray.toList).mergeSort (fun x y => decide (x ≤ y)) = sortedN lv from rfl] at hw1
      rw [← hw1] at hown1
      clear hk1 hw1 os q1
      have hle := own_cap hown1
      have hH1 := holds_of_ownB hown1 hsl
      have HCOMP := Try.slices_Compact_string g 0 cap3 (sortedN lv) w1 hH1 (by rw [hsl]; omega) (by rw [hsl]; exact hle)
      rw [hsl] at HCOMP
      have HOWN1 := Lib.hid hown1
      have HB1 := Lib.hid hBel1
      clear hown1 hH1 hBel1
      go_wp2_with fail
      refine HCOMP.mono ?_
      clear HCOMP
      rintro e w2 ⟨rfl, q2, hw2⟩
      have hcl : (Lib.compact (sortedN lv)).length ≤ countL lv + 1 := by rw [← hsl]; exact compact_len _
      have hpad : (Lib.compact (sortedN lv) ++ List.replicate (countL lv + 1 - (Lib.compact (sortedN lv)).length) []).length = countL lv + 1 := by rw [List.length_append, List.length_replicate]; omega
      obtain ⟨hown2, _⟩ := own_putRow (q := q2) (os := #[]) HOWN1.out hpad
      rw [grow_empty, ← hw2] at hown2
      have hBel2 : RowKit.Below w.heap.size w w2 := by
        have : RowKit.Below w.heap.size w1 w2 := by rw [hw2, ← grow_empty (putRow _ _ _ _ _)]; exact below_putRow hgB (HOWN1.out.lt g rfl).2
        exact HB1.out.trans this
      have hown3 : w2.ownsRow w.heap.size 9 1 (.slice (some ⟨g, 0, none⟩) (compactN lv).length cap3) (compactN lv).length ((compactN lv).map encB) := own_take hown2 hcl
      clear hw2 hown2 hpad
      obtain ⟨m, hm⟩ : ∃ m, (compactN lv).length = m := ⟨_, rfl⟩
      rw [show (Lib.compact (sortedN lv)).length = m from hm] at hcl ⊢
      rw [hm] at hown3
      have HM := Lib.hid hm
      clear hm
      obtain ⟨i1, hj, hy0, hy1, hy2⟩ := info_parts infoA
      have hRel : Hid (AllR2 w lv g cap3 m 0 (.slice none 0 0) w2) := ⟨hBel2, hown3, World.ownsRow_nil _ _ _ _⟩
      have hll : ∀ l ∈ lv, l.length ≤ 4611686018427387904 := fun l hl => by have := count_mem hl; omega
      clear hown3 hBel2
      go_wp2_with fail
      go_loopw [9, 49] (fun s x wz => ∃ k : Nat, k ≤ m ∧ x = .int .i64 k ∧ Hid (AllR2 w lv g cap3 m k s wz)) (fun _ x _ => m - (intOf x).toNat)
      case atStart => exact ⟨0, by omega, rfl, hRel⟩
      case round =>
        obtain ⟨k, hk, rfl, hR⟩ := hrel
        clear hRel
        by_cases hlt : k < m
        · have hkc : k < (compactN lv).length := by rw [HM.out]; exact hlt
          obtain ⟨pn, hpn⟩ : ∃ pn, (compactN lv).getD k [] = pn := ⟨_, rfl⟩
          obtain ⟨hB, hrow, hout⟩ := hR.out
          have hck : wr.cell? ⟨g, k, none⟩ = some (.string ⟨pn.toArray⟩) := by
            have := hrow.cells (g := g) rfl k (encB pn) (by rw [← hpn]; simp [List.getD, hkc])
            have ha : (⟨g, 0, none⟩ : Addr).add k = ⟨g, k, none⟩ := by unfold Addr.add; split <;> simp_all
            rw [ha] at this
            exact this
          have hgz := (hrow.lt g rfl).2
          have HU := uri_any p v lv ⟨pn.toArray⟩ wr (HS.out.below hB) (by rw [HN.out]; omega) hll
          have hnext : Hid ((compactN lv).take (k + 1) = (compactN lv).take k ++ [pn]) := by
            show _ = _
            rw [List.take_succ_eq_append_getElem hkc, ← hpn]; simp [List.getD, hkc]
          have hlenout : (((compactN lv).take k).flatMap (one lv)).length ≤ k := Nat.le_trans (one_len _ _) (List.length_take_le _ _)
          have HB := Lib.hid hB
          have HR := Lib.hid hrow
          have hBs := hB.size
          obtain ⟨P, hP⟩ : ∃ P : ByteArray, P = ⟨pn.toArray⟩ := ⟨_, rfl⟩
          have hPl : P.toList = pn := by rw [hP, ByteArray.toList_eq]
          rw [← hP] at hck HU
          have hone1 : one lv pn = if ((uriR lv P).1.toList == []) = true then [] else if (P.toList == []) = true then [⟨⟨#[]⟩, xmlnsS, nsS, (uriR lv P).1⟩] else [⟨xmlnsS, P, nsS, (uriR lv P).1⟩] := by
            unfold one; rw [hPl, ← hP]
          have HO1 := Lib.hid hone1
          clear hP hPl hone1 hpn hkc hB hrow
          generalize uriR lv P = U at HU HO1
          obtain ⟨u, ub⟩ := U
          simp only at HU HO1
          generalize hX : ((compactN lv).take k).flatMap (one lv) = X at hout hlenout
          have HX := Lib.hid hX
          clear hX
          cases h1 : (u.toList == []) with
          | true =>
            have h1' := isE h1
            have hone : Hid (one lv pn = []) := by show _ = _; rw [HO1.out, if_pos h1]
            go_wp2_with fail
            refine HU.mono ?_
            clear HU
            rintro e wb ⟨rfl, hbb⟩
            have hout2 := own_kept_below hout hbb
            have hrow2 := own_kept_below HR.out hbb
            have hB2 := HB.out.trans (hbb.mono hBs)
            have hs2 : w.heap.size ≤ wb.heap.size := hB2.size
            clear hck
            go_wp2_with fail
            go_roundw
            case rel =>
              refine ⟨k + 1, by omega, by go_num, hB2, hrow2, ?_⟩
              rw [hnext.out, List.flatMap_append, HX.out]
              simp only [List.flatMap_cons, List.flatMap_nil, hone.out, List.append_nil]
              exact hout2
            case measure => simp [intOf]; omega
          | false =>
            have h1' := isE h1
            cases h2 : (P.toList == []) with
            | true =>
              have h2' := isE h2
              have hone : Hid ([pn].flatMap (one lv) = [⟨⟨#[]⟩, xmlnsS, nsS, u⟩]) := by show _ = _; simp only [List.flatMap_cons, List.flatMap_nil, List.append_nil]; rw [HO1.out, if_neg (by rw [h1]; decide), if_pos h2]
              go_wp2_with fail
              refine HU.mono ?_
              clear HU
              rintro e wb ⟨rfl, hbb⟩
              have hout2 := own_kept_below hout hbb
              have hrow2 := own_kept_below HR.out hbb
              have hB2 := HB.out.trans (hbb.mono hBs)
              have hs2 : w.heap.size ≤ wb.heap.size := hB2.size
              clear hck
              go_wp2_with (at_builtin; refine wpList_append_own _ rfl (.tmp 71) (.tmp 74) 26 rfl w.heap.size 35 i1 (.agg #[.string ⟨#[]⟩, .string ⟨#[]⟩, .string ⟨#[]⟩, .string ⟨#[]⟩]) 4 64 Try.underlying26 hj hy0 hy1 hy2 rfl (by decide) u9 X.length (cellsA X) rfl (hout2.alloc _) ⟨wb.heap.size, 0, none⟩ 1 1 [.string ⟨#[]⟩, .string xmlnsS, .string nsS, .string u] rfl rfl (cells_block _ _ _) (by intro u hu; simp at hu; rcases hu with rfl | rfl | rfl | rfl <;> rfl) (by unfold maxLen; omega) (by omega) (by simp; omega) ?_; intro v' w5 hown5 hgrow _; obtain ⟨g', cap', rfl⟩ := own_shape3 hown5)
              go_roundw
              case rel =>
                refine ⟨k + 1, by omega, by go_num, ?_, ?_, ?_⟩
                · exact (hB2.alloc hs2 _).grown hgrow (by simp; omega) (fun k hk => (hout2.lt k hk).1)
                · exact (hrow2.alloc _).kept hgrow (own_two hrow2 hout2 (by decide : (35 : Nat) ≠ 9))
                · rw [hnext.out, List.flatMap_append, HX.out, hone.out, cellsA_app, len_snoc]
                  exact hown5
              case measure => simp [intOf]; omega
            | false =>
              have h2' := isE h2
              have hone : Hid ([pn].flatMap (one lv) = [⟨xmlnsS, P, nsS, u⟩]) := by show _ = _; simp only [List.flatMap_cons, List.flatMap_nil, List.append_nil]; rw [HO1.out, if_neg (by rw [h1]; decide), if_neg (by rw [h2]; decide)]
              go_wp2_with fail
              refine HU.mono ?_
              clear HU
              rintro e wb ⟨rfl, hbb⟩
              have hout2 := own_kept_below hout hbb
              have hrow2 := own_kept_below HR.out hbb
              have hB2 := HB.out.trans (hbb.mono hBs)
              have hs2 : w.heap.size ≤ wb.heap.size := hB2.size
              clear hck
              go_wp2_with (at_builtin; refine wpList_append_own _ rfl (.tmp 59) (.tmp 63) 26 rfl w.heap.size 35 i1 (.agg #[.string ⟨#[]⟩, .string ⟨#[]⟩, .string ⟨#[]⟩, .string ⟨#[]⟩]) 4 64 Try.underlying26 hj hy0 hy1 hy2 rfl (by decide) u9 X.length (cellsA X) rfl (hout2.alloc _) ⟨wb.heap.size, 0, none⟩ 1 1 [.string xmlnsS, .string P, .string nsS, .string u] rfl rfl (cells_block _ _ _) (by intro u hu; simp at hu; rcases hu with rfl | rfl | rfl | rfl <;> rfl) (by unfold maxLen; omega) (by omega) (by simp; omega) ?_; intro v' w5 hown5 hgrow _; obtain ⟨g', cap', rfl⟩ := own_shape3 hown5)
              go_roundw
              case rel =>
                refine ⟨k + 1, by omega, by go_num, ?_, ?_, ?_⟩
                · exact (hB2.alloc hs2 _).grown hgrow (by simp; omega) (fun k hk => (hout2.lt k hk).1)
                · exact (hrow2.alloc _).kept hgrow (own_two hrow2 hout2 (by decide : (35 : Nat) ≠ 9))
                · rw [hnext.out, List.flatMap_append, HX.out, hone.out, cellsA_app, len_snoc]
                  exact hown5
              case measure => simp [intOf]; omega
        · obtain rfl : k = m := by omega
          have hR2 := hR.out
          clear hR
          go_wp2_with fail
          go_ret
          obtain ⟨hB, hrow, hout⟩ := hR2
          rw [← HM.out, List.take_length] at hout
          exact ⟨_, rfl, hout, hB⟩
end Go.Proofs.Ytfohbgcpdpnndaa.Sc
