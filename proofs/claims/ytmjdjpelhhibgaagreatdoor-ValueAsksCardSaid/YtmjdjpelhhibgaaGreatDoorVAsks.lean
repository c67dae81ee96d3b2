/- The walk of ValueAsks. -/
import Derived.Test.YtmjdjpelhhibgaaGreatDoorVQ3
namespace Go.Proofs.YtmjdjpelhhibgaaGreatDoor.Val
open Go Go.RowKit Go.Proofs.YtmjdjpelhhibgaaGreatDoor.Rf Go.Proofs.YtmjdjpelhhibgaaGreatDoor.Spec Go.Proofs.YtmjdjpelhhibgaaGreatDoor.Giv
set_option linter.unusedVariables false
set_option linter.unusedSimpArgs false
/-- The pieces. -/
def PL : List ByteArray := [⟨#[97]⟩, ⟨#[32]⟩, ⟨#[9]⟩, ⟨#[10]⟩, ⟨#[38, 101, 59]⟩, ⟨#[38, 102, 59]⟩, ⟨#[38, 103, 59]⟩, ⟨#[38, 104, 59]⟩, ⟨#[38, 105, 59]⟩, ⟨#[38, 106, 59]⟩, ⟨#[38, 109, 59]⟩, ⟨#[38, 111, 59]⟩, ⟨#[38, 108, 116, 59]⟩, ⟨#[38, 97, 109, 112, 59]⟩,
  ⟨#[38, 35, 54, 53, 59]⟩, ⟨#[38, 35, 49, 48, 59]⟩, ⟨#[38, 35, 51, 50, 59]⟩, ⟨#[38, 120, 59]⟩, ⟨#[38]⟩, ⟨#[195, 169]⟩, ⟨#[39]⟩, ⟨#[32, 32]⟩]
theorem pl_size (j : Nat) (hj : j < 22) : (PL.getD j ⟨#[]⟩).size ≤ 5 := by
  have h : ∀ x ∈ PL, x.size ≤ 5 := by decide +kernel
  have hl : PL.length = 22 := rfl
  have : PL.getD j ⟨#[]⟩ ∈ PL := by simp only [List.getD, List.getElem?_eq_getElem (show j < PL.length by omega)]; exact List.getElem_mem _
  exact h _ this
theorem pl_at (j : Nat) (hj : j < 22) : ((PL.map Value.string).toArray)[j]? = some (.string (PL.getD j ⟨#[]⟩)) := by
  have hl : PL.length = 22 := rfl
  rw [List.getElem?_toArray, List.getElem?_map]
  simp only [List.getD, List.getElem?_eq_getElem (show j < PL.length by omega)]
  rfl
theorem addr_block (x : Addr) (k : Nat) : (x.add k).block = x.block := by unfold Addr.add; split <;> rfl
theorem u22_of (x : Int) : ∃ k : Nat, k < 22 ∧ (IntKind.u64.wrap x).tmod 22 = (k : Int) := by
  have hw : 0 ≤ IntKind.u64.wrap x := by unfold IntKind.wrap; simp [IntKind.bits, IntKind.signed]; omega
  have h0 : 0 ≤ Int.tmod (IntKind.u64.wrap x) 22 := Int.tmod_nonneg _ hw
  have h1 : Int.tmod (IntKind.u64.wrap x) 22 < 22 := Int.tmod_lt_of_pos _ (by omega)
  exact ⟨((IntKind.u64.wrap x).tmod 22).toNat, by omega, by omega⟩
theorem RS.weaken {w0 w1 w : World} {p : Nat} {E : List Ent} {op : List ByteArray} {sp : Int} (h : RS w1 w p E op sp) (hb : Below w0.heap.size w0 w1) : RS w0 w p E op sp := by
  obtain ⟨bm, v, hI, hB, hp, hv⟩ := h
  exact ⟨bm, v, hI, hb.trans (hB.mono hb.size), Nat.le_trans hb.size hp, fun k hk => Nat.le_trans hb.size (hv k hk)⟩
theorem RS.spentQ {w0 w : World} {p : Nat} {E : List Ent} {op : List ByteArray} {sp : Int} (h : RS w0 w p E op sp) (n : Nat) : Calls Tryz.prog 19 #[.pointer (some ⟨p, 0, none⟩)] (w.drewN n) fun e w'' => e = .returned (.int .i64 sp) ∧ ∃ m, w'' = w.drewN m :=
  Calls.quiet_of_same ((RS.below h (below_drewN (Below.refl _ _) n)).spent.mono fun _ _ h => ⟨h.1, h.2.symm⟩)
theorem RS.depthQ0 {w0 w : World} {p : Nat} {E : List Ent} {sp : Int} (h : RS w0 w p E [] sp) (n : Nat) : Calls Tryz.prog 20 #[.pointer (some ⟨p, 0, none⟩)] (w.drewN n) fun e w'' => e = .returned (.int .i64 0) ∧ ∃ m, w'' = w.drewN m :=
  Calls.quiet_of_same ((RS.below h (below_drewN (Below.refl _ _) n)).depth.mono fun _ _ h => ⟨h.1, h.2.symm⟩)
theorem bchain {w a b : World} (h : Below w.heap.size w a) (h' : Below a.heap.size a b) : Below w.heap.size w b := h.trans (h'.mono h.size)
theorem e9_len (k : Nat) (hk : k < 9) : (E9 k).length = 9 := by
  unfold E9
  have : L9.length = 9 := rfl
  rw [List.length_append, List.length_drop, List.length_take]
  omega
theorem e9_nine (k : Nat) : ∀ e, e ∈ E9 k → e.vl.size ≤ 9 := by
  have h : ∀ e ∈ L9, e.vl.size ≤ 9 := by
    intro e he
    simp only [L9, List.mem_cons, List.mem_nil_iff, or_false] at he
    rcases he with rfl | rfl | rfl | rfl | rfl | rfl | rfl | rfl | rfl <;> decide
  intro e he
  rcases List.mem_append.1 he with he | he
  · exact h e (List.mem_of_mem_drop he)
  · exact h e (List.mem_of_mem_take he)
theorem e9_tiny (k : Nat) : ∀ e, e ∈ E9 k → e.vl.size ≤ 1000000000 := fun e he => Nat.le_trans (e9_nine k e he) (by decide)
theorem e9_small (k : Nat) : ∀ nm, (entR (E9 k) nm).2.1.size < 4294967281 := entR_small (E9 k) fun e he => by have := e9_nine k e he; omega
/-- The reading of a text of the law ends, and is small. -/
theorem asks_run (k : Nat) (hk : k < 9) (most : Int) (T : ByteArray) (hT : T.size ≤ 100) : ∃ kk st', runT (E9 k) most 300 false T.data.toList ⟨[], [], 0⟩ = some (kk, st') ∧ st'.out.length ≤ 1000000000 ∧ st'.sp ≤ 1000000000 := by
  have hl : T.data.toList.length = T.size := rfl
  have hr : rnk (E9 k) [] ≤ 9 := by
    have := List.length_filter_le (fun e : Ent => !memB e.nm []) (E9 k)
    rw [e9_len k hk] at this
    exact this
  obtain ⟨kk, st', h1, h2, h3⟩ := runT_ends (E9 k) most (e9_nine k) 9 T.data.toList 300 false ⟨[], [], 0⟩ hr (by omega)
  have hw : wB 9 = 108255 := rfl
  rw [hw] at h2 h3
  simp only [List.length_nil] at h2 h3
  exact ⟨kk, st', h1, by omega, by omega⟩
set_option maxRecDepth 100000 in
set_option maxHeartbeats 40000000 in
theorem asks_walk (a : Option Addr) (len cap : Nat) (zs : List Int) (s : ByteArray) (kind most num : Int) (w : World) (hE : Env w)
    (hrow : (a = none ∧ len = 0 ∧ cap = 0 ∧ zs = []) ∨ ∃ x, a = some x ∧ len ≤ cap ∧ cap ≤ maxLen ∧ zs.length = cap ∧ (∀ i, i < zs.length → w.cell? (x.add i) = some (.int .i64 (zs.getD i 0))) ∧ ∀ n ∈ zs, (Lit.int .i64 n).wf = true) (hy : len * 8 ≤ 140737488351232)
    (hs0 : s.size ≤ 140737488351232) (hw2 : (Lit.int .i64 kind).wf = true) (hw3 : (Lit.int .i64 most).wf = true) (hw4 : (Lit.int .i64 num).wf = true) :
    Calls Tryz.prog 7 #[.slice a len cap, .string s, .int .i64 kind, .int .i64 most, .int .i64 num] w fun e w' => e = .returned (.bool true) ∧ Below w.heap.size w w' := by
  have HE := Lib.hid hE
  have hm : -9223372036854775808 ≤ most ∧ most ≤ 9223372036854775807 := by
    simp only [Lit.wf, IntKind.min, IntKind.max, IntKind.signed, IntKind.bits, Bool.and_eq_true, decide_eq_true_eq, if_true] at hw3
    omega
  obtain ⟨hm0, hm1⟩ := hm
  have hcell : Hid (∀ i, i < len → ∃ x z, a = some x ∧ x.block < w.heap.size ∧ w.cell? (x.add i) = some (.int .i64 z)) := by
    intro i hi
    rcases hrow with ⟨_, h0, _⟩ | ⟨x, h1, h2, h3, h4, h5, h6⟩
    · omega
    · have := h5 i (by omega)
      have hlt := World.block_lt_of_cell? w _ this
      have hbl : (x.add i).block = x.block := by unfold Addr.add; split <;> rfl
      exact ⟨x, _, h1, by rw [← hbl]; exact hlt, this⟩
  have hlc : len ≤ cap := by
    rcases hrow with ⟨_, h0, h1, _⟩ | ⟨x, h1, h2, _⟩
    · omega
    · exact h2
  clear hE hrow hw2 hw3 hw4
  by_cases h60 : s.size > 60
  · go_enter Tryz.func7, Tryz.ntmps7
    go_wp2_with (go_at_call 11; refine (told_any _ HE.out).mono ?_; rintro e w4 ⟨rfl, hb4⟩)
    go_ret
    exact ⟨rfl, hb4⟩
  · go_enter Tryz.func7, Tryz.ntmps7
    go_wp2
    obtain ⟨W1, hW1⟩ : ∃ W1, W1 = w.alloc (.cells #[.string ⟨#[97]⟩, .string ⟨#[32]⟩, .string ⟨#[9]⟩, .string ⟨#[10]⟩, .string ⟨#[38, 101, 59]⟩, .string ⟨#[38, 102, 59]⟩, .string ⟨#[38, 103, 59]⟩, .string ⟨#[38, 104, 59]⟩, .string ⟨#[38, 105, 59]⟩, .string ⟨#[38, 106, 59]⟩, .string ⟨#[38, 109, 59]⟩, .string ⟨#[38, 111, 59]⟩, .string ⟨#[38, 108, 116, 59]⟩, .string ⟨#[38, 97, 109, 112, 59]⟩, .string ⟨#[38, 35, 54, 53, 59]⟩, .string ⟨#[38, 35, 49, 48, 59]⟩, .string ⟨#[38, 35, 51, 50, 59]⟩, .string ⟨#[38, 120, 59]⟩, .string ⟨#[38]⟩, .string ⟨#[195, 169]⟩, .string ⟨#[39]⟩, .string ⟨#[32, 32]⟩] 9) := ⟨_, rfl⟩
    rw [← hW1]
    have hrow1 : W1.heap[w.heap.size]? = some (.cells (PL.map Value.string).toArray 9 (0, 0)) := by rw [hW1]; exact heap_alloc_new w _
    have hb1 : Below w.heap.size w W1 := by rw [hW1]; exact (Below.refl _ _).alloc (Nat.le_refl _) _
    have hwl1 : w.heap.size < W1.heap.size := by rw [hW1]; simp
    have hpl : Hid (∀ j, j < 22 → W1.cell? ⟨w.heap.size, j, none⟩ = some (.string (PL.getD j ⟨#[]⟩))) := fun j hj => by rw [cell_of hrow1]; exact pl_at j hj
    have HB1 := Lib.hid hb1
    clear hW1 hrow1
    go_loop [13, 12] (fun i x => ∃ (k : Nat) (T : ByteArray), i = .int .i64 k ∧ x = .string T ∧ k ≤ len ∧ k ≤ 20 ∧ T.size ≤ 5 * k) (fun i _ => 20 - (intOf i).toNat)
    case atStart => exact ⟨0, ⟨#[]⟩, rfl, rfl, by omega, by omega, Nat.le_refl _⟩
    case round =>
      obtain ⟨k, T, rfl, rfl, hk, hk20, hT⟩ := hrel
      by_cases hlt : k < len ∧ k < 20
      · obtain ⟨hl1, hl2⟩ := hlt
        obtain ⟨x, z, rfl, hxb, hz⟩ := hcell.out k hl1
        have hz2 : W1.cell? (x.add k) = some (.int .i64 z) := (hb1.cell (p := x.add k) (by rw [addr_block]; exact hxb)).trans hz
        obtain ⟨kb, hkb, h2⟩ := u22_of z
        have hp := hpl.out kb hkb
        have hps := pl_size kb hkb
        obtain ⟨P, hP⟩ : ∃ P, PL.getD kb ⟨#[]⟩ = P := ⟨_, rfl⟩
        rw [hP] at hp hps
        clear hz hP
        go_wp2
        go_round
        case rel => exact ⟨k + 1, _, by go_num, rfl, by omega, by omega, by rw [ByteArray.size_append]; omega⟩
        case measure => simp [intOf]; omega
      · have hT100 : T.size ≤ 100 := by omega
        have hstop : Hid (¬ (k < len ∧ k < 20)) := hlt
        have cE := entities_any num
        have hsp : k = 20 ∨ k = len := by omega
        have hka : k < len ∨ k = len := by omega
        clear hlt
        rcases hka with hka | hka
        · have hk2 : k = 20 := by omega
          subst hk2
          go_wp2_with (go_at_call 17; refine (cE _).mono ?_; rintro e w2 ⟨ke, g, gcap, hke, rfl, hre, hgl, hb2⟩)
          obtain ⟨W3, hW3⟩ : ∃ W3, W3 = w2.alloc (.cells #[.string ⟨#[]⟩, .slice (some ⟨g, 0, none⟩) 9 gcap, .slice none 0 0] 30) := ⟨_, rfl⟩
          rw [← hW3]
          have hd3 : W3.heap[w2.heap.size]? = some (.cells #[.string ⟨#[]⟩, .slice (some ⟨g, 0, none⟩) 9 gcap, .slice none 0 0] 30 (0, 0)) := by rw [hW3]; exact heap_alloc_new w2 _
          have hb3 : Below w2.heap.size w2 W3 := by rw [hW3]; exact (Below.refl _ _).alloc (Nat.le_refl _) _
          have hz3 : w2.heap.size < W3.heap.size := by rw [hW3]; simp
          have HBW := Lib.hid ((hb1.trans (hb2.mono hb1.size)).trans (hb3.mono (Nat.le_trans hb1.size hb2.size)))
          have HRE := Lib.hid (rowE_below hre hb3)
          have hgl3 : g < W3.heap.size := by omega
          have HD3 := Lib.hid hd3
          clear hW3 hre hb3 hb2 cE hd3
          go_loopw [15, 12] (fun i x wr => ∃ (j : Nat) (T : ByteArray), i = .int .i64 j ∧ x = .string T ∧ j ≤ 2 ∧ T.size ≤ 100 ∧ Hid (Below W3.heap.size W3 wr)) (fun i _ _ => 2 - (intOf i).toNat)
          case atStart => exact ⟨0, T, rfl, rfl, by omega, hT100, Below.refl _ _⟩
          case round =>
            obtain ⟨j, T, rfl, rfl, hj, hTs, HBR⟩ := hrel
            have HEr := Lib.hid (HE.out.below (HBW.out.trans (HBR.out.mono HBW.out.size)))
            have hsz := HBR.out.size
            by_cases hj2 : j < 2
            · have hdr := (HBR.out.block w2.heap.size hz3).trans HD3.out
              have d0 := cell_of hdr 0
              have d1 := cell_of hdr 1
              have d2 := cell_of hdr 2
              have hdl : w2.heap.size < wr.heap.size := by omega
              have hrow := rowE_below HRE.out HBR.out
              have hglr : g < wr.heap.size := by omega
              have hlen9 := e9_len ke hke
              have cNew : ∀ W, Below wr.heap.size wr W → Calls Tryz.prog 9 #[.agg #[.string ⟨#[]⟩, .slice (some ⟨g, 0, none⟩) 9 gcap, .slice none 0 0]] W fun e w' => ∃ p, e = .returned (.pointer (some ⟨p, 0, none⟩)) ∧ RS wr w' p (E9 ke) [] 0 ∧ Below W.heap.size W w' ∧
                  w'.cell? ⟨w2.heap.size, 0, none⟩ = some (.string ⟨#[]⟩) ∧ w'.cell? ⟨w2.heap.size, 1, none⟩ = some (.slice (some ⟨g, 0, none⟩) 9 gcap) ∧ w'.cell? ⟨w2.heap.size, 2, none⟩ = some (.slice none 0 0) ∧ w2.heap.size < w'.heap.size := by
                intro W hb
                refine (new_RS ⟨#[]⟩ (some ⟨g, 0, none⟩) 9 gcap (.slice none 0 0) (E9 ke) W (rowE_below hrow hb) hlen9 (by decide)).mono ?_
                rintro e w' ⟨p, rfl, hR⟩
                have hb' := hb.trans (hR.bel.mono hb.size)
                exact ⟨p, rfl, RS.weaken hR hb, hR.bel, (hb'.cell (p := ⟨w2.heap.size, 0, none⟩) hdl).trans d0, (hb'.cell (p := ⟨w2.heap.size, 1, none⟩) hdl).trans d1, (hb'.cell (p := ⟨w2.heap.size, 2, none⟩) hdl).trans d2, Nat.lt_of_lt_of_le hdl hb'.size⟩
              obtain ⟨kk, st', hrun, hout, hspn⟩ := asks_run ke hke most T hTs
              obtain ⟨o, op', sp'⟩ := st'
              simp only at hout hspn
              have hgrw := runT_grew (E9 ke) most 300 false _ _ _ _ hrun
              have HOP : Hid (kk = 0 → op' = []) := fun h => hgrw.op h
              have hsp0 : 0 ≤ sp' := hgrw.sp
              have cRead := fun W p kd (hR : RS wr W p (E9 ke) [] 0) => read_fr wr HEr.out (E9 ke) most hm0 hm1 (e9_small ke) p [] 0 W hR (by decide) (by decide) T (by omega) kd 300 (by decide) kk ⟨o, op', sp'⟩ hrun hout
              have cVal := fun W q kd (hM : MS W q ⟨#[]⟩ (some ⟨g, 0, none⟩) 9 gcap (.slice none 0 0) (.slice none 0 0) (E9 ke) [] 0) (hA : ∀ a, some (⟨g, 0, none⟩ : Addr) = some a → a.block ≠ q) => valueV_any q ⟨#[]⟩ (some ⟨g, 0, none⟩) 9 gcap (.slice none 0 0) (.slice none 0 0) (E9 ke) most kd hlen9 (by decide) hm0 hm1 (e9_tiny ke) hA 300 T W kk o op' sp' (by omega) hM hrun hout (by omega) (by decide)
              have HROW := Lib.hid hrow
              clear hrun hgrw hdr hrow hout
              have hX := fun (X : ByteArray) => bne_self_eq_false X.toList
              have hkk : (kk != kk) = false := bne_self_eq_false kk
              have hss : (sp' != sp') = false := bne_self_eq_false sp'
              have cN := fun W => norm_any T W (by omega)
              have cNr := fun W => normR_any T W (by omega)
              have cT := fun W => Rep.text_any T (by omega) W
              have cTr := fun W => escText_any T W (by omega)
              have cA := fun W => Rep.attr_any T (by omega) W
              have cAr := fun W => escAttr_any T W (by omega)
              obtain ⟨NT, hNT⟩ : ∃ NT : ByteArray, (⟨(normB T.data.toList).toArray⟩ : ByteArray) = NT := ⟨_, rfl⟩
              obtain ⟨TT, hTT⟩ : ∃ TT : ByteArray, (⟨(Rep.repl Rep.textM T.data.toList).toArray⟩ : ByteArray) = TT := ⟨_, rfl⟩
              obtain ⟨AT, hAT⟩ : ∃ AT : ByteArray, (⟨(Rep.repl Rep.attrM T.data.toList).toArray⟩ : ByteArray) = AT := ⟨_, rfl⟩
              rw [hNT] at cN cNr
              rw [hTT] at cT cTr
              rw [hAT] at cA cAr
              clear hNT hTT hAT
              go_wp2
              go_region_with (go_at_call 9; (first | refine (cNew _ (Below.refl _ _)).mono ?_ | refine (cNew _ (below_drewN (Below.refl _ _) 1)).mono ?_ | refine (cNew _ ((Below.refl _ _).alloc (Nat.le_refl _) _)).mono ?_ | refine (cNew _ (Below.drew ((Below.refl _ _).alloc (Nat.le_refl _) _))).mono ?_); rintro e w4 ⟨p, rfl, hRS, hbN, m0, m1, m2, m3⟩; have HR4 := Lib.hid hRS; have HBN := Lib.hid hbN; clear hRS hbN)
              all_goals
                have HPK : Hid (∃ q W, RS wr W p (E9 ke) [] 0 ∧ W.heap[q]? = some (.cells #[.string ⟨#[]⟩, .slice (some ⟨g, 0, none⟩) 9 gcap, .slice none 0 0, .int .i64 0, .slice none 0 0] TQ (0, 0)) ∧ wr.heap.size ≤ q) := ⟨_, _, RS.below HR4.out ((Below.refl _ _).alloc (Nat.le_refl _) (.cells #[.string ⟨#[]⟩, .slice (some ⟨g, 0, none⟩) 9 gcap, .slice none 0 0, .int .i64 0, .slice none 0 0] TQ)), heap_alloc_new w4 _, HR4.out.size⟩
                first
                  | (obtain ⟨W, hW⟩ : ∃ W, W = w4.alloc (.cells #[.string ⟨#[]⟩, .slice (some ⟨g, 0, none⟩) 9 gcap, .slice none 0 0, .int .i64 0, .slice none 0 0] TQ) := ⟨_, rfl⟩
                     rw [← hW]
                     obtain ⟨q, hq⟩ : ∃ q, q = w4.heap.size := ⟨_, rfl⟩
                     rw [← hq]
                     have HRW : Hid (RS wr W p (E9 ke) [] 0) := by rw [hW]; exact RS.below HR4.out ((Below.refl _ _).alloc (Nat.le_refl _) _)
                     have HQW : Hid (W.heap[q]? = some (.cells #[.string ⟨#[]⟩, .slice (some ⟨g, 0, none⟩) 9 gcap, .slice none 0 0, .int .i64 0, .slice none 0 0] TQ (0, 0))) := by rw [hW, hq]; exact heap_alloc_new w4 _
                     have hq0 : wr.heap.size ≤ q := by rw [hq]; exact HR4.out.size
                     have HQN : Hid (q ≠ W.heap.size) := by rw [hW, hq]; show _ ≠ _; simp
                     clear hW hq)
                  | (obtain ⟨q, hq⟩ : ∃ q, q = wr.heap.size := ⟨_, rfl⟩
                     rw [← hq]
                     have HRW : Hid (RS wr w4 p (E9 ke) [] 0) := HR4
                     have HQW : Hid (w4.heap[q]? = some (.cells #[.string ⟨#[]⟩, .slice (some ⟨g, 0, none⟩) 9 gcap, .slice none 0 0, .int .i64 0, .slice none 0 0] TQ (0, 0))) := by rw [hq]; exact (HBN.out.block wr.heap.size (by show _ < (wr.alloc _).heap.size; simp)).trans (heap_alloc_new wr _)
                     have hq0 : wr.heap.size ≤ q := by omega
                     have HQN : Hid (q ≠ w4.heap.size) := by
                       have h1 := (Array.getElem?_eq_some_iff.1 HQW.out).1
                       show _ ≠ _
                       omega
                     clear hq)
                have HAQ : Hid (∀ a, some (⟨g, 0, none⟩ : Addr) = some a → a.block ≠ q) := by
                  intro a h
                  cases h
                  show g ≠ q
                  omega
                clear HPK HBN HR4
                go_wp2_with (first | (go_at_call 10; refine (cRead _ p _ HRW.out).mono ?_; rintro e w6 ⟨rfl, hRS6, hF6⟩; have HM6 := Lib.hid (ms_fr HQW.out hF6 (RS.ne HRW.out HQW.out) HQN.out HROW.out hRS6.bel); have hq6 := HM6.out.lt; have HR6 := Lib.hid hRS6; clear hRS6 hF6) | (go_at_call 18; refine (cVal _ q _ HM6.out HAQ.out).mono ?_; rintro e w7 ⟨rfl, hQ7, v7, hM7⟩; have HR7 := Lib.hid (RS.qt HR6.out HM6.out.cells hQ7 hq0); obtain ⟨c3, _, _, _⟩ := hM7.cell; have hq7 := hM7.lt; clear hM7 hQ7) | (go_at_call 19; refine HR7.out.spent.mono ?_; rintro e w8 ⟨rfl, rfl⟩))
                obtain ⟨b0, hb0⟩ : ∃ b, (kk == 0) = b := ⟨_, rfl⟩
                cases b0 with
                | true =>
                  obtain rfl : kk = 0 := by simpa using hb0
                  obtain rfl := HOP.out rfl
                  have HS := Lib.hid (fun n => RS.spentQ HR7.out n)
                  have HDp := Lib.hid (fun n => RS.depthQ0 HR7.out n)
                  go_quiet (first | (go_at_call 19; exact HS.out _) | (go_at_call 20; exact HDp.out _))
                  go_wp2_with (first | (go_at_call 15; with_reducible refine (cN _).mono ?_; rintro e x1 ⟨rfl, hx1⟩) | (go_at_call 16; with_reducible refine (cNr _).mono ?_; rintro e x2 ⟨rfl, hx2⟩) | (go_at_call 21; with_reducible refine (cT _).mono ?_; rintro e x3 ⟨rfl, hx3⟩) | (go_at_call 13; with_reducible refine (cA _).mono ?_; rintro e x5 ⟨rfl, hx5⟩) | (go_at_call 22; (first | with_reducible refine (cTr _).mono ?_ | with_reducible refine (cAr _).mono ?_); rintro e x4 ⟨rfl, rfl⟩))
                  go_roundw
                  case rel => exact ⟨j + 1, s, by go_num, rfl, by omega, by omega, HBR.out.trans ((bchain (bchain (bchain (bchain (below_drewN HR7.out.bel nq) hx1) hx2) hx3) hx5).mono HBR.out.size)⟩
                  case measure => simp [intOf]; omega
                | false =>
                  have HS := Lib.hid (fun n => RS.spentQ HR7.out n)
                  go_quiet (first | (go_at_call 19; exact HS.out _))
                  go_wp2_with (first | (go_at_call 15; with_reducible refine (cN _).mono ?_; rintro e x1 ⟨rfl, hx1⟩) | (go_at_call 16; with_reducible refine (cNr _).mono ?_; rintro e x2 ⟨rfl, hx2⟩) | (go_at_call 21; with_reducible refine (cT _).mono ?_; rintro e x3 ⟨rfl, hx3⟩) | (go_at_call 13; with_reducible refine (cA _).mono ?_; rintro e x5 ⟨rfl, hx5⟩) | (go_at_call 22; (first | with_reducible refine (cTr _).mono ?_ | with_reducible refine (cAr _).mono ?_); rintro e x4 ⟨rfl, rfl⟩))
                  go_roundw
                  case rel => exact ⟨j + 1, s, by go_num, rfl, by omega, by omega, HBR.out.trans ((bchain (bchain (bchain (bchain (below_drewN HR7.out.bel nq) hx1) hx2) hx3) hx5).mono HBR.out.size)⟩
                  case measure => simp [intOf]; omega
            · obtain rfl : j = 2 := by omega
              go_wp2_with (go_at_call 11; refine (told_any _ HEr.out).mono ?_; rintro e w4 ⟨rfl, hb4⟩)
              go_ret
              exact ⟨rfl, (HBW.out.trans (HBR.out.mono HBW.out.size)).trans (hb4.mono (Nat.le_trans HBW.out.size HBR.out.size))⟩
        · subst hka
          go_wp2_with (go_at_call 17; refine (cE _).mono ?_; rintro e w2 ⟨ke, g, gcap, hke, rfl, hre, hgl, hb2⟩)
          obtain ⟨W3, hW3⟩ : ∃ W3, W3 = w2.alloc (.cells #[.string ⟨#[]⟩, .slice (some ⟨g, 0, none⟩) 9 gcap, .slice none 0 0] 30) := ⟨_, rfl⟩
          rw [← hW3]
          have hd3 : W3.heap[w2.heap.size]? = some (.cells #[.string ⟨#[]⟩, .slice (some ⟨g, 0, none⟩) 9 gcap, .slice none 0 0] 30 (0, 0)) := by rw [hW3]; exact heap_alloc_new w2 _
          have hb3 : Below w2.heap.size w2 W3 := by rw [hW3]; exact (Below.refl _ _).alloc (Nat.le_refl _) _
          have hz3 : w2.heap.size < W3.heap.size := by rw [hW3]; simp
          have HBW := Lib.hid ((hb1.trans (hb2.mono hb1.size)).trans (hb3.mono (Nat.le_trans hb1.size hb2.size)))
          have HRE := Lib.hid (rowE_below hre hb3)
          have hgl3 : g < W3.heap.size := by omega
          have HD3 := Lib.hid hd3
          clear hW3 hre hb3 hb2 cE hd3
          go_loopw [15, 12] (fun i x wr => ∃ (j : Nat) (T : ByteArray), i = .int .i64 j ∧ x = .string T ∧ j ≤ 2 ∧ T.size ≤ 100 ∧ Hid (Below W3.heap.size W3 wr)) (fun i _ _ => 2 - (intOf i).toNat)
          case atStart => exact ⟨0, T, rfl, rfl, by omega, hT100, Below.refl _ _⟩
          case round =>
            obtain ⟨j, T, rfl, rfl, hj, hTs, HBR⟩ := hrel
            have HEr := Lib.hid (HE.out.below (HBW.out.trans (HBR.out.mono HBW.out.size)))
            have hsz := HBR.out.size
            by_cases hj2 : j < 2
            · have hdr := (HBR.out.block w2.heap.size hz3).trans HD3.out
              have d0 := cell_of hdr 0
              have d1 := cell_of hdr 1
              have d2 := cell_of hdr 2
              have hdl : w2.heap.size < wr.heap.size := by omega
              have hrow := rowE_below HRE.out HBR.out
              have hglr : g < wr.heap.size := by omega
              have hlen9 := e9_len ke hke
              have cNew : ∀ W, Below wr.heap.size wr W → Calls Tryz.prog 9 #[.agg #[.string ⟨#[]⟩, .slice (some ⟨g, 0, none⟩) 9 gcap, .slice none 0 0]] W fun e w' => ∃ p, e = .returned (.pointer (some ⟨p, 0, none⟩)) ∧ RS wr w' p (E9 ke) [] 0 ∧ Below W.heap.size W w' ∧
                  w'.cell? ⟨w2.heap.size, 0, none⟩ = some (.string ⟨#[]⟩) ∧ w'.cell? ⟨w2.heap.size, 1, none⟩ = some (.slice (some ⟨g, 0, none⟩) 9 gcap) ∧ w'.cell? ⟨w2.heap.size, 2, none⟩ = some (.slice none 0 0) ∧ w2.heap.size < w'.heap.size := by
                intro W hb
                refine (new_RS ⟨#[]⟩ (some ⟨g, 0, none⟩) 9 gcap (.slice none 0 0) (E9 ke) W (rowE_below hrow hb) hlen9 (by decide)).mono ?_
                rintro e w' ⟨p, rfl, hR⟩
                have hb' := hb.trans (hR.bel.mono hb.size)
                exact ⟨p, rfl, RS.weaken hR hb, hR.bel, (hb'.cell (p := ⟨w2.heap.size, 0, none⟩) hdl).trans d0, (hb'.cell (p := ⟨w2.heap.size, 1, none⟩) hdl).trans d1, (hb'.cell (p := ⟨w2.heap.size, 2, none⟩) hdl).trans d2, Nat.lt_of_lt_of_le hdl hb'.size⟩
              obtain ⟨kk, st', hrun, hout, hspn⟩ := asks_run ke hke most T hTs
              obtain ⟨o, op', sp'⟩ := st'
              simp only at hout hspn
              have hgrw := runT_grew (E9 ke) most 300 false _ _ _ _ hrun
              have HOP : Hid (kk = 0 → op' = []) := fun h => hgrw.op h
              have hsp0 : 0 ≤ sp' := hgrw.sp
              have cRead := fun W p kd (hR : RS wr W p (E9 ke) [] 0) => read_fr wr HEr.out (E9 ke) most hm0 hm1 (e9_small ke) p [] 0 W hR (by decide) (by decide) T (by omega) kd 300 (by decide) kk ⟨o, op', sp'⟩ hrun hout
              have cVal := fun W q kd (hM : MS W q ⟨#[]⟩ (some ⟨g, 0, none⟩) 9 gcap (.slice none 0 0) (.slice none 0 0) (E9 ke) [] 0) (hA : ∀ a, some (⟨g, 0, none⟩ : Addr) = some a → a.block ≠ q) => valueV_any q ⟨#[]⟩ (some ⟨g, 0, none⟩) 9 gcap (.slice none 0 0) (.slice none 0 0) (E9 ke) most kd hlen9 (by decide) hm0 hm1 (e9_tiny ke) hA 300 T W kk o op' sp' (by omega) hM hrun hout (by omega) (by decide)
              have HROW := Lib.hid hrow
              clear hrun hgrw hdr hrow hout
              have hX := fun (X : ByteArray) => bne_self_eq_false X.toList
              have hkk : (kk != kk) = false := bne_self_eq_false kk
              have hss : (sp' != sp') = false := bne_self_eq_false sp'
              have cN := fun W => norm_any T W (by omega)
              have cNr := fun W => normR_any T W (by omega)
              have cT := fun W => Rep.text_any T (by omega) W
              have cTr := fun W => escText_any T W (by omega)
              have cA := fun W => Rep.attr_any T (by omega) W
              have cAr := fun W => escAttr_any T W (by omega)
              obtain ⟨NT, hNT⟩ : ∃ NT : ByteArray, (⟨(normB T.data.toList).toArray⟩ : ByteArray) = NT := ⟨_, rfl⟩
              obtain ⟨TT, hTT⟩ : ∃ TT : ByteArray, (⟨(Rep.repl Rep.textM T.data.toList).toArray⟩ : ByteArray) = TT := ⟨_, rfl⟩
              obtain ⟨AT, hAT⟩ : ∃ AT : ByteArray, (⟨(Rep.repl Rep.attrM T.data.toList).toArray⟩ : ByteArray) = AT := ⟨_, rfl⟩
              rw [hNT] at cN cNr
              rw [hTT] at cT cTr
              rw [hAT] at cA cAr
              clear hNT hTT hAT
              go_wp2
              go_region_with (go_at_call 9; (first | refine (cNew _ (Below.refl _ _)).mono ?_ | refine (cNew _ (below_drewN (Below.refl _ _) 1)).mono ?_ | refine (cNew _ ((Below.refl _ _).alloc (Nat.le_refl _) _)).mono ?_ | refine (cNew _ (Below.drew ((Below.refl _ _).alloc (Nat.le_refl _) _))).mono ?_); rintro e w4 ⟨p, rfl, hRS, hbN, m0, m1, m2, m3⟩; have HR4 := Lib.hid hRS; have HBN := Lib.hid hbN; clear hRS hbN)
              all_goals
                have HPK : Hid (∃ q W, RS wr W p (E9 ke) [] 0 ∧ W.heap[q]? = some (.cells #[.string ⟨#[]⟩, .slice (some ⟨g, 0, none⟩) 9 gcap, .slice none 0 0, .int .i64 0, .slice none 0 0] TQ (0, 0)) ∧ wr.heap.size ≤ q) := ⟨_, _, RS.below HR4.out ((Below.refl _ _).alloc (Nat.le_refl _) (.cells #[.string ⟨#[]⟩, .slice (some ⟨g, 0, none⟩) 9 gcap, .slice none 0 0, .int .i64 0, .slice none 0 0] TQ)), heap_alloc_new w4 _, HR4.out.size⟩
                first
                  | (obtain ⟨W, hW⟩ : ∃ W, W = w4.alloc (.cells #[.string ⟨#[]⟩, .slice (some ⟨g, 0, none⟩) 9 gcap, .slice none 0 0, .int .i64 0, .slice none 0 0] TQ) := ⟨_, rfl⟩
                     rw [← hW]
                     obtain ⟨q, hq⟩ : ∃ q, q = w4.heap.size := ⟨_, rfl⟩
                     rw [← hq]
                     have HRW : Hid (RS wr W p (E9 ke) [] 0) := by rw [hW]; exact RS.below HR4.out ((Below.refl _ _).alloc (Nat.le_refl _) _)
                     have HQW : Hid (W.heap[q]? = some (.cells #[.string ⟨#[]⟩, .slice (some ⟨g, 0, none⟩) 9 gcap, .slice none 0 0, .int .i64 0, .slice none 0 0] TQ (0, 0))) := by rw [hW, hq]; exact heap_alloc_new w4 _
                     have hq0 : wr.heap.size ≤ q := by rw [hq]; exact HR4.out.size
                     have HQN : Hid (q ≠ W.heap.size) := by rw [hW, hq]; show _ ≠ _; simp
                     clear hW hq)
                  | (obtain ⟨q, hq⟩ : ∃ q, q = wr.heap.size := ⟨_, rfl⟩
                     rw [← hq]
                     have HRW : Hid (RS wr w4 p (E9 ke) [] 0) := HR4
                     have HQW : Hid (w4.heap[q]? = some (.cells #[.string ⟨#[]⟩, .slice (some ⟨g, 0, none⟩) 9 gcap, .slice none 0 0, .int .i64 0, .slice none 0 0] TQ (0, 0))) := by rw [hq]; exact (HBN.out.block wr.heap.size (by show _ < (wr.alloc _).heap.size; simp)).trans (heap_alloc_new wr _)
                     have hq0 : wr.heap.size ≤ q := by omega
                     have HQN : Hid (q ≠ w4.heap.size) := by
                       have h1 := (Array.getElem?_eq_some_iff.1 HQW.out).1
                       show _ ≠ _
                       omega
                     clear hq)
                have HAQ : Hid (∀ a, some (⟨g, 0, none⟩ : Addr) = some a → a.block ≠ q) := by
                  intro a h
                  cases h
                  show g ≠ q
                  omega
                clear HPK HBN HR4
                go_wp2_with (first | (go_at_call 10; refine (cRead _ p _ HRW.out).mono ?_; rintro e w6 ⟨rfl, hRS6, hF6⟩; have HM6 := Lib.hid (ms_fr HQW.out hF6 (RS.ne HRW.out HQW.out) HQN.out HROW.out hRS6.bel); have hq6 := HM6.out.lt; have HR6 := Lib.hid hRS6; clear hRS6 hF6) | (go_at_call 18; refine (cVal _ q _ HM6.out HAQ.out).mono ?_; rintro e w7 ⟨rfl, hQ7, v7, hM7⟩; have HR7 := Lib.hid (RS.qt HR6.out HM6.out.cells hQ7 hq0); obtain ⟨c3, _, _, _⟩ := hM7.cell; have hq7 := hM7.lt; clear hM7 hQ7) | (go_at_call 19; refine HR7.out.spent.mono ?_; rintro e w8 ⟨rfl, rfl⟩))
                obtain ⟨b0, hb0⟩ : ∃ b, (kk == 0) = b := ⟨_, rfl⟩
                cases b0 with
                | true =>
                  obtain rfl : kk = 0 := by simpa using hb0
                  obtain rfl := HOP.out rfl
                  have HS := Lib.hid (fun n => RS.spentQ HR7.out n)
                  have HDp := Lib.hid (fun n => RS.depthQ0 HR7.out n)
                  go_quiet (first | (go_at_call 19; exact HS.out _) | (go_at_call 20; exact HDp.out _))
                  go_wp2_with (first | (go_at_call 15; with_reducible refine (cN _).mono ?_; rintro e x1 ⟨rfl, hx1⟩) | (go_at_call 16; with_reducible refine (cNr _).mono ?_; rintro e x2 ⟨rfl, hx2⟩) | (go_at_call 21; with_reducible refine (cT _).mono ?_; rintro e x3 ⟨rfl, hx3⟩) | (go_at_call 13; with_reducible refine (cA _).mono ?_; rintro e x5 ⟨rfl, hx5⟩) | (go_at_call 22; (first | with_reducible refine (cTr _).mono ?_ | with_reducible refine (cAr _).mono ?_); rintro e x4 ⟨rfl, rfl⟩))
                  go_roundw
                  case rel => exact ⟨j + 1, s, by go_num, rfl, by omega, by omega, HBR.out.trans ((bchain (bchain (bchain (bchain (below_drewN HR7.out.bel nq) hx1) hx2) hx3) hx5).mono HBR.out.size)⟩
                  case measure => simp [intOf]; omega
                | false =>
                  have HS := Lib.hid (fun n => RS.spentQ HR7.out n)
                  go_quiet (first | (go_at_call 19; exact HS.out _))
                  go_wp2_with (first | (go_at_call 15; with_reducible refine (cN _).mono ?_; rintro e x1 ⟨rfl, hx1⟩) | (go_at_call 16; with_reducible refine (cNr _).mono ?_; rintro e x2 ⟨rfl, hx2⟩) | (go_at_call 21; with_reducible refine (cT _).mono ?_; rintro e x3 ⟨rfl, hx3⟩) | (go_at_call 13; with_reducible refine (cA _).mono ?_; rintro e x5 ⟨rfl, hx5⟩) | (go_at_call 22; (first | with_reducible refine (cTr _).mono ?_ | with_reducible refine (cAr _).mono ?_); rintro e x4 ⟨rfl, rfl⟩))
                  go_roundw
                  case rel => exact ⟨j + 1, s, by go_num, rfl, by omega, by omega, HBR.out.trans ((bchain (bchain (bchain (bchain (below_drewN HR7.out.bel nq) hx1) hx2) hx3) hx5).mono HBR.out.size)⟩
                  case measure => simp [intOf]; omega
            · obtain rfl : j = 2 := by omega
              go_wp2_with (go_at_call 11; refine (told_any _ HEr.out).mono ?_; rintro e w4 ⟨rfl, hb4⟩)
              go_ret
              exact ⟨rfl, (HBW.out.trans (HBR.out.mono HBW.out.size)).trans (hb4.mono (Nat.le_trans HBW.out.size HBR.out.size))⟩
end Go.Proofs.YtmjdjpelhhibgaaGreatDoor.Val
