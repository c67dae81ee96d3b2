/- The law ValueTypes, walked. -/
import Derived.Test.YtmjdjpelhhibgaaGreatDoorVTold
import Derived.Test.YtmjdjpelhhibgaaGreatDoorVNormR
namespace Go.Proofs.YtmjdjpelhhibgaaGreatDoor.Val
open Go Go.RowKit Go.Proofs.YtmjdjpelhhibgaaGreatDoor.Rf Go.Proofs.YtmjdjpelhhibgaaGreatDoor.Spec Go.Proofs.YtmjdjpelhhibgaaGreatDoor.Giv
set_option linter.unusedVariables false
set_option linter.unusedSimpArgs false
def sp (c : UInt8) : UInt8 := if spaceB (c.toNat : Int) = true then 32 else c
theorem runT_sp (E : List Ent) (most : Int) : ∀ (l : List UInt8) (st : St), (l.all fun c => c != 38) = true → runT E most (l.length + 1) false l st = some (0, ⟨st.out ++ l.map sp, st.op, st.sp⟩)
  | [], st, _ => by simp [runT]
  | c :: l, st, h => by
    rw [List.all_cons, Bool.and_eq_true] at h
    have h38 : ¬ c.toNat = 38 := fun e => by
      have : c ≠ 38 := by simpa using h.1
      exact this (UInt8.toNat_inj.1 e)
    rw [List.length_cons, runT]
    by_cases hs : spaceB (c.toNat : Int) = true
    · have e : sp c = 32 := by unfold sp; rw [if_pos hs]
      simp only [hs, if_true]
      rw [runT_sp E most l _ h.2, List.map_cons, e]
      simp
    · have e : sp c = c := by unfold sp; rw [if_neg hs]
      simp only [hs, if_false, Bool.false_eq_true, and_false, h38]
      rw [runT_sp E most l _ h.2, List.map_cons, e]
      simp
def sOf (ps : List (List UInt8 × List UInt8)) : List UInt8 := ps.flatMap fun p => p.1 ++ p.2
def okP (p : List UInt8 × List UInt8) : Bool := (p.1.all fun c => spaceB (c.toNat : Int) && c != 38) && ((!p.1.isEmpty) && ((p.2.all fun c => !spaceB (c.toNat : Int) && c != 38) && !p.2.isEmpty))
theorem fl_blanks : ∀ (b x : List UInt8), (b.all fun c => c == 32) = true → fl [] (b ++ x) = fl [] x
  | [], x, _ => rfl
  | c :: b, x, h => by
    rw [List.all_cons, Bool.and_eq_true] at h
    have hc : c = 32 := by simpa using h.1
    rw [List.cons_append, fl, if_pos hc, if_pos rfl, fl_blanks b x h.2]
theorem fl_blank1 (cur b x : List UInt8) (hb : b ≠ []) (h : (b.all fun c => c == 32) = true) : fl cur (b ++ x) = tail1 cur ++ fl [] x := by
  cases b with
  | nil => exact absurd rfl hb
  | cons c b =>
    rw [List.all_cons, Bool.and_eq_true] at h
    have hc : c = 32 := by simpa using h.1
    rw [List.cons_append, fl, if_pos hc, fl_blanks b x h.2]
    unfold tail1
    split <;> simp
theorem fl_pairs : ∀ (ps : List (List UInt8 × List UInt8)) (cur : List UInt8), ps.all okP = true → fl cur ((sOf ps).map sp ++ [32]) = tail1 cur ++ ps.map (·.2)
  | [], cur, _ => by
    have := fl_blank1 cur [32] [] (by simp) (by decide)
    simpa [sOf, fl] using this
  | p :: ps, cur, h => by
    rw [List.all_cons, Bool.and_eq_true] at h
    obtain ⟨hp, hps⟩ := h
    unfold okP at hp
    simp only [Bool.and_eq_true] at hp
    obtain ⟨h1, h2, h3, h4⟩ := hp
    have hb : (p.1.map sp).all (fun c => c == 32) = true := by
      rw [List.all_map, List.all_eq_true]
      intro c hc
      have := List.all_eq_true.1 h1 c hc
      simp only [Bool.and_eq_true] at this
      simp [sp, this.1]
    have hbn : p.1.map sp ≠ [] := by
      intro e
      have := List.map_eq_nil_iff.1 e
      rw [this] at h2
      cases h2
    have hw : p.2.map sp = p.2 := by
      have : p.2.map sp = p.2.map id := List.map_congr_left fun c hc => by
        have := List.all_eq_true.1 h3 c hc
        simp only [Bool.and_eq_true, Bool.not_eq_true'] at this
        simp [sp, this.1]
      rw [this, List.map_id]
    have hw32 : no32L p.2 = true := by
      unfold no32L
      rw [List.all_eq_true]
      intro c hc
      have := List.all_eq_true.1 h3 c hc
      simp only [Bool.and_eq_true, Bool.not_eq_true'] at this
      rw [bne_iff_ne]
      rintro rfl
      exact absurd this.1 (by decide)
    have hwn : p.2 ≠ [] := by
      intro e
      rw [e] at h4
      cases h4
    have e : (sOf (p :: ps)).map sp ++ [32] = p.1.map sp ++ (p.2 ++ ((sOf ps).map sp ++ [32])) := by
      unfold sOf
      rw [List.flatMap_cons, List.map_append, List.map_append, hw]
      simp
    rw [e, fl_blank1 cur _ _ hbn hb, fl_word p.2 _ [] hw32, List.nil_append, fl_pairs ps p.2 hps]
    unfold tail1
    rw [if_neg hwn]
    simp
theorem pairs_amp (ps : List (List UInt8 × List UInt8)) (h : ps.all okP = true) : ((sOf ps ++ [32]).all fun c => c != 38) = true := by
  rw [List.all_append, Bool.and_eq_true]
  refine ⟨?_, by decide⟩
  rw [List.all_eq_true]
  intro c hc
  unfold sOf at hc
  obtain ⟨p, hp, hcp⟩ := List.mem_flatMap.1 hc
  have := List.all_eq_true.1 h p hp
  unfold okP at this
  simp only [Bool.and_eq_true] at this
  obtain ⟨h1, _, h3, _⟩ := this
  rcases List.mem_append.1 hcp with hc | hc
  · have := List.all_eq_true.1 h1 c hc
    simp only [Bool.and_eq_true] at this
    exact this.2
  · have := List.all_eq_true.1 h3 c hc
    simp only [Bool.and_eq_true] at this
    exact this.2
/-- The state of a round. -/
structure Ty (S T : ByteArray) (k : Nat) : Prop where
  ps : ∃ ps : List (List UInt8 × List UInt8), ps.length = k ∧ ps.all okP = true ∧ S.data.toList = sOf ps ∧ T.data.toList = Lib.join (ps.map (·.2)) [32]
  s : S.size ≤ 4 * k
  t : T.size ≤ 3 * k
theorem ty_zero : Ty ⟨#[]⟩ ⟨#[]⟩ 0 := ⟨⟨[], rfl, rfl, rfl, rfl⟩, Nat.le_refl _, Nat.le_refl _⟩
theorem ty_first {S T : ByteArray} (h : Ty S T 0) (b w : ByteArray) (hp : okP (b.data.toList, w.data.toList) = true) (hb : b.size ≤ 2) (hw : w.size ≤ 2) : Ty (S ++ b ++ w) (T ++ w) 1 := by
  obtain ⟨⟨ps, h1, h2, h3, h4⟩, h5, h6⟩ := h
  have hps := List.length_eq_zero_iff.1 h1
  subst hps
  refine ⟨⟨[(b.data.toList, w.data.toList)], rfl, by simp [hp], ?_, ?_⟩, ?_, ?_⟩
  · rw [app_list, app_list, h3]; simp [sOf]
  · rw [app_list, h4]; simp [Lib.join_nil, Lib.join_one]
  · rw [ByteArray.size_append, ByteArray.size_append]; omega
  · rw [ByteArray.size_append]; omega
theorem ty_next {S T : ByteArray} {k : Nat} (h : Ty S T (k + 1)) (b w : ByteArray) (hp : okP (b.data.toList, w.data.toList) = true) (hb : b.size ≤ 2) (hw : w.size ≤ 2) : Ty (S ++ b ++ w) (T ++ ⟨#[32]⟩ ++ w) (k + 1 + 1) := by
  obtain ⟨⟨ps, h1, h2, h3, h4⟩, h5, h6⟩ := h
  have hne : ps.map (·.2) ≠ [] := by
    intro e
    have : (ps.map (·.2)).length = 0 := by rw [e]; rfl
    rw [List.length_map] at this
    omega
  refine ⟨⟨ps ++ [(b.data.toList, w.data.toList)], by simp [h1], by simp [h2, hp], ?_, ?_⟩, ?_, ?_⟩
  · rw [app_list, app_list, h3]; simp [sOf]
  · rw [app_list, app_list, h4, List.map_append, List.map_cons, List.map_nil, join_snoc _ _ hne]; simp
  · rw [ByteArray.size_append, ByteArray.size_append]; omega
  · rw [ByteArray.size_append, ByteArray.size_append]; show T.size + 1 + w.size ≤ _; omega
theorem ty_empty {S T : ByteArray} (h : Ty S T 0) : T.toList.isEmpty = true := by
  rw [toList_isEmpty, decide_eq_true_eq]
  have := h.t
  omega
theorem ty_full {S T : ByteArray} {k : Nat} (h : Ty S T (k + 1)) : T.toList.isEmpty = false := by
  obtain ⟨⟨ps, h1, h2, h3, h4⟩, h5, h6⟩ := h
  rw [toList_isEmpty, decide_eq_false_iff_not]
  intro hz
  have hz2 : T.data.toList = [] := List.length_eq_zero_iff.1 hz
  rw [hz2] at h4
  refine join_full (ps.map (·.2)) ?_ ?_ h4.symm
  · intro e
    have : (ps.map (·.2)).length = 0 := by rw [e]; rfl
    rw [List.length_map] at this
    omega
  · intro x hx
    obtain ⟨p, hp, rfl⟩ := List.mem_map.1 hx
    have := List.all_eq_true.1 h2 p hp
    unfold okP at this
    simp only [Bool.and_eq_true] at this
    intro e
    rw [e] at this
    exact absurd this.2.2.2 (by decide)
theorem ty_e {S T : ByteArray} {k : Nat} (h : Ty S T k) (he : (!T.toList.isEmpty) = false) (b w : ByteArray) (hp : okP (b.data.toList, w.data.toList) = true) (hb : b.size ≤ 2) (hw : w.size ≤ 2) : Ty (S ++ b ++ w) (T ++ w) (k + 1) := by
  cases k with
  | zero => exact ty_first h b w hp hb hw
  | succ k => rw [ty_full h] at he; cases he
theorem ty_f {S T : ByteArray} {k : Nat} (h : Ty S T k) (he : (!T.toList.isEmpty) = true) (b w : ByteArray) (hp : okP (b.data.toList, w.data.toList) = true) (hb : b.size ≤ 2) (hw : w.size ≤ 2) : Ty (S ++ b ++ w) (T ++ ⟨#[32]⟩ ++ w) (k + 1) := by
  cases k with
  | zero => rw [ty_empty h] at he; cases he
  | succ k => exact ty_next h b w hp hb hw
theorem ty_run {S T : ByteArray} {k : Nat} (h : Ty S T k) : ∃ A : ByteArray, A.size = S.size + 1 ∧ runT [] 0 (S.size + 2) false (S ++ ⟨#[32]⟩).data.toList ⟨[], [], 0⟩ = some (0, ⟨A.data.toList, [], 0⟩) ∧ (⟨(normB A.data.toList).toArray⟩ : ByteArray) = T := by
  obtain ⟨⟨ps, h1, h2, h3, h4⟩, h5, h6⟩ := h
  have hl : (S ++ ⟨#[32]⟩).data.toList = sOf ps ++ [32] := by rw [app_list, h3]
  have hsz : S.size = (sOf ps).length := by rw [← h3]; rfl
  refine ⟨⟨((sOf ps ++ [32]).map sp).toArray⟩, ?_, ?_, ?_⟩
  · show ((sOf ps ++ [32]).map sp).toArray.size = _
    simp [hsz]
  · have := runT_sp [] 0 (sOf ps ++ [32]) ⟨[], [], 0⟩ (pairs_amp ps h2)
    rw [hl, hsz]
    simpa using this
  · apply ByteArray.ext
    apply Array.toList_inj.mp
    show normB ((sOf ps ++ [32]).map sp) = _
    rw [h4]
    unfold normB
    rw [List.map_append, show [(32 : UInt8)].map sp = [32] from rfl, fl_pairs ps [] h2]
    rfl
theorem rem_cases' (x : Int) (n : Nat) (hn : 0 < n) : ∃ k : Nat, k < n ∧ (IntKind.u64.wrap x).tmod (n : Int) = (k : Int) := by
  have hw : 0 ≤ IntKind.u64.wrap x := by unfold IntKind.wrap; simp [IntKind.bits, IntKind.signed]; omega
  have h0 : 0 ≤ Int.tmod (IntKind.u64.wrap x) (n : Int) := Int.tmod_nonneg _ hw
  have h1 : Int.tmod (IntKind.u64.wrap x) (n : Int) < (n : Int) := Int.tmod_lt_of_pos _ (by omega)
  exact ⟨((IntKind.u64.wrap x).tmod n).toNat, by omega, by omega⟩
theorem add_block (x : Addr) (k : Nat) : (x.add k).block = x.block := by unfold Addr.add; split <;> rfl
theorem cell_alloc {W : World} {p : Addr} {v : Value} (h : W.cell? p = some v) (o : Obj) : (W.alloc o).cell? p = some v := by
  have hl := cell_lt h
  rw [← h]
  unfold World.cell?
  rw [heap_alloc_old W o hl]
theorem rowE_nil' (w : World) (A : Option Addr) : RowE w A [] := fun i hi => absurd hi (Nat.not_lt_zero i)
set_option maxRecDepth 100000 in
set_option maxHeartbeats 8000000 in
theorem types_walk (a : Option Addr) (len cap : Nat) (zs : List Int) (w : World) (hE : Env w)
    (hrow : (a = none ∧ len = 0 ∧ cap = 0 ∧ zs = []) ∨ ∃ x, a = some x ∧ len ≤ cap ∧ cap ≤ maxLen ∧ zs.length = cap ∧ (∀ i, i < zs.length → w.cell? (x.add i) = some (.int .i64 (zs.getD i 0))) ∧ ∀ n ∈ zs, (Lit.int .i64 n).wf = true) (hy : len * 8 ≤ 140737488351232) :
    Calls Tryz.prog 6 #[.slice a len cap] w fun e w' => e = .returned (.bool true) ∧ Below w.heap.size w w' := by
  have HE := Lib.hid hE
  have hcell : Hid (∀ i, i < len → ∃ x z, a = some x ∧ x.block < w.heap.size ∧ w.cell? (x.add i) = some (.int .i64 z)) := by
    intro i hi
    rcases hrow with ⟨_, h0, _⟩ | ⟨x, h1, h2, h3, h4, h5, h6⟩
    · omega
    · have := h5 i (by omega)
      have hlt := cell_lt this
      have hbl : (x.add i).block = x.block := by unfold Addr.add; split <;> rfl
      exact ⟨x, _, h1, by rw [← hbl]; exact hlt, this⟩
  have hlc : len ≤ cap := by
    rcases hrow with ⟨_, h0, h1, _⟩ | ⟨x, h1, h2, _⟩
    · omega
    · exact h2
  clear hE hrow
  go_enter Tryz.func6, Tryz.ntmps6
  go_wp2
  go_loopw [5, 3, 4] (fun i s t wr => ∃ (k : Nat) (S T : ByteArray), i = .int .i64 k ∧ s = .string S ∧ t = .string T ∧ k ≤ len ∧ k ≤ 10 ∧ Hid (Ty S T k) ∧ Below w.heap.size w wr) (fun i _ _ _ => 10 - (intOf i).toNat)
  case atStart => exact ⟨0, ⟨#[]⟩, ⟨#[]⟩, rfl, rfl, rfl, by omega, by omega, ty_zero, Below.refl _ _⟩
  case round =>
    obtain ⟨k, S, T, rfl, rfl, rfl, hk, hk10, HT, hbw⟩ := hrel
    by_cases hlt : k < len ∧ k < 10
    · obtain ⟨hl1, hl2⟩ := hlt
      have hd1 : decide ((k : Int) < (len : Int)) = true := by simp; omega
      obtain ⟨x, z, rfl, hxb, hz⟩ := hcell.out k hl1
      have hz2 : wr.cell? (x.add k) = some (.int .i64 z) := (hbw.cell (p := x.add k) (by rw [add_block]; exact hxb)).trans hz
      obtain ⟨ka, hka, h1⟩ := rem_cases' z 3 (by omega)
      obtain ⟨kb, hkb, h2⟩ := rem_cases' ((IntKind.u64.wrap z).tdiv 3) 4 (by omega)
      have h1 : (IntKind.u64.wrap z).tmod 3 = (ka : Int) := h1
      have h2 : (IntKind.u64.wrap ((IntKind.u64.wrap z).tdiv 3)).tmod 4 = (kb : Int) := h2
      have hS := HT.out.s
      have hT := HT.out.t
      clear hz
      have hka3 : ka = 0 ∨ ka = 1 ∨ ka = 2 := by omega
      have hkb4 : kb = 0 ∨ kb = 1 ∨ kb = 2 ∨ kb = 3 := by omega
      have hz3 : ∀ o, (wr.alloc o).cell? (x.add k) = some (.int .i64 z) := fun o => cell_alloc hz2 o
      have hz4 : ∀ o o', ((wr.alloc o).alloc o').cell? (x.add k) = some (.int .i64 z) := fun o o' => cell_alloc (hz3 o) o'
      have hk1 : (k : Int) < (len : Int) := by omega
      have hk2 : (k : Int) < 10 := by omega
      clear hka hkb hd1
      obtain ⟨be, he⟩ : ∃ b, (!T.toList.isEmpty) = b := ⟨_, rfl⟩
      cases be with
      | false =>
        rcases hka3 with rfl | rfl | rfl
        · rcases hkb4 with rfl | rfl | rfl | rfl
          · have hN : Hid (Ty (S ++ ⟨#[32]⟩ ++ ⟨#[97]⟩) (T ++ ⟨#[97]⟩) (k + 1)) := ty_e HT.out he ⟨#[32]⟩ ⟨#[97]⟩ (by decide) (by decide) (by decide)
            go_wp2
            go_roundw
            case rel => exact ⟨k + 1, _, _, by go_num, rfl, rfl, by omega, by omega, hN, (hbw.alloc hbw.size _).alloc (by have := hbw.size; simp; omega) _⟩
            case measure => simp [intOf]; omega
          · have hN : Hid (Ty (S ++ ⟨#[32, 32]⟩ ++ ⟨#[97]⟩) (T ++ ⟨#[97]⟩) (k + 1)) := ty_e HT.out he ⟨#[32, 32]⟩ ⟨#[97]⟩ (by decide) (by decide) (by decide)
            go_wp2
            go_roundw
            case rel => exact ⟨k + 1, _, _, by go_num, rfl, rfl, by omega, by omega, hN, (hbw.alloc hbw.size _).alloc (by have := hbw.size; simp; omega) _⟩
            case measure => simp [intOf]; omega
          · have hN : Hid (Ty (S ++ ⟨#[9]⟩ ++ ⟨#[97]⟩) (T ++ ⟨#[97]⟩) (k + 1)) := ty_e HT.out he ⟨#[9]⟩ ⟨#[97]⟩ (by decide) (by decide) (by decide)
            go_wp2
            go_roundw
            case rel => exact ⟨k + 1, _, _, by go_num, rfl, rfl, by omega, by omega, hN, (hbw.alloc hbw.size _).alloc (by have := hbw.size; simp; omega) _⟩
            case measure => simp [intOf]; omega
          · have hN : Hid (Ty (S ++ ⟨#[10, 32]⟩ ++ ⟨#[97]⟩) (T ++ ⟨#[97]⟩) (k + 1)) := ty_e HT.out he ⟨#[10, 32]⟩ ⟨#[97]⟩ (by decide) (by decide) (by decide)
            go_wp2
            go_roundw
            case rel => exact ⟨k + 1, _, _, by go_num, rfl, rfl, by omega, by omega, hN, (hbw.alloc hbw.size _).alloc (by have := hbw.size; simp; omega) _⟩
            case measure => simp [intOf]; omega
        · rcases hkb4 with rfl | rfl | rfl | rfl
          · have hN : Hid (Ty (S ++ ⟨#[32]⟩ ++ ⟨#[98, 99]⟩) (T ++ ⟨#[98, 99]⟩) (k + 1)) := ty_e HT.out he ⟨#[32]⟩ ⟨#[98, 99]⟩ (by decide) (by decide) (by decide)
            go_wp2
            go_roundw
            case rel => exact ⟨k + 1, _, _, by go_num, rfl, rfl, by omega, by omega, hN, (hbw.alloc hbw.size _).alloc (by have := hbw.size; simp; omega) _⟩
            case measure => simp [intOf]; omega
          · have hN : Hid (Ty (S ++ ⟨#[32, 32]⟩ ++ ⟨#[98, 99]⟩) (T ++ ⟨#[98, 99]⟩) (k + 1)) := ty_e HT.out he ⟨#[32, 32]⟩ ⟨#[98, 99]⟩ (by decide) (by decide) (by decide)
            go_wp2
            go_roundw
            case rel => exact ⟨k + 1, _, _, by go_num, rfl, rfl, by omega, by omega, hN, (hbw.alloc hbw.size _).alloc (by have := hbw.size; simp; omega) _⟩
            case measure => simp [intOf]; omega
          · have hN : Hid (Ty (S ++ ⟨#[9]⟩ ++ ⟨#[98, 99]⟩) (T ++ ⟨#[98, 99]⟩) (k + 1)) := ty_e HT.out he ⟨#[9]⟩ ⟨#[98, 99]⟩ (by decide) (by decide) (by decide)
            go_wp2
            go_roundw
            case rel => exact ⟨k + 1, _, _, by go_num, rfl, rfl, by omega, by omega, hN, (hbw.alloc hbw.size _).alloc (by have := hbw.size; simp; omega) _⟩
            case measure => simp [intOf]; omega
          · have hN : Hid (Ty (S ++ ⟨#[10, 32]⟩ ++ ⟨#[98, 99]⟩) (T ++ ⟨#[98, 99]⟩) (k + 1)) := ty_e HT.out he ⟨#[10, 32]⟩ ⟨#[98, 99]⟩ (by decide) (by decide) (by decide)
            go_wp2
            go_roundw
            case rel => exact ⟨k + 1, _, _, by go_num, rfl, rfl, by omega, by omega, hN, (hbw.alloc hbw.size _).alloc (by have := hbw.size; simp; omega) _⟩
            case measure => simp [intOf]; omega
        · rcases hkb4 with rfl | rfl | rfl | rfl
          · have hN : Hid (Ty (S ++ ⟨#[32]⟩ ++ ⟨#[100]⟩) (T ++ ⟨#[100]⟩) (k + 1)) := ty_e HT.out he ⟨#[32]⟩ ⟨#[100]⟩ (by decide) (by decide) (by decide)
            go_wp2
            go_roundw
            case rel => exact ⟨k + 1, _, _, by go_num, rfl, rfl, by omega, by omega, hN, (hbw.alloc hbw.size _).alloc (by have := hbw.size; simp; omega) _⟩
            case measure => simp [intOf]; omega
          · have hN : Hid (Ty (S ++ ⟨#[32, 32]⟩ ++ ⟨#[100]⟩) (T ++ ⟨#[100]⟩) (k + 1)) := ty_e HT.out he ⟨#[32, 32]⟩ ⟨#[100]⟩ (by decide) (by decide) (by decide)
            go_wp2
            go_roundw
            case rel => exact ⟨k + 1, _, _, by go_num, rfl, rfl, by omega, by omega, hN, (hbw.alloc hbw.size _).alloc (by have := hbw.size; simp; omega) _⟩
            case measure => simp [intOf]; omega
          · have hN : Hid (Ty (S ++ ⟨#[9]⟩ ++ ⟨#[100]⟩) (T ++ ⟨#[100]⟩) (k + 1)) := ty_e HT.out he ⟨#[9]⟩ ⟨#[100]⟩ (by decide) (by decide) (by decide)
            go_wp2
            go_roundw
            case rel => exact ⟨k + 1, _, _, by go_num, rfl, rfl, by omega, by omega, hN, (hbw.alloc hbw.size _).alloc (by have := hbw.size; simp; omega) _⟩
            case measure => simp [intOf]; omega
          · have hN : Hid (Ty (S ++ ⟨#[10, 32]⟩ ++ ⟨#[100]⟩) (T ++ ⟨#[100]⟩) (k + 1)) := ty_e HT.out he ⟨#[10, 32]⟩ ⟨#[100]⟩ (by decide) (by decide) (by decide)
            go_wp2
            go_roundw
            case rel => exact ⟨k + 1, _, _, by go_num, rfl, rfl, by omega, by omega, hN, (hbw.alloc hbw.size _).alloc (by have := hbw.size; simp; omega) _⟩
            case measure => simp [intOf]; omega
      | true =>
        rcases hka3 with rfl | rfl | rfl
        · rcases hkb4 with rfl | rfl | rfl | rfl
          · have hN : Hid (Ty (S ++ ⟨#[32]⟩ ++ ⟨#[97]⟩) (T ++ ⟨#[32]⟩ ++ ⟨#[97]⟩) (k + 1)) := ty_f HT.out he ⟨#[32]⟩ ⟨#[97]⟩ (by decide) (by decide) (by decide)
            go_wp2
            go_roundw
            case rel => exact ⟨k + 1, _, _, by go_num, rfl, rfl, by omega, by omega, hN, (hbw.alloc hbw.size _).alloc (by have := hbw.size; simp; omega) _⟩
            case measure => simp [intOf]; omega
          · have hN : Hid (Ty (S ++ ⟨#[32, 32]⟩ ++ ⟨#[97]⟩) (T ++ ⟨#[32]⟩ ++ ⟨#[97]⟩) (k + 1)) := ty_f HT.out he ⟨#[32, 32]⟩ ⟨#[97]⟩ (by decide) (by decide) (by decide)
            go_wp2
            go_roundw
            case rel => exact ⟨k + 1, _, _, by go_num, rfl, rfl, by omega, by omega, hN, (hbw.alloc hbw.size _).alloc (by have := hbw.size; simp; omega) _⟩
            case measure => simp [intOf]; omega
          · have hN : Hid (Ty (S ++ ⟨#[9]⟩ ++ ⟨#[97]⟩) (T ++ ⟨#[32]⟩ ++ ⟨#[97]⟩) (k + 1)) := ty_f HT.out he ⟨#[9]⟩ ⟨#[97]⟩ (by decide) (by decide) (by decide)
            go_wp2
            go_roundw
            case rel => exact ⟨k + 1, _, _, by go_num, rfl, rfl, by omega, by omega, hN, (hbw.alloc hbw.size _).alloc (by have := hbw.size; simp; omega) _⟩
            case measure => simp [intOf]; omega
          · have hN : Hid (Ty (S ++ ⟨#[10, 32]⟩ ++ ⟨#[97]⟩) (T ++ ⟨#[32]⟩ ++ ⟨#[97]⟩) (k + 1)) := ty_f HT.out he ⟨#[10, 32]⟩ ⟨#[97]⟩ (by decide) (by decide) (by decide)
            go_wp2
            go_roundw
            case rel => exact ⟨k + 1, _, _, by go_num, rfl, rfl, by omega, by omega, hN, (hbw.alloc hbw.size _).alloc (by have := hbw.size; simp; omega) _⟩
            case measure => simp [intOf]; omega
        · rcases hkb4 with rfl | rfl | rfl | rfl
          · have hN : Hid (Ty (S ++ ⟨#[32]⟩ ++ ⟨#[98, 99]⟩) (T ++ ⟨#[32]⟩ ++ ⟨#[98, 99]⟩) (k + 1)) := ty_f HT.out he ⟨#[32]⟩ ⟨#[98, 99]⟩ (by decide) (by decide) (by decide)
            go_wp2
            go_roundw
            case rel => exact ⟨k + 1, _, _, by go_num, rfl, rfl, by omega, by omega, hN, (hbw.alloc hbw.size _).alloc (by have := hbw.size; simp; omega) _⟩
            case measure => simp [intOf]; omega
          · have hN : Hid (Ty (S ++ ⟨#[32, 32]⟩ ++ ⟨#[98, 99]⟩) (T ++ ⟨#[32]⟩ ++ ⟨#[98, 99]⟩) (k + 1)) := ty_f HT.out he ⟨#[32, 32]⟩ ⟨#[98, 99]⟩ (by decide) (by decide) (by decide)
            go_wp2
            go_roundw
            case rel => exact ⟨k + 1, _, _, by go_num, rfl, rfl, by omega, by omega, hN, (hbw.alloc hbw.size _).alloc (by have := hbw.size; simp; omega) _⟩
            case measure => simp [intOf]; omega
          · have hN : Hid (Ty (S ++ ⟨#[9]⟩ ++ ⟨#[98, 99]⟩) (T ++ ⟨#[32]⟩ ++ ⟨#[98, 99]⟩) (k + 1)) := ty_f HT.out he ⟨#[9]⟩ ⟨#[98, 99]⟩ (by decide) (by decide) (by decide)
            go_wp2
            go_roundw
            case rel => exact ⟨k + 1, _, _, by go_num, rfl, rfl, by omega, by omega, hN, (hbw.alloc hbw.size _).alloc (by have := hbw.size; simp; omega) _⟩
            case measure => simp [intOf]; omega
          · have hN : Hid (Ty (S ++ ⟨#[10, 32]⟩ ++ ⟨#[98, 99]⟩) (T ++ ⟨#[32]⟩ ++ ⟨#[98, 99]⟩) (k + 1)) := ty_f HT.out he ⟨#[10, 32]⟩ ⟨#[98, 99]⟩ (by decide) (by decide) (by decide)
            go_wp2
            go_roundw
            case rel => exact ⟨k + 1, _, _, by go_num, rfl, rfl, by omega, by omega, hN, (hbw.alloc hbw.size _).alloc (by have := hbw.size; simp; omega) _⟩
            case measure => simp [intOf]; omega
        · rcases hkb4 with rfl | rfl | rfl | rfl
          · have hN : Hid (Ty (S ++ ⟨#[32]⟩ ++ ⟨#[100]⟩) (T ++ ⟨#[32]⟩ ++ ⟨#[100]⟩) (k + 1)) := ty_f HT.out he ⟨#[32]⟩ ⟨#[100]⟩ (by decide) (by decide) (by decide)
            go_wp2
            go_roundw
            case rel => exact ⟨k + 1, _, _, by go_num, rfl, rfl, by omega, by omega, hN, (hbw.alloc hbw.size _).alloc (by have := hbw.size; simp; omega) _⟩
            case measure => simp [intOf]; omega
          · have hN : Hid (Ty (S ++ ⟨#[32, 32]⟩ ++ ⟨#[100]⟩) (T ++ ⟨#[32]⟩ ++ ⟨#[100]⟩) (k + 1)) := ty_f HT.out he ⟨#[32, 32]⟩ ⟨#[100]⟩ (by decide) (by decide) (by decide)
            go_wp2
            go_roundw
            case rel => exact ⟨k + 1, _, _, by go_num, rfl, rfl, by omega, by omega, hN, (hbw.alloc hbw.size _).alloc (by have := hbw.size; simp; omega) _⟩
            case measure => simp [intOf]; omega
          · have hN : Hid (Ty (S ++ ⟨#[9]⟩ ++ ⟨#[100]⟩) (T ++ ⟨#[32]⟩ ++ ⟨#[100]⟩) (k + 1)) := ty_f HT.out he ⟨#[9]⟩ ⟨#[100]⟩ (by decide) (by decide) (by decide)
            go_wp2
            go_roundw
            case rel => exact ⟨k + 1, _, _, by go_num, rfl, rfl, by omega, by omega, hN, (hbw.alloc hbw.size _).alloc (by have := hbw.size; simp; omega) _⟩
            case measure => simp [intOf]; omega
          · have hN : Hid (Ty (S ++ ⟨#[10, 32]⟩ ++ ⟨#[100]⟩) (T ++ ⟨#[32]⟩ ++ ⟨#[100]⟩) (k + 1)) := ty_f HT.out he ⟨#[10, 32]⟩ ⟨#[100]⟩ (by decide) (by decide) (by decide)
            go_wp2
            go_roundw
            case rel => exact ⟨k + 1, _, _, by go_num, rfl, rfl, by omega, by omega, hN, (hbw.alloc hbw.size _).alloc (by have := hbw.size; simp; omega) _⟩
            case measure => simp [intOf]; omega
    · have hS := HT.out.s
      have hT := HT.out.t
      obtain ⟨A, hAz, hrun, hnorm⟩ := ty_run HT.out
      have hSz : (S ++ ⟨#[32]⟩ : ByteArray).size = S.size + 1 := by rw [ByteArray.size_append]; rfl
      have cN := fun W => norm_any A W (by omega)
      have cM := fun W => normR_any A W (by omega)
      rw [hnorm] at cN cM
      have hr1 : readS 1 0 A.data.toList = A := by unfold readS; rw [if_pos rfl, if_neg (by decide)]
      have hr2 : readS 2 0 A.data.toList = T := by unfold readS; rw [if_pos rfl, if_pos rfl]; exact hnorm
      have hAl : A.data.toList.length ≤ 1000000000 := by show A.size ≤ _; omega
      have hAs : ((A.size : Int) == (S.size : Int) + 1) = true := by rw [beq_iff_eq]; omega
      have HBW := Lib.hid hbw
      have HRUN := Lib.hid hrun
      have HE1 := Lib.hid (HE.out.below hbw)
      clear hbw hrun hnorm HT
      by_cases hl : k < len
      · have hk10' : k = 10 := by omega
        have hd1 : decide ((k : Int) < (len : Int)) = true := by simp; omega
        have hd2 : ¬ (k : Int) < 10 := by omega
        have hd3 : (k : Int) < (len : Int) := by omega
        go_wp2_with fail
        refine (new_RS _ _ 0 _ _ [] wr (rowE_nil' _ _) rfl (by omega)).mono ?_
        rintro e w2 ⟨p, rfl, h2⟩
        go_wp2_with fail
        refine (RS.read h2 HE1.out (entR_small [] (by simp)) (by decide) (by decide) 0 (by decide) (by decide) (S ++ ⟨#[32]⟩) (by omega) 1 (S.size + 2) (by simp; omega) 0 _ HRUN.out hAl A hr1).mono ?_
        clear h2
        rintro e w3 ⟨rfl, h3⟩
        go_wp2_with fail
        refine (RS.read h3 HE1.out (entR_small [] (by simp)) (by decide) (by decide) 0 (by decide) (by decide) (S ++ ⟨#[32]⟩) (by omega) 2 (S.size + 2) (by simp; omega) 0 _ HRUN.out hAl T hr2).mono ?_
        clear h3
        rintro e w4 ⟨rfl, h4⟩
        have HB4 := Lib.hid (HBW.out.trans (h4.bel.mono HBW.out.size))
        clear h4
        go_wp2_with (first | (go_at_call 11; refine (told_any _ (HE.out.below HB4.out)).mono ?_; rintro e w5 ⟨rfl, hb5⟩) | (go_at_call 16; refine (cM _).mono ?_; rintro e w6 ⟨rfl, hb6⟩) | (go_at_call 15; refine (cN _).mono ?_; rintro e w7 ⟨rfl, hb7⟩))
        go_ret
        exact ⟨rfl, HB4.out.trans ((hb5.trans ((hb6.trans (hb7.mono hb6.size)).mono hb5.size)).mono HB4.out.size)⟩
      · have hd1 : decide ((k : Int) < (len : Int)) = false := by simp; omega
        have hd3 : ¬ (k : Int) < (len : Int) := by omega
        go_wp2_with fail
        refine (new_RS _ _ 0 _ _ [] wr (rowE_nil' _ _) rfl (by omega)).mono ?_
        rintro e w2 ⟨p, rfl, h2⟩
        go_wp2_with fail
        refine (RS.read h2 HE1.out (entR_small [] (by simp)) (by decide) (by decide) 0 (by decide) (by decide) (S ++ ⟨#[32]⟩) (by omega) 1 (S.size + 2) (by simp; omega) 0 _ HRUN.out hAl A hr1).mono ?_
        clear h2
        rintro e w3 ⟨rfl, h3⟩
        go_wp2_with fail
        refine (RS.read h3 HE1.out (entR_small [] (by simp)) (by decide) (by decide) 0 (by decide) (by decide) (S ++ ⟨#[32]⟩) (by omega) 2 (S.size + 2) (by simp; omega) 0 _ HRUN.out hAl T hr2).mono ?_
        clear h3
        rintro e w4 ⟨rfl, h4⟩
        have HB4 := Lib.hid (HBW.out.trans (h4.bel.mono HBW.out.size))
        clear h4
        go_wp2_with (first | (go_at_call 11; refine (told_any _ (HE.out.below HB4.out)).mono ?_; rintro e w5 ⟨rfl, hb5⟩) | (go_at_call 16; refine (cM _).mono ?_; rintro e w6 ⟨rfl, hb6⟩) | (go_at_call 15; refine (cN _).mono ?_; rintro e w7 ⟨rfl, hb7⟩))
        go_ret
        exact ⟨rfl, HB4.out.trans ((hb5.trans ((hb6.trans (hb7.mono hb6.size)).mono hb5.size)).mono HB4.out.size)⟩
end Go.Proofs.YtmjdjpelhhibgaaGreatDoor.Val
