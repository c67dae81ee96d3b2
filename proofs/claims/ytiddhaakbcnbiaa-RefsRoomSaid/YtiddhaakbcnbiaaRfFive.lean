/- The walk of RefsFive. -/
import Derived.Test.YtiddhaakbcnbiaaRfOpen
import Derived.ChangeSame
namespace Go.Proofs.Ytiddhaakbcnbiaa.Rf
open Go.RowKit
set_option linter.unusedVariables false
def zE : Ent := ⟨⟨#[]⟩, ⟨#[]⟩, false⟩
def fewB (E : List Ent) : Bool := E.all (fun e => decide (e.nm.size ≤ 30) && decide (e.vl.size ≤ 100)) && decide (E.length ≤ 20)
set_option maxRecDepth 100000 in
set_option maxHeartbeats 4000000 in
theorem few_any (d : ByteArray) (A : Option Addr) (cap : Nat) (vAtts : Value) (E : List Ent) (w : World) (hE : RowE w A E) (hl : E.length ≤ 9223372036854775807) (hs : ∀ e ∈ E, e.nm.size ≤ 9223372036854775807 ∧ e.vl.size ≤ 9223372036854775807) :
    Calls Try.prog 12 #[.agg #[.string d, .slice A E.length cap, vAtts]] w fun e w' => e = .returned (.bool (fewB E)) ∧ Below w.heap.size w w' := by
  obtain ⟨b, hb⟩ : ∃ b, fewB E = b := ⟨_, rfl⟩
  rw [hb]
  have HB := Lib.hid hb
  obtain ⟨n, hn⟩ : ∃ n, E.length = n := ⟨_, rfl⟩
  rw [hn] at hl ⊢
  have HN := Lib.hid hn
  clear hn hb
  go_enter Try.func12, Try.ntmps12
  go_wp2_with fail
  go_loop [3] (fun x => ∃ k : Nat, k ≤ n ∧ x = .int .i64 k ∧ Hid (((E.take k).all fun e => decide (e.nm.size ≤ 30) && decide (e.vl.size ≤ 100)) = true)) (fun x => n - (intOf x).toNat)
  case atStart => exact ⟨0, by omega, rfl, (by simp : ((E.take 0).all _) = true)⟩
  case round =>
    obtain ⟨k, hk, rfl, hR⟩ := hrel
    by_cases hlt : k < n
    · obtain ⟨e, he⟩ : ∃ e, E.getD k ⟨⟨#[]⟩, ⟨#[]⟩, false⟩ = e := ⟨_, rfl⟩
      have hkE : k < E.length := by rw [HN.out]; exact hlt
      obtain ⟨b', o, rfl, hbl, c0, c1, c2⟩ := hE k hkE
      rw [he] at c0 c1 c2
      have hmem : e ∈ E := by rw [← he]; simp [List.getD, hkE]
      obtain ⟨hs1, hs2⟩ := hs e hmem
      have htake : E.take (k + 1) = E.take k ++ [e] := by
        rw [List.take_succ_eq_append_getElem hkE, ← he]; simp [List.getD, hkE]
      have HT := Lib.hid htake
      have HM := Lib.hid hmem
      clear htake he hmem hE hs
      by_cases h1 : e.nm.size ≤ 30 ∧ e.vl.size ≤ 100
      · obtain ⟨h1, h2⟩ := h1
        go_wp2_with fail
        go_round
        case rel =>
          refine ⟨k + 1, by omega, by go_num, ?_⟩
          show ((E.take (k + 1)).all _) = true
          rw [HT.out, List.all_append, hR.out]
          simp [h1, h2]
        case measure => simp [intOf]; omega
      · have hf : fewB E = false := by
          unfold fewB
          rw [Bool.and_eq_false_iff]
          left
          rw [List.all_eq_false]
          exact ⟨e, HM.out, by simpa using h1⟩
        have HF := Lib.hid hf
        clear hf
        go_wp2_with fail
        all_goals first | (exfalso; omega) | (go_ret; refine ⟨?_, (Below.refl _ _).alloc (Nat.le_refl _) _⟩; rw [← HB.out, HF.out]; rfl)
    · obtain rfl : k = n := by omega
      have hf : fewB E = decide (k ≤ 20) := by
        have := hR.out
        rw [← HN.out, List.take_length] at this
        unfold fewB
        rw [this, HN.out]
        rfl
      have HF := Lib.hid hf
      clear hf hE hs
      go_wp2_with fail
      go_ret
      refine ⟨?_, (Below.refl _ _).alloc (Nat.le_refl _) _⟩
      rw [← HB.out, HF.out]
      simp
      omega
theorem cellsE_len (E : List Ent) : (cellsE E).length = E.length * 3 := by
  induction E with
  | nil => rfl
  | cons e E ih => simp only [cellsE, List.flatMap_cons, List.length_append, List.length_cons] at *; simp at *; omega
theorem cellsE_at (E : List Ent) : ∀ i j, i < E.length → j < 3 → (cellsE E)[i * 3 + j]? = ([Value.string (E.getD i ⟨⟨#[]⟩, ⟨#[]⟩, false⟩).nm, .string (E.getD i ⟨⟨#[]⟩, ⟨#[]⟩, false⟩).vl, .bool (E.getD i ⟨⟨#[]⟩, ⟨#[]⟩, false⟩).ext])[j]? := by
  induction E with
  | nil => intro i j hi; simp at hi
  | cons e E ih =>
    intro i j hi hj
    have hc : cellsE (e :: E) = [.string e.nm, .string e.vl, .bool e.ext] ++ cellsE E := rfl
    rw [hc]
    cases i with
    | zero => rw [List.getElem?_append_left (by simp; omega)]; simp
    | succ i =>
      rw [List.getElem?_append_right (by simp; omega)]
      have := ih i j (by simpa using hi) hj
      rw [show (i + 1) * 3 + j - [Value.string e.nm, .string e.vl, .bool e.ext].length = i * 3 + j by simp; omega, this]
      simp
theorem rowE_of_cells {w : World} {ad : Addr} {E : List Ent} (hs : ad.spot = none) (hb : ad.block < w.heap.size) (hc : ∀ j u, (cellsE E)[j]? = some u → w.cell? (ad.add j) = some u) : RowE w (some ad) E := by
  intro i hi
  obtain ⟨b, o, s⟩ := ad
  simp only at hs hb
  subst hs
  have ha : ∀ k, (⟨b, o, none⟩ : Addr).add k = ⟨b, o + k, none⟩ := by intro k; unfold Addr.add; split <;> simp_all
  refine ⟨b, o, rfl, hb, ?_, ?_, ?_⟩
  · have := hc (i * 3 + 0) _ (cellsE_at E i 0 hi (by omega)); rw [ha] at this; simpa [Nat.add_assoc] using this
  · have := hc (i * 3 + 1) _ (cellsE_at E i 1 hi (by omega)); rw [ha] at this; simpa [Nat.add_assoc] using this
  · have := hc (i * 3 + 2) _ (cellsE_at E i 2 hi (by omega)); rw [ha] at this; simpa [Nat.add_assoc] using this
theorem cellsE_one {E : List Ent} : ∀ u ∈ cellsE E, u.oneCell' = true := by
  intro u hu
  simp only [cellsE, List.mem_flatMap] at hu
  obtain ⟨e, _, he⟩ := hu
  simp at he
  rcases he with rfl | rfl | rfl <;> rfl
theorem rowE_of_own {w : World} {B n : Nat} {v : Value} {E : List Ent} (h : w.ownsRow B 25 3 v n (cellsE E)) (hn : 0 < n) : ∃ g cap, v = .slice (some ⟨g, 0, none⟩) n cap ∧ B ≤ g ∧ RowE w (some ⟨g, 0, none⟩) E := by
  rcases h.2 with ⟨_, h2⟩ | ⟨g, cap, cur, rfl, hg, h3, _⟩
  · omega
  · exact ⟨g, cap, rfl, hg, rowE_of_cells rfl (Array.getElem?_eq_some_iff.1 h3).1 (h.cells rfl)⟩
abbrev ltE : Ent := ⟨⟨#[108, 116]⟩, ⟨#[120]⟩, false⟩
theorem own_shape3 {w : World} {B T s : Nat} {v : Value} {n : Nat} {xs : List Value} (h : w.ownsRow B T s v (n + 1) xs) : ∃ g cap, v = .slice (some ⟨g, 0, none⟩) (n + 1) cap := by
  rcases h.2 with ⟨_, h⟩ | ⟨g, cap, _, h, _⟩
  · omega
  · exact ⟨g, cap, h⟩
def nmF (i : Nat) : ByteArray := [(⟨#[108, 116]⟩ : ByteArray), ⟨#[103, 116]⟩, ⟨#[97, 109, 112]⟩, ⟨#[97, 112, 111, 115]⟩, ⟨#[113, 117, 111, 116]⟩].getD i ⟨#[]⟩
def chF (i : Nat) : ByteArray := [(⟨#[60]⟩ : ByteArray), ⟨#[62]⟩, ⟨#[38]⟩, ⟨#[39]⟩, ⟨#[34]⟩].getD i ⟨#[]⟩
def rowN : Array Value := #[.string ⟨#[108, 116]⟩, .string ⟨#[103, 116]⟩, .string ⟨#[97, 109, 112]⟩, .string ⟨#[97, 112, 111, 115]⟩, .string ⟨#[113, 117, 111, 116]⟩]
def rowC : Array Value := #[.string ⟨#[60]⟩, .string ⟨#[62]⟩, .string ⟨#[38]⟩, .string ⟨#[39]⟩, .string ⟨#[34]⟩]
theorem five_at (i : Nat) (h : i < 5) : fiveR (nmF i) = (chF i, true) ∧ rowN[i]? = some (.string (nmF i)) ∧ rowC[i]? = some (.string (chF i)) := by
  match i, h with
  | 0, _ | 1, _ | 2, _ | 3, _ | 4, _ => exact ⟨by decide +kernel, rfl, rfl⟩
theorem getR_five {E : List Ent} {a c : ByteArray} (h : fiveR a = (c, true)) : getR E a = ((fiveR a).1, true, 0) := by simp [getR, h]
theorem openC_five {E : List Ent} {op : List ByteArray} {sp most : Int} {a c : ByteArray} (h : fiveR a = (c, true)) : openC E op sp a most = 6 := by simp [openC, h]
def FiveR (w wo wz : World) (p bm : Nat) (E : List Ent) : Prop :=
  Below w.heap.size w wz ∧ IsRefs wz p bm (.slice none 0 0) E [] 0 ∧ w.heap.size ≤ p ∧ wz.heap[wo.heap.size]? = some (.cells rowN 9 (0, 0)) ∧ wz.heap[wo.heap.size + 1]? = some (.cells rowC 9 (0, 0))
theorem five_start {w wo : World} {p bm : Nat} {E : List Ent} (hB : Below w.heap.size w wo) (hI : IsRefs wo p bm (.slice none 0 0) E [] 0) (hp : w.heap.size ≤ p) : Hid (FiveR w wo ((wo.alloc (.cells rowN 9)).alloc (.cells rowC 9)) p bm E) := by
  have hs := hB.size
  have hb2 : Below wo.heap.size wo ((wo.alloc (.cells rowN 9)).alloc (.cells rowC 9)) := ((Below.refl _ _).alloc (Nat.le_refl _) _).alloc (by simp) _
  refine ⟨hB.trans (hb2.mono hs), hI.below hb2, hp, ?_, ?_⟩
  · rw [heap_alloc_old _ _ (by simp)]; exact heap_alloc_new wo _
  · have := heap_alloc_new (wo.alloc (.cells rowN 9)) (.cells rowC 9)
    simpa using this
theorem FiveR.below {w wo wz wa : World} {p bm : Nat} {E : List Ent} (h : FiveR w wo wz p bm E) (hb : Below wz.heap.size wz wa) : FiveR w wo wa p bm E := by
  obtain ⟨h1, h2, h3, h4, h5⟩ := h
  exact ⟨h1.trans (hb.mono h1.size), h2.below hb, h3, (hb.block _ (Array.getElem?_eq_some_iff.1 h4).1).trans h4, (hb.block _ (Array.getElem?_eq_some_iff.1 h5).1).trans h5⟩
theorem FiveR.ne {w wo wz : World} {p bm : Nat} {E : List Ent} (h : FiveR w wo wz p bm E) : wo.heap.size ≠ p ∧ wo.heap.size + 1 ≠ p := by
  obtain ⟨_, h2, _, h4, h5⟩ := h
  have hc := h2.cells
  constructor
  · intro e; rw [e, hc] at h4; simp [rowN] at h4
  · intro e; rw [e, hc] at h5; simp [rowC] at h5
theorem FiveR.turned {w wo wz wa : World} {p bm : Nat} {E : List Ent} (h : FiveR w wo wz p bm E) (hI : IsRefs wa p bm (.slice none 0 0) E [] 0) (hT : Turned p (.slice none 0 0) (.slice none 0 0) wz wa) : FiveR w wo wa p bm E := by
  obtain ⟨n1, n2⟩ := h.ne
  obtain ⟨h1, h2, h3, h4, h5⟩ := h
  exact ⟨h1.trans (hT.below h1.size h3 (fun k hk => by cases hk)), hI, h3, (hT.block _ (Array.getElem?_eq_some_iff.1 h4).1 n1 (fun e => by cases e)).trans h4, (hT.block _ (Array.getElem?_eq_some_iff.1 h5).1 n2 (fun e => by cases e)).trans h5⟩
theorem five_cell {w wo wz wa : World} {p bm : Nat} {E : List Ent} (h : FiveR w wo wz p bm E) (hT : Turned p (.slice none 0 0) (.slice none 0 0) wz wa) (i : Nat) {x : Value} (hc : wz.cell? ⟨wo.heap.size + 1, i, none⟩ = some x) : wa.cell? ⟨wo.heap.size + 1, i, none⟩ = some x :=
  (World.cell?_of_block (hT.block _ (Array.getElem?_eq_some_iff.1 h.2.2.2.2).1 h.ne.2 (fun e => by cases e))).trans hc
theorem cellsE_app (E F : List Ent) : cellsE (E ++ F) = cellsE E ++ cellsE F := by simp [cellsE]
theorem entR_small {E : List Ent} (hsm : ∀ e ∈ E, e.vl.size ≤ 100) (q : ByteArray) : (entR (E ++ [ltE]) q).2.1.size ≤ 100 := by
  unfold entR
  cases hf : fnd q (E ++ [ltE]) with
  | none => decide
  | some e =>
    have hm := List.mem_of_find?_eq_some hf
    rcases List.mem_append.1 hm with h | h
    · exact hsm e h
    · obtain rfl := List.mem_singleton.1 h; decide
set_option maxRecDepth 100000 in
set_option maxHeartbeats 4000000 in
theorem five_walk (A : Option Addr) (cap : Nat) (E : List Ent) (most : Int) (w : World) (hA : ∀ ad, A = some ad → (0 < E.length → ad.spot = none ∧ ad.block < w.heap.size) ∧ ∀ j u, (cellsE E)[j]? = some u → w.cell? (ad.add j) = some u) (hA0 : A = none → E = [])
    (hl : E.length ≤ 9223372036854775807) (hs : ∀ e ∈ E, e.nm.size ≤ 9223372036854775807 ∧ e.vl.size ≤ 9223372036854775807) (hm : (Lit.int .i64 most).wf = true) :
    Calls Try.prog 4 #[.slice A E.length cap, .int .i64 most] w fun e w' => e = .returned (.bool true) ∧ Below w.heap.size w w' := by
  have hE : RowE w A E := by
    intro i hi
    cases A with
    | none => rw [hA0 rfl] at hi; simp at hi
    | some ad => obtain ⟨h2, h3⟩ := hA ad rfl; exact rowE_of_cells (h2 (by omega)).1 (h2 (by omega)).2 h3 i hi
  have HF := fun d vAtts => few_any d A cap vAtts E w hE hl hs
  have HT := told_calls
  obtain ⟨i0, hi, hz0, hz1, hz2⟩ := info_parts infoE
  have hm0 : -9223372036854775808 ≤ most ∧ most ≤ 9223372036854775807 := by have := hm; simp [Lit.wf, IntKind.min, IntKind.max, IntKind.signed, IntKind.bits] at this; omega
  cases hf : fewB E with
  | false =>
    rw [hf] at HF
    clear hE hA hA0 hs hl hf hm
    go_enter Try.func4, Try.ntmps4
    go_wp2_with fail
    refine (HF _ _).mono ?_
    rintro e w1 ⟨rfl, hb1⟩
    go_wp2_with fail
    refine (HT _).mono ?_
    rintro e w2 ⟨rfl, hb2⟩
    go_wp2_with fail
    go_ret
    exact ⟨rfl, hb1.trans (hb2.mono hb1.size)⟩
  | true =>
    rw [hf] at HF
    have hl20 : E.length ≤ 20 := by unfold fewB at hf; simp at hf; exact hf.2
    have hsm : ∀ e ∈ E, e.vl.size ≤ 100 := by unfold fewB at hf; simp at hf; exact fun e he => (hf.1 e he).2
    clear hE hs hl hf hm
    have hlenE : (cellsE E).length = E.length * 3 := cellsE_len E
    cases A with
    | none =>
    obtain rfl := hA0 rfl
    clear hA hlenE
    go_enter Try.func4, Try.ntmps4
    go_wp2_with fail
    refine (HF _ _).mono ?_
    rintro e w1 ⟨rfl, hb1⟩
    have hs1 := hb1.size
    clear HF
    go_wp2_with (first | (at_builtin; refine wpList_append_own _ rfl (.tmp 21) (.tmp 23) 23 rfl w.heap.size 25 i0 (.agg #[.string ⟨#[]⟩, .string ⟨#[]⟩, .bool false]) 3 40 Try.underlying23 hi hz0 hz1 hz2 rfl (by decide) (.slice (some ⟨w1.heap.size, 0, none⟩) 0 0) 0 [] rfl ((World.ownsRow_made w1 #[] 0 hb1.size (by decide) rfl).alloc _) ⟨w1.heap.size + 1, 0, none⟩ 1 1 [.string ⟨#[108, 116]⟩, .string ⟨#[120]⟩, .bool false] rfl rfl (by have h_ := cells_block (w1.alloc (.cells #[] 25)) #[.string ⟨#[108, 116]⟩, .string ⟨#[120]⟩, .bool false] 25; simpa using h_) (by intro u hu; simp at hu; rcases hu with rfl | rfl | rfl <;> rfl) (by unfold maxLen; omega) (by omega) (by simp; omega) ?_; intro v2 w3 hown2 hgrow2 _; obtain ⟨g, cap2, rfl⟩ := own_shape3 hown2))
    have hown3 : w3.ownsRow w.heap.size 25 3 (.slice (some ⟨g, 0, none⟩) 1 cap2) 1 (cellsE ([] ++ [ltE])) := hown2
    have hB : Below w.heap.size w w3 := ((hb1.alloc hs1 _).alloc (by simp; omega) _).grown hgrow2 (by simp; omega) (fun k hk => by cases hk; exact hs1)
    clear hown2 hgrow2
    have hs3 := hB.size
    clear hi hz0 hz1 hz2
    have hEv : ∀ q, (entR ([] ++ [ltE]) q).2.1.size ≤ 100 := entR_small hsm
    obtain ⟨g', cap', hg1, hg, hrow⟩ := rowE_of_own hown3 (by omega)
    obtain ⟨rfl, rfl⟩ : g = g' ∧ cap2 = cap' := by simpa using hg1
    clear hg1
    have hlen2 : ([] ++ [ltE]).length = 1 := rfl
    generalize [] ++ [ltE] = E2 at hrow hEv hlen2
    have HL2 := Lib.hid hlen2
    clear hlen2 hown3
    have HNEW := new_any ⟨#[]⟩ (some ⟨g, 0, none⟩) cap2 (.slice none 0 0) E2 w3 hrow (by rw [HL2.out]; omega)
    rw [HL2.out] at HNEW
    have hl3 : Hid (E2.length = E2.length) := rfl
    go_wp2_with fail
    refine HNEW.mono ?_
    clear HNEW hrow
    rintro e w4 ⟨p, bm, rfl, hI, hp, _, hbn⟩
    replace hB := hB.trans (hbn.mono hB.size)
    clear hbn
    go_wp2_with fail
    have hpw : w.heap.size ≤ p := Nat.le_trans hs3 hp
    clear hs3 hp hg
    obtain ⟨wo, rfl⟩ : ∃ wo : World, wo = w4 := ⟨_, rfl⟩
    go_loopw [8] (fun x wz => ∃ i : Nat, i ≤ 5 ∧ x = .int .i64 i ∧ Hid (FiveR w wo wz p bm E2)) (fun x _ => 5 - (intOf x).toNat)
    case atStart => exact ⟨0, by omega, rfl, five_start hB hI hpw⟩
    case round =>
      obtain ⟨i, hi5, rfl, hR⟩ := hrel
      clear hI hB
      by_cases hlt : i < 5
      · obtain ⟨hB2, hI2, hpw2, hrn, hrc⟩ := hR.out
        obtain ⟨hf1, hn1, hc1⟩ := five_at i hlt
        have hsz1 := (Array.getElem?_eq_some_iff.1 hrn).1
        have hsz2 := (Array.getElem?_eq_some_iff.1 hrc).1
        have ca : wr.cell? ⟨wo.heap.size, i, none⟩ = some (.string (nmF i)) := (cell_of hrn i).trans hn1
        have cb : wr.cell? ⟨wo.heap.size + 1, i, none⟩ = some (.string (chF i)) := (cell_of hrc i).trans hc1
        have HG := get_any p bm _ E2 [] 0 (nmF i) wr hI2
        rw [getR_five hf1] at HG
        have HO := fun W (hIW : IsRefs W p bm (.slice none 0 0) E2 [] 0) => open_fail p bm _ E2 [] 0 (nmF i) most W hIW (by simp) (by omega) (by omega) hm0.1 hm0.2 (by have := hEv (nmF i); omega) 6 (openC_five hf1) (by omega)
        have hch : (fiveR (nmF i)).1 = chF i := congrArg Prod.fst hf1
        rw [hch] at HG
        generalize nmF i = a at ca HG HO
        generalize chF i = c at cb HG
        clear hB2 hI2 hrn hrc hf1 hn1 hc1 hch
        go_wp2_with fail
        refine HG.mono ?_
        clear HG
        rintro e wa ⟨rfl, hba⟩
        obtain ⟨hcc, hff⟩ := bcell hba
        have hsa := hba.size
        have hRa : Hid (FiveR w wo wa p bm E2) := FiveR.below hR.out hba
        have ca2 := (hcc wo.heap.size i hsz1).trans ca
        have cb2 := (hcc (wo.heap.size + 1) i hsz2).trans cb
        go_wp2_with fail
        refine (HO _ hRa.out.2.1).mono ?_
        clear HO
        rintro e wb ⟨rfl, hIb, hTb⟩
        have hRb : Hid (FiveR w wo wb p bm E2) := FiveR.turned hRa.out hIb hTb
        have cb3 := five_cell hRa.out hTb i cb2
        clear hR hRa hIb hTb hcc hff ca cb ca2 cb2 hba hsa
        go_wp2_with fail
        go_roundw
        case rel => exact ⟨i + 1, by omega, by go_num, hRb⟩
        case measure => simp [intOf]; omega
      · obtain rfl : i = 5 := by omega
        obtain ⟨hB2, hI2, _, _, _⟩ := hR.out
        clear hR
        go_wp2_with fail
        refine (HT _).mono ?_
        rintro e wt ⟨rfl, hbt⟩
        replace hI2 := hI2.below hbt
        replace hB2 := hB2.trans (hbt.mono hB2.size)
        clear hbt HT
        go_wp2_with fail
        refine (spent_any _ _ _ _ _ _ _ hI2).mono ?_
        rintro e wt2 ⟨rfl, rfl⟩
        go_wp2_with fail
        refine (depth_any _ _ _ _ _ _ _ hI2).mono ?_
        rintro e wt2 ⟨rfl, rfl⟩
        go_wp2_with fail
        go_ret
        exact ⟨rfl, hB2⟩
    | some ad =>
    obtain ⟨hsb, hcs⟩ := hA ad rfl
    have hbl : 0 < E.length → ad.block < w.heap.size := fun h => (hsb h).2
    clear hsb
    clear hA hA0
    generalize hn : E.length = n at HF hl20 hbl hlenE ⊢
    have HN := Lib.hid hn
    clear hn
    have hcs1 : ∀ {w1 : World}, Below w.heap.size w w1 → ∀ j u, (cellsE E)[j]? = some u → (w1.alloc (.cells #[] 25)).cell? (ad.add j) = some u := by
      intro w1 hb j u hu
      have hj := (List.getElem?_eq_some_iff.1 hu).1
      have hblk : (ad.add j).block = ad.block := by unfold Addr.add; split <;> rfl
      have hlt := hbl (by omega)
      have hs := hb.size
      rw [World.cell?_of_block (heap_alloc_old w1 _ (by rw [hblk]; omega)), hb.cell (by rw [hblk]; omega)]
      exact hcs j u hu
    go_enter Try.func4, Try.ntmps4
    go_wp2_with fail
    refine (HF _ _).mono ?_
    rintro e w1 ⟨rfl, hb1⟩
    have hs1 := hb1.size
    clear HF
    go_wp2_with (first | (at_builtin; refine wpList_append_own _ rfl (.tmp 19) (.tmp 20) 23 rfl w.heap.size 25 i0 (.agg #[.string ⟨#[]⟩, .string ⟨#[]⟩, .bool false]) 3 40 Try.underlying23 hi hz0 hz1 hz2 rfl (by decide) (.slice (some ⟨w1.heap.size, 0, none⟩) 0 0) 0 [] rfl (World.ownsRow_made w1 #[] 0 hb1.size (by decide) rfl) ad n cap (cellsE E) rfl hlenE (hcs1 hb1) cellsE_one (by unfold maxLen; omega) (by omega) (by simp; omega) ?_; intro v1 w2 hown1 hgrow1 _; have hs2 := hgrow1.size; simp at hs2; rw [Nat.zero_add, List.nil_append] at hown1) | (at_builtin; refine wpList_append_own _ rfl (.tmp 21) (.tmp 23) 23 rfl w.heap.size 25 i0 (.agg #[.string ⟨#[]⟩, .string ⟨#[]⟩, .bool false]) 3 40 Try.underlying23 hi hz0 hz1 hz2 rfl (by decide) v1 n (cellsE E) rfl (hown1.alloc _) ⟨w2.heap.size, 0, none⟩ 1 1 [.string ⟨#[108, 116]⟩, .string ⟨#[120]⟩, .bool false] rfl rfl (cells_block _ _ _) (by intro u hu; simp at hu; rcases hu with rfl | rfl | rfl <;> rfl) (by unfold maxLen; omega) (by omega) (by simp; omega) ?_; intro v2 w3 hown2 hgrow2 _; obtain ⟨g, cap2, rfl⟩ := own_shape3 hown2))
    have hown3 : w3.ownsRow w.heap.size 25 3 (.slice (some ⟨g, 0, none⟩) (n + 1) cap2) (n + 1) (cellsE (E ++ [ltE])) := by rw [cellsE_app]; exact hown2
    have hB : Below w.heap.size w w3 := (((hb1.alloc hs1 _).grown hgrow1 (by simp; omega) (fun k hk => by cases hk; exact hs1)).alloc (by omega) _).grown hgrow2 (by simp; omega) (fun k hk => (hown1.lt k hk).1)
    clear hown2 hgrow2 hown1 hgrow1 hlenE hcs1 hcs hbl
    have hs3 := hB.size
    clear hi hz0 hz1 hz2
    have hEv : ∀ q, (entR (E ++ [ltE]) q).2.1.size ≤ 100 := entR_small hsm
    obtain ⟨g', cap', hg1, hg, hrow⟩ := rowE_of_own hown3 (by omega)
    obtain ⟨rfl, rfl⟩ : g = g' ∧ cap2 = cap' := by simpa using hg1
    clear hg1
    have hlen2 : (E ++ [ltE]).length = n + 1 := by rw [List.length_append, HN.out]; rfl
    generalize E ++ [ltE] = E2 at hrow hEv hlen2
    have HL2 := Lib.hid hlen2
    clear hlen2 hown3
    have HNEW := new_any ⟨#[]⟩ (some ⟨g, 0, none⟩) cap2 (.slice none 0 0) E2 w3 hrow (by rw [HL2.out]; omega)
    rw [HL2.out] at HNEW
    have hl3 : Hid (E2.length = E2.length) := rfl
    go_wp2_with fail
    refine HNEW.mono ?_
    clear HNEW hrow
    rintro e w4 ⟨p, bm, rfl, hI, hp, _, hbn⟩
    replace hB := hB.trans (hbn.mono hB.size)
    clear hbn
    go_wp2_with fail
    have hpw : w.heap.size ≤ p := Nat.le_trans hs3 hp
    clear hs3 hp hg
    obtain ⟨wo, rfl⟩ : ∃ wo : World, wo = w4 := ⟨_, rfl⟩
    go_loopw [8] (fun x wz => ∃ i : Nat, i ≤ 5 ∧ x = .int .i64 i ∧ Hid (FiveR w wo wz p bm E2)) (fun x _ => 5 - (intOf x).toNat)
    case atStart => exact ⟨0, by omega, rfl, five_start hB hI hpw⟩
    case round =>
      obtain ⟨i, hi5, rfl, hR⟩ := hrel
      clear hI hB
      by_cases hlt : i < 5
      · obtain ⟨hB2, hI2, hpw2, hrn, hrc⟩ := hR.out
        obtain ⟨hf1, hn1, hc1⟩ := five_at i hlt
        have hsz1 := (Array.getElem?_eq_some_iff.1 hrn).1
        have hsz2 := (Array.getElem?_eq_some_iff.1 hrc).1
        have ca : wr.cell? ⟨wo.heap.size, i, none⟩ = some (.string (nmF i)) := (cell_of hrn i).trans hn1
        have cb : wr.cell? ⟨wo.heap.size + 1, i, none⟩ = some (.string (chF i)) := (cell_of hrc i).trans hc1
        have HG := get_any p bm _ E2 [] 0 (nmF i) wr hI2
        rw [getR_five hf1] at HG
        have HO := fun W (hIW : IsRefs W p bm (.slice none 0 0) E2 [] 0) => open_fail p bm _ E2 [] 0 (nmF i) most W hIW (by simp) (by omega) (by omega) hm0.1 hm0.2 (by have := hEv (nmF i); omega) 6 (openC_five hf1) (by omega)
        have hch : (fiveR (nmF i)).1 = chF i := congrArg Prod.fst hf1
        rw [hch] at HG
        generalize nmF i = a at ca HG HO
        generalize chF i = c at cb HG
        clear hB2 hI2 hrn hrc hf1 hn1 hc1 hch
        go_wp2_with fail
        refine HG.mono ?_
        clear HG
        rintro e wa ⟨rfl, hba⟩
        obtain ⟨hcc, hff⟩ := bcell hba
        have hsa := hba.size
        have hRa : Hid (FiveR w wo wa p bm E2) := FiveR.below hR.out hba
        have ca2 := (hcc wo.heap.size i hsz1).trans ca
        have cb2 := (hcc (wo.heap.size + 1) i hsz2).trans cb
        go_wp2_with fail
        refine (HO _ hRa.out.2.1).mono ?_
        clear HO
        rintro e wb ⟨rfl, hIb, hTb⟩
        have hRb : Hid (FiveR w wo wb p bm E2) := FiveR.turned hRa.out hIb hTb
        have cb3 := five_cell hRa.out hTb i cb2
        clear hR hRa hIb hTb hcc hff ca cb ca2 cb2 hba hsa
        go_wp2_with fail
        go_roundw
        case rel => exact ⟨i + 1, by omega, by go_num, hRb⟩
        case measure => simp [intOf]; omega
      · obtain rfl : i = 5 := by omega
        obtain ⟨hB2, hI2, _, _, _⟩ := hR.out
        clear hR
        go_wp2_with fail
        refine (HT _).mono ?_
        rintro e wt ⟨rfl, hbt⟩
        replace hI2 := hI2.below hbt
        replace hB2 := hB2.trans (hbt.mono hB2.size)
        clear hbt HT
        go_wp2_with fail
        refine (spent_any _ _ _ _ _ _ _ hI2).mono ?_
        rintro e wt2 ⟨rfl, rfl⟩
        go_wp2_with fail
        refine (depth_any _ _ _ _ _ _ _ hI2).mono ?_
        rintro e wt2 ⟨rfl, rfl⟩
        go_wp2_with fail
        go_ret
        exact ⟨rfl, hB2⟩
end Go.Proofs.Ytiddhaakbcnbiaa.Rf
