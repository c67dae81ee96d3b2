/- What a value comes to: the reading of it ends, and is bounded, as each entity is open at most once; plain. -/
import Derived.Test.YtmjdjpelhhibgaaGreatDoorVRoom
namespace Go.Proofs.YtmjdjpelhhibgaaGreatDoor.Val
open Go Go.Proofs.YtmjdjpelhhibgaaGreatDoor.Rf Go.Proofs.YtmjdjpelhhibgaaGreatDoor.Spec
set_option linter.unusedVariables false
set_option linter.unusedSimpArgs false
/-- How many of the entities are not open. -/
def rnk (E : List Ent) (op : List ByteArray) : Nat := (E.filter fun e => !memB e.nm op).length
theorem filt_lt {α : Type} (p q : α → Bool) (h : ∀ a, q a = true → p a = true) : ∀ l : List α, (l.filter q).length ≤ (l.filter p).length ∧ ((∃ a, a ∈ l ∧ p a = true ∧ q a = false) → (l.filter q).length < (l.filter p).length)
  | [] => ⟨Nat.le_refl _, fun ⟨_, h, _⟩ => by cases h⟩
  | a :: l => by
    obtain ⟨h1, h2⟩ := filt_lt p q h l
    rw [List.filter_cons, List.filter_cons]
    cases hq : q a with
    | true =>
      rw [h a hq, if_pos rfl, if_pos rfl]
      refine ⟨by simp only [List.length_cons]; omega, ?_⟩
      rintro ⟨b, hb, hp, hn⟩
      have hbl : b ∈ l := by
        rcases List.mem_cons.1 hb with rfl | hb
        · rw [hq] at hn; cases hn
        · exact hb
      have := h2 ⟨b, hbl, hp, hn⟩
      simp only [List.length_cons]; omega
    | false =>
      rw [if_neg (by decide)]
      cases hp : p a with
      | true => rw [if_pos rfl]; exact ⟨by simp only [List.length_cons]; omega, fun _ => by simp only [List.length_cons]; omega⟩
      | false =>
        rw [if_neg (by decide)]
        refine ⟨h1, ?_⟩
        rintro ⟨b, hb, hpb, hn⟩
        rcases List.mem_cons.1 hb with rfl | hb
        · rw [hp] at hpb; cases hpb
        · exact h2 ⟨b, hb, hpb, hn⟩
theorem openC_zero' {E : List Ent} {op : List ByteArray} {sp : Int} {nm : ByteArray} {most : Int} (h : openC E op sp nm most = 0) : memB nm op = false ∧ ∃ e, e ∈ E ∧ e.nm = nm ∧ (entR E nm).2.1 = e.vl := by
  unfold openC at h
  split at h
  · cases h
  · split at h
    · rename_i h1; rw [h] at h1; exact absurd rfl h1
    · rename_i h1
      split at h
      · cases h
      · rename_i h2
        refine ⟨by simpa using h2, ?_⟩
        unfold entR at h1 ⊢
        cases hf : fnd nm E with
        | none => rw [hf] at h1; exact absurd (by decide) h1
        | some e =>
          have := List.find?_some hf
          exact ⟨e, List.mem_of_find?_eq_some hf, by simpa using this, rfl⟩
theorem rnk_lt {E : List Ent} {op : List ByteArray} {sp : Int} {nm : ByteArray} {most : Int} (h : openC E op sp nm most = 0) : rnk E (op ++ [nm]) < rnk E op := by
  obtain ⟨h1, e, h2, h3, _⟩ := openC_zero' h
  refine (filt_lt _ _ ?_ E).2 ⟨e, h2, ?_, ?_⟩
  · intro a ha
    simp only [Bool.not_eq_true', memB, List.any_append, Bool.or_eq_false_iff] at ha ⊢
    exact ha.1
  · rw [h3, h1]; rfl
  · rw [h3]; simp [memB]
def wB : Nat → Nat
  | 0 => 4
  | d + 1 => 3 * wB d + 3
theorem wB_ge : ∀ d, 4 ≤ wB d
  | 0 => Nat.le_refl _
  | d + 1 => by have := wB_ge d; unfold wB; omega
theorem nc_pos (nm : ByteArray) (h : ncB nm = true) : 0 < nm.size := by
  by_cases h0 : nm.size = 0
  · have : nm = ⟨#[]⟩ := by
      apply ByteArray.ext
      apply Array.eq_empty_of_size_eq_zero
      exact h0
    rw [this] at h
    exact absurd h (by decide +kernel)
  · omega
theorem cut_three (l : List UInt8) (hc : cutIs l = true) (h : ncB (refNm l) = true) : (cutB l).length + 3 ≤ l.length := by
  have h1 := nc_pos _ h
  have h2 : (refNm l).size = ((cutA l).drop 1).length := rfl
  have h3 := congrArg List.length (cut_is l hc)
  rw [List.length_append, List.length_cons] at h3
  rw [h2, List.length_drop] at h1
  omega
def gG (nm : ByteArray) : Nat := if ncB nm = true then 3 else 1
theorem gG_pos (nm : ByteArray) : 1 ≤ gG nm := by unfold gG; split <;> omega
theorem gG_cut (c : UInt8) (t : List UInt8) (hc : cutIs (c :: t) = true) : (cutB (c :: t)).length + gG (refNm (c :: t)) ≤ t.length + 1 := by
  unfold gG
  split
  · rename_i h; exact cut_three (c :: t) hc h
  · have := cutB_lt c t hc; omega
/-- What d more names bound. -/
def EndsAt (E : List Ent) (most : Int) (d : Nat) : Prop := ∀ (l : List UInt8) (n : Nat) (b : Bool) (st : St), rnk E st.op ≤ d → l.length + 1 + d * 10 ≤ n →
    ∃ k st', runT E most n b l st = some (k, st') ∧ st'.out.length ≤ st.out.length + wB d * l.length ∧ st'.sp ≤ st.sp + (wB d * l.length : Nat)
theorem ent_ends {E : List Ent} {most : Int} (hE : ∀ e, e ∈ E → e.vl.size ≤ 9) {d : Nat} (ihd : ∀ d', d' + 1 = d → EndsAt E most d') (nm : ByteArray) (n : Nat) (st : St) (hr : rnk E st.op ≤ d) (hn : 1 + d * 10 ≤ n) :
    ∃ k s1, entOf (runT E most n) E most nm st = some (k, s1) ∧ (k = 0 → s1.op = st.op) ∧ s1.out.length ≤ st.out.length + wB d * gG nm ∧ s1.sp ≤ st.sp + (wB d * gG nm : Nat) := by
  have hg := wB_ge d
  have hgg : wB d * 1 ≤ wB d * gG nm := Nat.mul_le_mul_left _ (gG_pos nm)
  unfold entOf
  split
  · have h5 := five_len nm
    exact ⟨0, _, rfl, fun _ => rfl, by simp only [List.length_append]; omega, by simp only; omega⟩
  · split
    · exact ⟨2, st, rfl, fun _ => rfl, by omega, by omega⟩
    · split
      · rename_i hnc h0
        have hnc : ncB nm = true := by simpa using hnc
        have hrk := rnk_lt h0
        obtain ⟨_, e, he1, he2, he3⟩ := openC_zero' h0
        have hv9 := hE e he1
        rw [← he3] at hv9
        have hvl : (entR E nm).2.1.data.toList.length = (entR E nm).2.1.size := rfl
        obtain ⟨d', rfl⟩ : ∃ d', d = d' + 1 := ⟨d - 1, by omega⟩
        have hw : wB (d' + 1) = 3 * wB d' + 3 := rfl
        have hm9 : wB d' * (entR E nm).2.1.data.toList.length ≤ wB d' * 9 := Nat.mul_le_mul_left _ (by omega)
        have hg3 : gG nm = 3 := by unfold gG; rw [if_pos hnc]
        rw [hg3]
        obtain ⟨k1, s1, h1, h2, h3⟩ := ihd d' rfl (entR E nm).2.1.data.toList n true ⟨st.out, st.op ++ [nm], st.sp + (entR E nm).2.1.size⟩ (by show rnk E (st.op ++ _) ≤ _; omega) (by omega)
        simp only at h2 h3
        rw [h1]
        by_cases hk : k1 = 0
        · subst hk
          have hop := (runT_grew E most _ _ _ _ _ _ h1).op rfl
          simp only at hop
          exact ⟨0, ⟨s1.out, (closeS s1.op nm).2, s1.sp⟩, by simp, fun _ => by simp only; rw [hop]; exact closeS_snoc _ _, by simp only; omega, by simp only; omega⟩
        · exact ⟨k1, s1, by simp [hk], fun h => absurd h hk, by omega, by omega⟩
      · have : ¬ ((if openC E st.op st.sp nm most = 3 then (3 : Int) else 2) = 0) := by split <;> decide
        exact ⟨_, st, rfl, fun h => absurd h this, by omega, by omega⟩
theorem ends_step {E : List Ent} {most : Int} (hE : ∀ e, e ∈ E → e.vl.size ≤ 9) {d : Nat} (ihd : ∀ d', d' + 1 = d → EndsAt E most d') : ∀ (L : Nat) (l : List UInt8), l.length ≤ L → ∀ (n : Nat) (b : Bool) (st : St), rnk E st.op ≤ d → l.length + 1 + d * 10 ≤ n →
    ∃ k st', runT E most n b l st = some (k, st') ∧ st'.out.length ≤ st.out.length + wB d * l.length ∧ st'.sp ≤ st.sp + (wB d * l.length : Nat) := by
  intro L
  induction L with
  | zero =>
    intro l hl n b st hr hn
    obtain rfl : l = [] := List.length_eq_zero_iff.1 (by omega)
    obtain ⟨n, rfl⟩ : ∃ m, n = m + 1 := ⟨n - 1, by simp at hn; omega⟩
    exact ⟨0, st, rfl, by omega, by omega⟩
  | succ L ih =>
    intro l hl n b st hr hn
    cases l with
    | nil =>
      obtain ⟨n, rfl⟩ : ∃ m, n = m + 1 := ⟨n - 1, by simp at hn; omega⟩
      exact ⟨0, st, rfl, by omega, by omega⟩
    | cons c t =>
      obtain ⟨n, rfl⟩ : ∃ m, n = m + 1 := ⟨n - 1, by simp at hn; omega⟩
      simp only [List.length_cons] at hl hn
      have hmul : wB d * (c :: t).length = wB d * t.length + wB d := by rw [List.length_cons, Nat.mul_succ]
      rw [hmul]
      have hg := wB_ge d
      rw [runT]
      split
      · obtain ⟨k, st', h1, h2, h3⟩ := ih t (by omega) n b ⟨st.out ++ [32], st.op, st.sp⟩ hr (by omega)
        exact ⟨k, st', h1, by simp only [List.length_append, List.length_cons, List.length_nil] at h2; omega, by simp only at h3; omega⟩
      · split
        · exact ⟨2, st, rfl, by omega, by omega⟩
        · split
          · split
            · exact ⟨2, st, rfl, by omega, by omega⟩
            · rename_i hcut
              have hcut : cutIs (c :: t) = true := by simpa using hcut
              have hlt := cutB_lt c t hcut
              have hle : wB d * (cutB (c :: t)).length ≤ wB d * t.length := Nat.mul_le_mul_left _ hlt
              split
              · have he := enc_le4 (refV (c :: t)).1
                obtain ⟨k, st', h1, h2, h3⟩ := ih (cutB (c :: t)) (by omega) n b ⟨st.out ++ Lib.encodeRune (refV (c :: t)).1, st.op, st.sp⟩ hr (by omega)
                exact ⟨k, st', h1, by simp only [List.length_append] at h2; omega, by simp only at h3; omega⟩
              · obtain ⟨k1, s1, h1, h2, h3, h4⟩ := ent_ends hE ihd (refNm (c :: t)) n st hr (by omega)
                have hgc := gG_cut c t hcut
                have hm : wB d * ((cutB (c :: t)).length + gG (refNm (c :: t))) ≤ wB d * (t.length + 1) := Nat.mul_le_mul_left _ hgc
                rw [Nat.mul_add, Nat.mul_succ] at hm
                rw [h1]
                by_cases hk : k1 = 0
                · obtain ⟨k, st', h5, h6, h7⟩ := ih (cutB (c :: t)) (by omega) n b s1 (by rw [h2 hk]; exact hr) (by omega)
                  exact ⟨k, st', by simpa [hk] using h5, by omega, by omega⟩
                · exact ⟨k1, s1, by simp [hk], by omega, by omega⟩
          · obtain ⟨k, st', h1, h2, h3⟩ := ih t (by omega) n b ⟨st.out ++ [c], st.op, st.sp⟩ hr (by omega)
            exact ⟨k, st', h1, by simp only [List.length_append, List.length_cons, List.length_nil] at h2; omega, by simp only at h3; omega⟩
/-- With names enough the reading ends, and what comes out is bounded. -/
theorem runT_ends (E : List Ent) (most : Int) (hE : ∀ e, e ∈ E → e.vl.size ≤ 9) : ∀ (d : Nat), EndsAt E most d := by
  intro d
  induction d with
  | zero => exact fun l n b st h1 h2 => ends_step hE (fun d' h => by omega) l.length l (Nat.le_refl _) n b st h1 h2
  | succ d ih => exact fun l n b st h1 h2 => ends_step hE (fun d' h => by obtain rfl : d' = d := by omega
                                                                          exact ih) l.length l (Nat.le_refl _) n b st h1 h2
/-! ### what was written before stands ahead -/
def shiftO (o : List UInt8) (r : Option (Int × St)) : Option (Int × St) := r.map fun q => (q.1, ⟨o ++ q.2.out, q.2.op, q.2.sp⟩)
theorem entOf_shift {E : List Ent} {most : Int} {run : Bool → List UInt8 → St → Option (Int × St)} (o : List UInt8) (hr : ∀ b l (st : St), run b l ⟨o ++ st.out, st.op, st.sp⟩ = shiftO o (run b l st)) (nm : ByteArray) (st : St) :
    entOf run E most nm ⟨o ++ st.out, st.op, st.sp⟩ = shiftO o (entOf run E most nm st) := by
  unfold entOf
  simp only
  split
  · simp [shiftO]
  · split
    · rfl
    · split
      · have h1 := hr true (entR E nm).2.1.data.toList ⟨st.out, st.op ++ [nm], st.sp + (entR E nm).2.1.size⟩
        simp only at h1
        rw [h1]
        cases run true (entR E nm).2.1.data.toList ⟨st.out, st.op ++ [nm], st.sp + (entR E nm).2.1.size⟩ with
        | none => rfl
        | some q =>
          obtain ⟨k, s⟩ := q
          by_cases hk : k = 0
          · simp [shiftO, hk]
          · simp [shiftO, hk]
      · rfl
theorem runT_shift (E : List Ent) (most : Int) (o : List UInt8) : ∀ (n : Nat) (b : Bool) (l : List UInt8) (st : St), runT E most n b l ⟨o ++ st.out, st.op, st.sp⟩ = shiftO o (runT E most n b l st) := by
  intro n
  induction n with
  | zero => intro b l st; rfl
  | succ n ih =>
    intro b l st
    cases l with
    | nil => rfl
    | cons c t =>
      rw [runT, runT]
      split
      · rw [← ih]; simp
      · split
        · rfl
        · split
          · split
            · rfl
            · split
              · rw [← ih]; simp
              · rw [entOf_shift o ih]
                cases entOf (runT E most n) E most (refNm (c :: t)) st with
                | none => rfl
                | some q =>
                  obtain ⟨k, s⟩ := q
                  by_cases hk : k = 0
                  · simp only [shiftO, Option.map_some, hk, if_true]
                    rw [ih b (cutB (c :: t)) s]
                    rfl
                  · simp [shiftO, hk]
          · rw [← ih]; simp
/-- The text of an entity, read by itself. -/
theorem runT_alone {E : List Ent} {most : Int} {n : Nat} {b : Bool} {l : List UInt8} {st st' : St} {k : Int} (h : runT E most n b l st = some (k, st')) : ∃ o, runT E most n b l ⟨[], st.op, st.sp⟩ = some (k, ⟨o, st'.op, st'.sp⟩) ∧ st'.out = st.out ++ o := by
  have h1 := runT_shift E most st.out n b l ⟨[], st.op, st.sp⟩
  simp only [List.append_nil] at h1
  have h2 : runT E most n b l ⟨st.out, st.op, st.sp⟩ = some (k, st') := h
  rw [h2] at h1
  cases h3 : runT E most n b l ⟨[], st.op, st.sp⟩ with
  | none => rw [h3] at h1; cases h1
  | some q =>
    rw [h3] at h1
    obtain ⟨k1, s1⟩ := q
    simp only [shiftO, Option.map_some, Option.some.injEq, Prod.mk.injEq] at h1
    obtain ⟨rfl, rfl⟩ := h1
    exact ⟨s1.out, rfl, rfl⟩
end Go.Proofs.YtmjdjpelhhibgaaGreatDoor.Val
