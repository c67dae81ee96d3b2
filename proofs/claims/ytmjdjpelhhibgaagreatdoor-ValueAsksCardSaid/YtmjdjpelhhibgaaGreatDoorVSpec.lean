/- What values come to, byte by byte: a plain function, with fuel. -/
import Derived.Test.YtmjdjpelhhibgaaGreatDoorVRfSteps
import Derived.Test.YtmjdjpelhhibgaaGreatDoorKSpec
import Derived.Lib.RuneBytes
import Derived.Lib.IndexMore
namespace Go.Proofs.YtmjdjpelhhibgaaGreatDoor.Val
open Go Go.Proofs.YtmjdjpelhhibgaaGreatDoor.Rf Go.Proofs.YtmjdjpelhhibgaaGreatDoor.Spec
set_option linter.unusedVariables false
set_option linter.unusedSimpArgs false
/-- What a reader holds: what is written, what is open, what was spent. -/
structure St where
  out : List UInt8
  op : List ByteArray
  sp : Int
def ncB (s : ByteArray) : Bool := nameB s && !Lib.contains s.data.toList [58]
/-- An entity by its name; `run` reads its text. -/
def entOf (run : Bool → List UInt8 → St → Option (Int × St)) (E : List Ent) (most : Int) (nm : ByteArray) (st : St) : Option (Int × St) :=
  if (fiveR nm).2 = true then some (0, ⟨st.out ++ (fiveR nm).1.data.toList, st.op, st.sp⟩)
  else if ncB nm = false then some (2, st)
  else if openC E st.op st.sp nm most = 0 then
    match run true (entR E nm).2.1.data.toList ⟨st.out, st.op ++ [nm], st.sp + (entR E nm).2.1.size⟩ with
    | none => none
    | some (k, st') => if k = 0 then some (0, ⟨st'.out, (closeS st'.op nm).2, st'.sp⟩) else some (k, st')
  else some (if openC E st.op st.sp nm most = 3 then 3 else 2, st)
def cutA (l : List UInt8) : List UInt8 := (Lib.cut l [59]).1
def cutB (l : List UInt8) : List UInt8 := (Lib.cut l [59]).2.1
def cutIs (l : List UInt8) : Bool := (Lib.cut l [59]).2.2
def refV (l : List UInt8) : Int × Bool := charRefV (crS (cutA l ++ [59]))
def refNm (l : List UInt8) : ByteArray := crS ((cutA l).drop 1)
def runT (E : List Ent) (most : Int) : Nat → Bool → List UInt8 → St → Option (Int × St)
  | 0, _, _, _ => none
  | n + 1, inner, l, st => match l with
    | [] => some (0, st)
    | c :: t =>
      if spaceB (c.toNat : Int) = true then runT E most n inner t ⟨st.out ++ [32], st.op, st.sp⟩
      else if c.toNat = 60 ∧ inner = true then some (2, st)
      else if c.toNat = 38 then
        (if cutIs (c :: t) = false then some (2, st)
        else if (refV (c :: t)).2 = true then runT E most n inner (cutB (c :: t)) ⟨st.out ++ Lib.encodeRune (refV (c :: t)).1, st.op, st.sp⟩
        else match entOf (runT E most n) E most (refNm (c :: t)) st with
          | none => none
          | some (k, st') => if k = 0 then runT E most n inner (cutB (c :: t)) st' else some (k, st'))
      else runT E most n inner t ⟨st.out ++ [c], st.op, st.sp⟩
/-! ### the cut at ';' -/
theorem cut_semi0 (t : List UInt8) : Lib.cut (59 :: t) [59] = ([], t, true) := by
  have hi : Lib.index (59 :: t) [59] = 0 := by unfold Lib.index; simp
  unfold Lib.cut
  rw [hi]; rfl
theorem cut_semi1 (c : UInt8) (t : List UInt8) (hc : c ≠ 59) : Lib.cut (c :: t) [59] = (c :: cutA t, cutB t, cutIs t) := by
  unfold cutA cutB cutIs
  have hp : ([59] : List UInt8).isPrefixOf (c :: t) = false := by
    have : ((59 : UInt8) == c) = false := by rw [beq_eq_false_iff_ne]; exact fun e => hc e.symm
    rw [List.isPrefixOf_cons_cons, this]; rfl
  have hge := Lib.index_ge t [59]
  unfold Lib.cut
  by_cases hz : Lib.index t [59] = -1
  · have hi : Lib.index (c :: t) [59] = -1 := by unfold Lib.index; rw [hp, hz]; rfl
    rw [hi, hz, if_neg (by omega), if_neg (by omega)]
  · have hi : Lib.index (c :: t) [59] = Lib.index t [59] + 1 := by
      rw [Lib.index, hp]
      have : (Lib.index t [59] == -1) = false := by simpa using hz
      simp [this]
    have e : (Lib.index t [59] + 1).toNat = (Lib.index t [59]).toNat + 1 := by omega
    rw [hi, if_pos (by omega), if_pos (by omega), e]
    simp
theorem cut_is : ∀ (l : List UInt8), cutIs l = true → l = cutA l ++ 59 :: cutB l
  | [], h => by cases h
  | c :: t, h => by
    by_cases hc : c = 59
    · subst hc
      unfold cutA cutB; rw [cut_semi0]; rfl
    · have e := cut_semi1 c t hc
      unfold cutIs at h
      rw [e] at h
      have ih := cut_is t h
      conv => lhs; rw [ih]
      unfold cutA cutB
      rw [e]
      rfl
theorem cut_not : ∀ (l : List UInt8), cutIs l = false → cutA l = l
  | [], h => rfl
  | c :: t, h => by
    by_cases hc : c = 59
    · subst hc
      unfold cutIs at h; rw [cut_semi0] at h; cases h
    · have e := cut_semi1 c t hc
      unfold cutIs at h
      rw [e] at h
      have ih := cut_not t h
      unfold cutA
      rw [e]
      show c :: cutA t = c :: t
      rw [ih]
theorem cutA_amp (c : UInt8) (t : List UInt8) (hc : c.toNat = 38) : cutA (c :: t) = c :: cutA t ∧ cutB (c :: t) = cutB t ∧ cutIs (c :: t) = cutIs t := by
  have e := cut_semi1 c t (by rintro rfl; exact absurd hc (by decide))
  unfold cutA cutB cutIs
  rw [e]
  exact ⟨rfl, rfl, rfl⟩
/-! ### what stays, what grows -/
structure Grew (st st' : St) (k : Int) : Prop where
  out : st.out.length ≤ st'.out.length
  op : k = 0 → st'.op = st.op
  sp : st.sp ≤ st'.sp
theorem Grew.refl (st : St) (k : Int) : Grew st st k := ⟨Nat.le_refl _, fun _ => rfl, Int.le_refl _⟩
theorem Grew.trans {a b c : St} {k : Int} (h : Grew a b 0) (h' : Grew b c k) : Grew a c k := ⟨Nat.le_trans h.out h'.out, fun hk => (h'.op hk).trans (h.op rfl), Int.le_trans h.sp h'.sp⟩
theorem closeS_snoc (op : List ByteArray) (nm : ByteArray) : (closeS (op ++ [nm]) nm).2 = op := by simp [closeS]
theorem entOf_grew {run : Bool → List UInt8 → St → Option (Int × St)} (hr : ∀ b l st k st', run b l st = some (k, st') → Grew st st' k) {E : List Ent} {most : Int} {nm : ByteArray} {st st' : St} {k : Int}
    (h : entOf run E most nm st = some (k, st')) : Grew st st' k := by
  unfold entOf at h
  split at h
  · simp only [Option.some.injEq, Prod.mk.injEq] at h
    obtain ⟨rfl, rfl⟩ := h
    exact ⟨by simp, fun _ => rfl, Int.le_refl _⟩
  · split at h
    · simp only [Option.some.injEq, Prod.mk.injEq] at h
      obtain ⟨rfl, rfl⟩ := h
      exact Grew.refl _ _
    · split at h
      · cases hz : run true (entR E nm).2.1.data.toList ⟨st.out, st.op ++ [nm], st.sp + (entR E nm).2.1.size⟩ with
        | none => rw [hz] at h; cases h
        | some q =>
          obtain ⟨k1, s1⟩ := q
          have hg := hr _ _ _ _ _ hz
          rw [hz] at h
          simp only at h
          split at h
          · rename_i hk
            subst hk
            simp only [Option.some.injEq, Prod.mk.injEq] at h
            obtain ⟨rfl, rfl⟩ := h
            refine ⟨hg.out, fun _ => ?_, ?_⟩
            · show (closeS s1.op nm).2 = st.op
              rw [hg.op rfl]; exact closeS_snoc _ _
            · have := hg.sp; simp only at this ⊢; omega
          · rename_i hk
            simp only [Option.some.injEq, Prod.mk.injEq] at h
            obtain ⟨rfl, rfl⟩ := h
            exact ⟨hg.out, fun h0 => absurd h0 hk, by have := hg.sp; simp only at this; omega⟩
      · simp only [Option.some.injEq, Prod.mk.injEq] at h
        obtain ⟨_, rfl⟩ := h
        exact ⟨Nat.le_refl _, fun _ => rfl, Int.le_refl _⟩
theorem runT_grew (E : List Ent) (most : Int) : ∀ (n : Nat) (b : Bool) (l : List UInt8) (st : St) (k : Int) (st' : St), runT E most n b l st = some (k, st') → Grew st st' k := by
  intro n
  induction n with
  | zero => intro b l st k st' h; cases h
  | succ n ih =>
    intro b l st k st' h
    cases l with
    | nil =>
      simp only [runT, Option.some.injEq, Prod.mk.injEq] at h
      obtain ⟨_, rfl⟩ := h
      exact Grew.refl _ _
    | cons c t =>
      unfold runT at h
      simp only at h
      split at h
      · have := ih _ _ _ _ _ h
        exact ⟨by have := this.out; simp at this; omega, this.op, this.sp⟩
      · split at h
        · simp only [Option.some.injEq, Prod.mk.injEq] at h
          obtain ⟨_, rfl⟩ := h
          exact Grew.refl _ _
        · split at h
          · split at h
            · simp only [Option.some.injEq, Prod.mk.injEq] at h
              obtain ⟨_, rfl⟩ := h
              exact Grew.refl _ _
            · split at h
              · have := ih _ _ _ _ _ h
                exact ⟨by have := this.out; simp at this; omega, this.op, this.sp⟩
              · cases hz : entOf (runT E most n) E most (refNm (c :: t)) st with
                | none => rw [hz] at h; cases h
                | some q =>
                  obtain ⟨k1, s1⟩ := q
                  have hg := entOf_grew ih hz
                  rw [hz] at h
                  simp only at h
                  split at h
                  · rename_i hk
                    subst hk
                    exact hg.trans (ih _ _ _ _ _ h)
                  · simp only [Option.some.injEq, Prod.mk.injEq] at h
                    obtain ⟨rfl, rfl⟩ := h
                    exact hg
          · have := ih _ _ _ _ _ h
            exact ⟨by have := this.out; simp at this; omega, this.op, this.sp⟩
/-- Plain bytes: they are written as they are. -/
def plainC (c : UInt8) : Bool := !spaceB (c.toNat : Int) && (!decide (c.toNat = 60) && !decide (c.toNat = 38))
theorem runT_plain (E : List Ent) (most : Int) (inner : Bool) : ∀ (p : List UInt8) (n : Nat) (t : List UInt8) (st : St) (R : Int × St), p.all plainC = true → runT E most n inner (p ++ t) st = some R →
    ∃ m, m ≤ n ∧ runT E most m inner t ⟨st.out ++ p, st.op, st.sp⟩ = some R
  | [], n, t, st, R, _, h => ⟨n, Nat.le_refl _, by simpa using h⟩
  | c :: p, 0, t, st, R, _, h => by cases h
  | c :: p, n + 1, t, st, R, hp, h => by
    simp only [List.all_cons, Bool.and_eq_true] at hp
    obtain ⟨hc, hp⟩ := hp
    unfold plainC at hc
    simp only [Bool.and_eq_true, Bool.not_eq_true', decide_eq_false_iff_not] at hc
    obtain ⟨h1, h2, h3⟩ := hc
    rw [List.cons_append, runT] at h
    simp only [h1, Bool.false_eq_true, if_false, h2, false_and, h3] at h
    obtain ⟨m, hm, h'⟩ := runT_plain E most inner p n t _ R hp h
    exact ⟨m, by omega, by simpa using h'⟩
theorem runT_end {E : List Ent} {most : Int} {n : Nat} {inner : Bool} {st : St} {R : Int × St} (h : runT E most n inner [] st = some R) : R = (0, st) := by
  cases n with
  | zero => cases h
  | succ n => simpa [runT] using h.symm
theorem runT_space {E : List Ent} {most : Int} {n : Nat} {inner : Bool} {c : UInt8} {t : List UInt8} {st : St} {R : Int × St} (h : runT E most n inner (c :: t) st = some R) (hc : spaceB (c.toNat : Int) = true) :
    ∃ m, m ≤ n ∧ runT E most m inner t ⟨st.out ++ [32], st.op, st.sp⟩ = some R := by
  cases n with
  | zero => cases h
  | succ n => rw [runT] at h; simp only [hc, if_true] at h; exact ⟨n, by omega, h⟩
theorem runT_lt {E : List Ent} {most : Int} {n : Nat} {c : UInt8} {t : List UInt8} {st : St} {R : Int × St} (h : runT E most n true (c :: t) st = some R) (hc : c.toNat = 60) : R = (2, st) := by
  cases n with
  | zero => cases h
  | succ n =>
    have h1 : spaceB ((38 : Nat) : Int) = false := by decide
    have h2 : spaceB ((60 : Nat) : Int) = false := by decide
    rw [runT] at h; simp only [h1, h2, Bool.false_eq_true, if_false, hc, and_self, if_true, Option.some.injEq] at h; exact h.symm
theorem runT_amp {E : List Ent} {most : Int} {n : Nat} {inner : Bool} {c : UInt8} {t : List UInt8} {st : St} {R : Int × St} (h : runT E most n inner (c :: t) st = some R) (hc : c.toNat = 38) :
    (cutIs (c :: t) = false ∧ R = (2, st)) ∨ (cutIs (c :: t) = true ∧ ∃ m, m + 1 = n ∧
      (((refV (c :: t)).2 = true ∧ runT E most m inner (cutB (c :: t)) ⟨st.out ++ Lib.encodeRune (refV (c :: t)).1, st.op, st.sp⟩ = some R) ∨
       ((refV (c :: t)).2 = false ∧ ∃ k st', entOf (runT E most m) E most (refNm (c :: t)) st = some (k, st') ∧ ((k = 0 ∧ runT E most m inner (cutB (c :: t)) st' = some R) ∨ (k ≠ 0 ∧ R = (k, st')))))) := by
  cases n with
  | zero => cases h
  | succ n =>
    have h1 : spaceB ((38 : Nat) : Int) = false := by decide
    have h2 : spaceB ((60 : Nat) : Int) = false := by decide
    rw [runT] at h; simp only [h1, h2, Bool.false_eq_true, if_false, hc, if_true, show ¬ ((38 : Nat) = 60 ∧ inner = true) by omega] at h
    cases hi : cutIs (c :: t) with
    | false => rw [hi] at h; simp only [if_true, Option.some.injEq] at h; exact .inl ⟨rfl, h.symm⟩
    | true =>
      rw [hi] at h; simp only [Bool.true_eq_false, if_false] at h
      refine .inr ⟨rfl, n, rfl, ?_⟩
      cases hv : (refV (c :: t)).2 with
      | true => rw [hv] at h; simp only [if_true] at h; exact .inl ⟨rfl, h⟩
      | false =>
        rw [hv] at h; simp only [Bool.false_eq_true, if_false] at h
        refine .inr ⟨rfl, ?_⟩
        cases hz : entOf (runT E most n) E most (refNm (c :: t)) st with
        | none => rw [hz] at h; cases h
        | some q =>
          obtain ⟨k, st'⟩ := q
          rw [hz] at h
          simp only at h
          refine ⟨k, st', rfl, ?_⟩
          by_cases hk : k = 0
          · rw [if_pos hk] at h; exact .inl ⟨hk, h⟩
          · rw [if_neg hk] at h; exact .inr ⟨hk, (Option.some.inj h).symm⟩
end Go.Proofs.YtmjdjpelhhibgaaGreatDoor.Val
