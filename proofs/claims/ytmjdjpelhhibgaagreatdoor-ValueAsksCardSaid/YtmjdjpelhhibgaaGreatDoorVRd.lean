/- The state of a reader of values, beside the references that it reads by: what each step keeps. -/
import Derived.Test.YtmjdjpelhhibgaaGreatDoorVBld
namespace Go.Proofs.YtmjdjpelhhibgaaGreatDoor.Val
open Go Go.RowKit Go.Proofs.YtmjdjpelhhibgaaGreatDoor.Rf Go.Proofs.YtmjdjpelhhibgaaGreatDoor.Spec Go.Proofs.YtmjdjpelhhibgaaGreatDoor.Giv
set_option linter.unusedVariables false
set_option linter.unusedSimpArgs false
/-- Blocks that are neither of two, and no row of bytes or of texts, stand. -/
def Fr (p rb : Nat) (w w' : World) : Prop := ∀ k o, w.heap[k]? = some o → k ≠ p → k ≠ rb → (∀ c fz, o ≠ .cells c TU fz) → (∀ c fz, o ≠ .cells c 9 fz) → w'.heap[k]? = some o
theorem Fr.refl (p rb : Nat) (w : World) : Fr p rb w w := fun _ _ h _ _ _ _ => h
theorem Fr.trans {p rb : Nat} {a b c : World} (h : Fr p rb a b) (h' : Fr p rb b c) : Fr p rb a c := fun k o hk h1 h2 h3 h4 => h' k o (h k o hk h1 h2 h3 h4) h1 h2 h3 h4
theorem Fr.of_others {p rb : Nat} {w w' : World} (h : Lib.OthersKept TU (some rb) w w') : Fr p rb w w' := fun k o hk _ h2 h3 _ => h k o hk (by simpa using h2) h3
theorem Fr.of_below {p rb : Nat} {w w' : World} (h : Below w.heap.size w w') : Fr p rb w w' := fun k o hk _ _ _ _ => (h.block k (Array.getElem?_eq_some_iff.1 hk).1).trans hk
theorem Fr.of_turned {p rb : Nat} {v v' : Value} {w w' : World} {n : Nat} {xs : List Value} (h : Turned p v v' w w') (ho : w.ownsRow 0 9 1 v n xs) : Fr p rb w w' := fun k o hk h1 _ _ h4 => by
  refine (h.block k (Array.getElem?_eq_some_iff.1 hk).1 h1 ?_).trans hk
  intro e
  rcases ho.2 with ⟨rfl, _⟩ | ⟨g, cap, cur, rfl, _, hg, _⟩
  · cases e
  · have : g = k := by simpa [Value.ownBlock] using e.symm
    subst this
    rw [hk] at hg
    exact h4 _ _ (Option.some.inj hg)
/-- The references that a law has made, kept by what turns one other block and rows of bytes. -/
theorem IsRefs.others {w w' : World} {p bm rb : Nat} {v : Value} {E : List Ent} {op : List ByteArray} {sp : Int} (h : IsRefs w p bm v E op sp) (hp : p ≠ rb) (hk : Lib.OthersKept TU (some rb) w w') (hT : ∀ c fz, w.heap[rb]? = some (.cells c TR fz) → True) (hrb : ∃ c fz, w.heap[rb]? = some (.cells c TR fz)) : IsRefs w' p bm v E op sp := by
  obtain ⟨hc, ⟨L, hm, hR⟩, ho⟩ := h
  obtain ⟨crb, fzb, hrb⟩ := hrb
  refine ⟨hk p _ hc (by simpa using hp) (by intro c fz e; cases e), ⟨L, ?_, hR⟩, ?_⟩
  · obtain ⟨es, cl, h1, h2⟩ := hm
    refine ⟨es, cl, hk bm _ h1 ?_ (by intro c fz e; cases e), h2⟩
    intro e
    have e2 : bm = rb := by simpa using e
    rw [e2, hrb] at h1; cases h1
  · refine ⟨ho.1, ?_⟩
    rcases ho.2 with h0 | ⟨g, cap, cur, hv, hb, hg, rest⟩
    · exact .inl h0
    · refine .inr ⟨g, cap, cur, hv, hb, hk g _ hg ?_ (by intro c fz e; cases e), rest⟩
      intro e
      have e2 : g = rb := by simpa using e
      rw [e2, hrb] at hg; cases hg
theorem RdAt.heap {B rb : Nat} {a rf : Value} {most : Int} {cs : List Value} {w : World} (h : RdAt B rb a rf most cs w) : ∃ c fz, w.heap[rb]? = some (.cells c TR fz) := by
  obtain ⟨_, v, hb, _⟩ := h
  exact ⟨_, _, hb⟩
theorem IsRd.heap {B rb : Nat} {rf : Value} {most : Int} {cs : List Value} {w : World} (h : IsRd B rb rf most cs w) : ∃ c fz, w.heap[rb]? = some (.cells c TR fz) := by
  rcases h with h | h <;> exact h.heap
/-- A reader is kept by what keeps its block and rows of bytes. -/
theorem RdAt.kept {B rb : Nat} {a rf : Value} {most : Int} {cs : List Value} {w w' : World} (h : RdAt B rb a rf most cs w) (hk : ∀ (k : Nat) (c : Array Value) (T : TypeId) (fz : Nat × Nat), w.heap[k]? = some (Obj.cells c T fz) → (T = TR ∨ T = TU) → w'.heap[k]? = some (Obj.cells c T fz)) : RdAt B rb a rf most cs w' := by
  obtain ⟨hB, v, hb, hown, hne, hz⟩ := h
  refine ⟨hB, v, hk _ _ _ _ hb (.inl rfl), ⟨hown.1, ?_⟩, hne, hz⟩
  rcases hown.2 with h0 | ⟨g, cap, cur, fz, hv, hbg, hg, rest⟩
  · exact .inl h0
  · exact .inr ⟨g, cap, cur, fz, hv, hbg, hk _ _ _ _ hg (.inr rfl), rest⟩
theorem IsRd.kept {B rb : Nat} {rf : Value} {most : Int} {cs : List Value} {w w' : World} (h : IsRd B rb rf most cs w) (hk : ∀ (k : Nat) (c : Array Value) (T : TypeId) (fz : Nat × Nat), w.heap[k]? = some (Obj.cells c T fz) → (T = TR ∨ T = TU) → w'.heap[k]? = some (Obj.cells c T fz)) : IsRd B rb rf most cs w' :=
  h.elim (fun h => .inl (h.kept hk)) (fun h => .inr (h.kept hk))
theorem IsRd.turned {B rb p bm : Nat} {rf v v' : Value} {most : Int} {cs : List Value} {w w' : World} {E : List Ent} {op : List ByteArray} {sp : Int} (h : IsRd B rb rf most cs w) (hI : IsRefs w p bm v E op sp) (hT : Turned p v v' w w') : IsRd B rb rf most cs w' := by
  refine h.kept fun k c T fz hk hTT => (hT.block k (Array.getElem?_eq_some_iff.1 hk).1 ?_ ?_).trans hk
  · rintro rfl
    rw [hI.cells] at hk
    simp only [Option.some.injEq, Obj.cells.injEq] at hk
    rcases hTT with rfl | rfl
    · exact absurd hk.2.1 (by decide)
    · exact absurd hk.2.1 (by decide)
  · intro e
    rcases hI.own.2 with ⟨rfl, _⟩ | ⟨g, cap, cur, rfl, _, hg, _⟩
    · cases e
    · have : g = k := by simpa [Value.ownBlock] using e.symm
      subst this
      rw [hg] at hk
      simp only [Option.some.injEq, Obj.cells.injEq] at hk
      rcases hTT with rfl | rfl
      · exact absurd hk.2.1 (by decide)
      · exact absurd hk.2.1 (by decide)
theorem IsRd.belowW {B rb : Nat} {rf : Value} {most : Int} {cs : List Value} {w w' : World} (h : IsRd B rb rf most cs w) (hb : Below w.heap.size w w') : IsRd B rb rf most cs w' :=
  h.kept fun k c T fz hk _ => (hb.block k (Array.getElem?_eq_some_iff.1 hk).1).trans hk
/-- The state: references at p, a reader at rb. -/
structure VS (w0 w : World) (p rb : Nat) (E : List Ent) (most : Int) (st : St) : Prop where
  rs : RS w0 w p E st.op st.sp
  rd : IsRd w0.heap.size rb (.pointer (some ⟨p, 0, none⟩)) most (Lib.byteCells st.out) w
  sp0 : 0 ≤ st.sp
  sp1 : st.sp ≤ 9223372036854775807
theorem VS.bel {w0 w : World} {p rb : Nat} {E : List Ent} {most : Int} {st : St} (h : VS w0 w p rb E most st) : Below w0.heap.size w0 w := h.rs.bel
theorem VS.env {w0 w : World} {p rb : Nat} {E : List Ent} {most : Int} {st : St} (h : VS w0 w p rb E most st) (hE : Env w0) : Env w := hE.below h.bel
theorem VS.below {w0 w w' : World} {p rb : Nat} {E : List Ent} {most : Int} {st : St} (h : VS w0 w p rb E most st) (hb : Below w.heap.size w w') : VS w0 w' p rb E most st :=
  ⟨h.rs.below hb, h.rd.belowW hb, h.sp0, h.sp1⟩
theorem VS.drew {w0 w : World} {p rb : Nat} {E : List Ent} {most : Int} {st : St} (h : VS w0 w p rb E most st) : VS w0 w.drew p rb E most st := h.below (Below.drew (Below.refl _ _))
theorem Fr.undrew {p rb : Nat} {w w' : World} (h : Fr p rb w.drew w') : Fr p rb w w' := h
theorem IsRefs.keep {w w' : World} {p bm : Nat} {v : Value} {E : List Ent} {op : List ByteArray} {sp : Int} (h : IsRefs w p bm v E op sp) (hk : ∀ (k : Nat) (o : Obj), w.heap[k]? = some o → (∀ s q, o ≠ .stringIter s q) → w'.heap[k]? = some o) : IsRefs w' p bm v E op sp := by
  obtain ⟨hc, ⟨L, hm, hR⟩, ho⟩ := h
  refine ⟨hk p _ hc (by intro s q e; cases e), ⟨L, ?_, hR⟩, ho.1, ?_⟩
  · obtain ⟨es, cl, h1, h2⟩ := hm
    exact ⟨es, cl, hk bm _ h1 (by intro s q e; cases e), h2⟩
  · rcases ho.2 with h0 | ⟨g, cap, cur, hv, hb, hg, rest⟩
    · exact .inl h0
    · exact .inr ⟨g, cap, cur, hv, hb, hk g _ hg (by intro s q e; cases e), rest⟩
theorem VS.keep {w0 w w' : World} {p rb : Nat} {E : List Ent} {most : Int} {st : St} (h : VS w0 w p rb E most st) (hb : Below w0.heap.size w w') (hk : ∀ (k : Nat) (o : Obj), w.heap[k]? = some o → (∀ s q, o ≠ .stringIter s q) → w'.heap[k]? = some o) : VS w0 w' p rb E most st := by
  obtain ⟨⟨bm, v, hI, hb0, hpl, hv⟩, hrd, h0, h1⟩ := h
  exact ⟨⟨bm, v, IsRefs.keep hI hk, hb0.trans hb, hpl, hv⟩, hrd.kept fun k c T fz h _ => hk k _ h (by intro s q e; cases e), h0, h1⟩
theorem VS.iter {w0 w : World} {p rb : Nat} {E : List Ent} {most : Int} {st : St} (h : VS w0 w p rb E most st) {k : Nat} {s : ByteArray} {pos : Nat} (hk : w.heap[k]? = some (.stringIter s pos)) (hB : w0.heap.size ≤ k) (pos' : Nat) : VS w0 (w.iterAt k s pos') p rb E most st := by
  refine h.keep (Lib.below_iterAt (Below.refl _ _) hB s pos') fun j o hj ho => ?_
  rw [Lib.iterAt_other _ _ _ _ _ (fun e => by subst e; rw [hk] at hj; exact ho _ _ (Option.some.inj hj).symm)]
  exact hj
theorem VS.lt {w0 w : World} {p rb : Nat} {E : List Ent} {most : Int} {st : St} (h : VS w0 w p rb E most st) : rb < w.heap.size := by
  rcases h.rd with h | h <;> exact h.lt
theorem VS.cell2 {w0 w : World} {p rb : Nat} {E : List Ent} {most : Int} {st : St} (h : VS w0 w p rb E most st) : w.cell? ⟨rb, 2, none⟩ = some (.pointer (some ⟨p, 0, none⟩)) := by
  rcases h.rd with h | h <;> exact h.cell2
theorem VS.cell3 {w0 w : World} {p rb : Nat} {E : List Ent} {most : Int} {st : St} (h : VS w0 w p rb E most st) : w.cell? ⟨rb, 3, none⟩ = some (.int .i64 most) := by
  rcases h.rd with h | h <;> exact h.cell3
theorem VS.ne {w0 w : World} {p rb : Nat} {E : List Ent} {most : Int} {st : St} (h : VS w0 w p rb E most st) : p ≠ rb := by
  rintro rfl
  obtain ⟨c, fz, hr⟩ := h.rd.heap
  obtain ⟨bm, v, hI, _⟩ := h.rs
  rw [hI.cells] at hr
  simp only [Option.some.injEq, Obj.cells.injEq] at hr
  exact absurd hr.2.1 (by decide)
/-- What a write of the reader comes to. -/
theorem VS.wrote {w0 w w' : World} {p rb : Nat} {E : List Ent} {most : Int} {st : St} {bs : List UInt8} (h : VS w0 w p rb E most st) (hp : RdP w0.heap.size rb (.pointer (some ⟨p, 0, none⟩)) most (Lib.byteCells (st.out ++ bs)) w w') :
    VS w0 w' p rb E most ⟨st.out ++ bs, st.op, st.sp⟩ ∧ Fr p rb w w' := by
  obtain ⟨h1, h2, h3⟩ := hp
  have hne := h.ne
  obtain ⟨bm, v, hI, hb, hpl, hv⟩ := h.rs
  exact ⟨⟨⟨bm, v, IsRefs.others hI hne h3 (fun _ _ _ => trivial) h.rd.heap, hb.trans h2, hpl, hv⟩, .inr h1, h.sp0, h.sp1⟩, Fr.of_others h3⟩
theorem VS.byte {w0 w : World} {p rb : Nat} {E : List Ent} {most : Int} {st : St} (h : VS w0 w p rb E most st) (hl : st.out.length ≤ 1000000000000) (c : UInt8) :
    Calls Tryz.prog 34 #[.pointer (some ⟨rb, 0, none⟩), .int .u8 (c.toNat : Int)] w fun e w' => e = .returned .nilIface ∧ VS w0 w' p rb E most ⟨st.out ++ [c], st.op, st.sp⟩ ∧ Fr p rb w w' := by
  refine (writeByte_any _ _ _ _ _ _ w h.rd (by rw [Lib.byteCells_length]; omega) h.rs.size).mono ?_
  rintro e w' ⟨rfl, hp⟩
  refine ⟨rfl, h.wrote (bs := [c]) ?_⟩
  rw [Lib.byteCells_append]
  exact hp
theorem VS.str {w0 w : World} {p rb : Nat} {E : List Ent} {most : Int} {st : St} (h : VS w0 w p rb E most st) (hl : st.out.length ≤ 1000000000000) (s : ByteArray) (hs : 0 < s.size) (hs1 : s.size < 4294967281) :
    Calls Tryz.prog 40 #[.pointer (some ⟨rb, 0, none⟩), .string s] w fun e w' => e = .returned (.tuple #[.int .i64 s.size, .nilIface]) ∧ VS w0 w' p rb E most ⟨st.out ++ s.data.toList, st.op, st.sp⟩ ∧ Fr p rb w w' := by
  refine (writeString_any _ _ _ _ _ _ w h.rd (by rw [Lib.byteCells_length]; omega) hs h.rs.size).mono ?_
  rintro e w' ⟨rfl, hp⟩
  refine ⟨rfl, h.wrote (bs := s.data.toList) ?_⟩
  rw [Lib.byteCells_append]
  exact hp
theorem VS.rune {w0 w : World} {p rb : Nat} {E : List Ent} {most : Int} {st : St} (h : VS w0 w p rb E most st) (hl : st.out.length ≤ 1000000000000) (r : Int) (hr0 : -2147483648 ≤ r) (hr1 : r ≤ 2147483647) :
    Calls Tryz.prog 37 #[.pointer (some ⟨rb, 0, none⟩), .int .i32 r] w fun e w' => e = .returned (.tuple #[.int .i64 (Lib.runeCells r).length, .nilIface]) ∧ VS w0 w' p rb E most ⟨st.out ++ Lib.encodeRune r, st.op, st.sp⟩ ∧ Fr p rb w w' := by
  refine (writeRune_any _ _ _ _ _ _ hr0 hr1 w h.rd (by rw [Lib.byteCells_length]; omega) h.rs.size).mono ?_
  rintro e w' ⟨rfl, hp⟩
  refine ⟨rfl, h.wrote (bs := Lib.encodeRune r) ?_⟩
  rw [Lib.byteCells_append, Lib.byteCells_encodeRune]
  exact hp
/-! ### references -/
theorem VS.open_yes {w0 w : World} {p rb : Nat} {E : List Ent} {most : Int} {st : St} (h : VS w0 w p rb E most st) (nm : ByteArray) (hl : st.op.length ≤ 1000000000) (hm0 : -9223372036854775808 ≤ most) (hm1 : most ≤ 9223372036854775807) (hsz : (entR E nm).2.1.size < 4294967281) (hc : openC E st.op st.sp nm most = 0) :
    Calls Tryz.prog 59 #[.pointer (some ⟨p, 0, none⟩), .string nm, .int .i64 most] w fun e w' => e = .returned (.tuple #[.string (entR E nm).2.1, .int .i64 0]) ∧
      VS w0 w' p rb E most ⟨st.out, st.op ++ [nm], st.sp + (entR E nm).2.1.size⟩ ∧ Fr p rb w w' := by
  obtain ⟨⟨bm, v, hI, hb, hpl, hv⟩, hrd, h0, h1⟩ := h
  have hle : st.sp + ((entR E nm).2.1.size : Int) ≤ most := by
    unfold openC at hc
    split at hc
    · cases hc
    · split at hc
      · rename_i _ hx; exact absurd hc hx
      · split at hc
        · cases hc
        · split at hc
          · rename_i hs
            unfold spendOk at hs
            simp only [Bool.and_eq_true, decide_eq_true_eq] at hs
            omega
          · cases hc
  refine (open_ok p bm v E st.op st.sp nm most w hI hl h0 h1 hm0 hm1 (by omega) hc).mono ?_
  rintro e w' ⟨rfl, v', hI', hT⟩
  exact ⟨rfl, ⟨RS.turned hb hpl hv hI' hT, hrd.turned hI hT, by show 0 ≤ st.sp + _; omega, by show st.sp + _ ≤ _; omega⟩, Fr.of_turned hT hI.own⟩
theorem VS.open_no {w0 w : World} {p rb : Nat} {E : List Ent} {most : Int} {st : St} (h : VS w0 w p rb E most st) (nm : ByteArray) (hl : st.op.length ≤ 1000000000) (hm0 : -9223372036854775808 ≤ most) (hm1 : most ≤ 9223372036854775807) (hsz : (entR E nm).2.1.size < 4294967281) (c : Int) (hc : openC E st.op st.sp nm most = c) (hc0 : c ≠ 0) :
    Calls Tryz.prog 59 #[.pointer (some ⟨p, 0, none⟩), .string nm, .int .i64 most] w fun e w' => e = .returned (.tuple #[.string emptyS, .int .i64 c]) ∧
      VS w0 w' p rb E most st ∧ Fr p rb w w' := by
  obtain ⟨⟨bm, v, hI, hb, hpl, hv⟩, hrd, h0, h1⟩ := h
  refine (open_fail p bm v E st.op st.sp nm most w hI (by omega) h0 h1 hm0 hm1 (by omega) c hc hc0).mono ?_
  rintro e w' ⟨rfl, hI', hT⟩
  exact ⟨rfl, ⟨RS.turned hb hpl hv hI' hT, hrd.turned hI hT, h0, h1⟩, Fr.of_turned hT hI.own⟩
theorem VS.close {w0 w : World} {p rb : Nat} {E : List Ent} {most : Int} {st : St} (h : VS w0 w p rb E most st) (nm : ByteArray) (hl : st.op.length ≤ 1000000000) :
    Calls Tryz.prog 60 #[.pointer (some ⟨p, 0, none⟩), .string nm] w fun e w' => e = .returned (.bool (closeS st.op nm).1) ∧
      VS w0 w' p rb E most ⟨st.out, (closeS st.op nm).2, st.sp⟩ ∧ Fr p rb w w' := by
  obtain ⟨out, op, sp⟩ := st
  obtain ⟨⟨bm, v, hI, hb, hpl, hv⟩, hrd, h0, h1⟩ := h
  simp only at *
  rcases snoc_cases op with rfl | ⟨ys, z, rfl⟩
  · refine (close_empty p bm v E sp nm w hI).mono ?_
    rintro e w' ⟨rfl, hI', hT⟩
    exact ⟨rfl, ⟨RS.turned hb hpl hv hI' hT, hrd.turned hI hT, h0, h1⟩, Fr.of_turned hT hI.own⟩
  · by_cases hz : z = nm
    · subst hz
      have e1 : closeS (ys ++ [z]) z = (true, ys) := by simp [closeS]
      rw [e1]
      refine (close_yes p bm v E ys z sp w hI (by simp at hl; omega)).mono ?_
      rintro e w' ⟨rfl, v', hI', hT⟩
      exact ⟨rfl, ⟨RS.turned hb hpl hv hI' hT, hrd.turned hI hT, h0, h1⟩, Fr.of_turned hT hI.own⟩
    · have e1 : closeS (ys ++ [z]) nm = (false, ys ++ [z]) := by simp [closeS, hz]
      rw [e1]
      refine (close_no p bm v E ys z sp nm w hI (by simp at hl; omega) hz).mono ?_
      rintro e w' ⟨rfl, hI', hT⟩
      exact ⟨rfl, ⟨RS.turned hb hpl hv hI' hT, hrd.turned hI hT, h0, h1⟩, Fr.of_turned hT hI.own⟩
end Go.Proofs.YtmjdjpelhhibgaaGreatDoor.Val
