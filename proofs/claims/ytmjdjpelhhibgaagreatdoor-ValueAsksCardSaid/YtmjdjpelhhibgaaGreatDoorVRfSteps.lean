/- The steps of references, over a state that a law holds: its own blocks lie from the heap's size on that the law began with. -/
import Derived.Test.YtmjdjpelhhibgaaGreatDoorVRf
namespace Go.Proofs.YtmjdjpelhhibgaaGreatDoor.Rf
open Go.RowKit
set_option linter.unusedVariables false

/-- The state of a Refs that was made since the world w0. -/
def RS (w0 w : World) (p : Nat) (E : List Ent) (op : List ByteArray) (sp : Int) : Prop :=
  ∃ bm v, IsRefs w p bm v E op sp ∧ Below w0.heap.size w0 w ∧ w0.heap.size ≤ p ∧ ∀ k, v.ownBlock = some k → w0.heap.size ≤ k
theorem RS.bel {w0 w : World} {p : Nat} {E : List Ent} {op : List ByteArray} {sp : Int} (h : RS w0 w p E op sp) : Below w0.heap.size w0 w := by
  obtain ⟨_, _, _, h, _⟩ := h; exact h
theorem RS.size {w0 w : World} {p : Nat} {E : List Ent} {op : List ByteArray} {sp : Int} (h : RS w0 w p E op sp) : w0.heap.size ≤ w.heap.size := h.bel.size
theorem RS.below {w0 w w' : World} {p : Nat} {E : List Ent} {op : List ByteArray} {sp : Int} (h : RS w0 w p E op sp) (hb : Below w.heap.size w w') : RS w0 w' p E op sp := by
  obtain ⟨bm, v, h1, h2, h3, h4⟩ := h
  exact ⟨bm, v, h1.below hb, h2.trans (hb.mono h2.size), h3, h4⟩
theorem RS.turned {w0 w w' : World} {p bm' : Nat} {v v' : Value} {E' : List Ent} {op' : List ByteArray} {sp' : Int} (h1 : Below w0.heap.size w0 w) (h2 : w0.heap.size ≤ p) (h3 : ∀ k, v.ownBlock = some k → w0.heap.size ≤ k) (hI : IsRefs w' p bm' v' E' op' sp') (hT : Turned p v v' w w') : RS w0 w' p E' op' sp' :=
  ⟨bm', v', hI, h1.trans (hT.below h1.size h2 h3), h2, fun k hk => by rcases hT.own k hk with h | h; exact h3 k h; exact Nat.le_trans h1.size h⟩

def openS (E : List Ent) (op : List ByteArray) (sp : Int) (nm : ByteArray) (most : Int) : (ByteArray × Int) × (List ByteArray × Int) :=
  if openC E op sp nm most = 0 then (((entR E nm).2.1, 0), (op ++ [nm], sp + (entR E nm).2.1.size)) else ((⟨#[]⟩, openC E op sp nm most), (op, sp))
theorem RS.opens {w0 w : World} {p : Nat} {E : List Ent} {op : List ByteArray} {sp : Int} (h : RS w0 w p E op sp) (nm : ByteArray) (most : Int) (hl : op.length ≤ 1000000000) (h0 : 0 ≤ sp) (h1 : sp ≤ 9223372036854775807)
    (hm0 : -9223372036854775808 ≤ most) (hm1 : most ≤ 9223372036854775807) (hsz : (entR E nm).2.1.size ≤ 4611686018427387904) (a : ByteArray) (c : Int) (op' : List ByteArray) (sp' : Int) (hr : openS E op sp nm most = ((a, c), (op', sp'))) :
    Calls Tryz.prog 59 #[.pointer (some ⟨p, 0, none⟩), .string nm, .int .i64 most] w fun e w' => e = .returned (.tuple #[.string a, .int .i64 c]) ∧ RS w0 w' p E op' sp' := by
  obtain ⟨bm, v, k1, k2, k3, k4⟩ := h
  unfold openS at hr
  by_cases hc : openC E op sp nm most = 0
  · rw [if_pos hc] at hr
    obtain ⟨⟨rfl, rfl⟩, rfl, rfl⟩ : ((entR E nm).2.1 = a ∧ 0 = c) ∧ op ++ [nm] = op' ∧ sp + ((entR E nm).2.1.size : Int) = sp' := by simpa using hr
    refine (open_ok p bm v E op sp nm most w k1 hl h0 h1 hm0 hm1 hsz hc).mono ?_
    rintro e w' ⟨rfl, v', hI, hT⟩
    exact ⟨rfl, RS.turned k2 k3 k4 hI hT⟩
  · rw [if_neg hc] at hr
    obtain ⟨⟨rfl, hcc⟩, rfl, rfl⟩ : ((⟨#[]⟩ : ByteArray) = a ∧ openC E op sp nm most = c) ∧ op = op' ∧ sp = sp' := by simpa using hr
    refine (open_fail p bm v E op sp nm most w k1 (by omega) h0 h1 hm0 hm1 hsz c hcc (by rw [← hcc]; exact hc)).mono ?_
    rintro e w' ⟨rfl, hI, hT⟩
    exact ⟨rfl, RS.turned k2 k3 k4 hI hT⟩
def closeS (op : List ByteArray) (nm : ByteArray) : Bool × List ByteArray := match op.getLast? with
  | none => (false, op)
  | some z => if z = nm then (true, op.dropLast) else (false, op)
theorem snoc_cases {α : Type} (l : List α) : l = [] ∨ ∃ ys z, l = ys ++ [z] := by
  rcases List.eq_nil_or_concat l with h | ⟨ys, z, h⟩
  · exact .inl h
  · exact .inr ⟨ys, z, by simpa using h⟩
theorem RS.closes {w0 w : World} {p : Nat} {E : List Ent} {op : List ByteArray} {sp : Int} (h : RS w0 w p E op sp) (nm : ByteArray) (hl : op.length ≤ 1000000000) (b : Bool) (op' : List ByteArray) (hr : closeS op nm = (b, op')) :
    Calls Tryz.prog 60 #[.pointer (some ⟨p, 0, none⟩), .string nm] w fun e w' => e = .returned (.bool b) ∧ RS w0 w' p E op' sp := by
  obtain ⟨bm, v, k1, k2, k3, k4⟩ := h
  rcases snoc_cases op with rfl | ⟨ys, z, rfl⟩
  · obtain ⟨rfl, rfl⟩ : false = b ∧ [] = op' := by simpa [closeS] using hr
    refine (close_empty p bm v E sp nm w k1).mono ?_
    rintro e w' ⟨rfl, hI, hT⟩
    exact ⟨rfl, RS.turned k2 k3 k4 hI hT⟩
  · by_cases hz : z = nm
    · subst hz
      obtain ⟨rfl, rfl⟩ : true = b ∧ ys = op' := by simpa [closeS] using hr
      refine (close_yes p bm v E ys z sp w k1 (by simp at hl; omega)).mono ?_
      rintro e w' ⟨rfl, v', hI, hT⟩
      exact ⟨rfl, RS.turned k2 k3 k4 hI hT⟩
    · obtain ⟨rfl, rfl⟩ : false = b ∧ ys ++ [z] = op' := by simpa [closeS, hz] using hr
      refine (close_no p bm v E ys z sp nm w k1 (by simp at hl; omega) hz).mono ?_
      rintro e w' ⟨rfl, hI, hT⟩
      exact ⟨rfl, RS.turned k2 k3 k4 hI hT⟩
theorem RS.spends {w0 w : World} {p : Nat} {E : List Ent} {op : List ByteArray} {sp : Int} (h : RS w0 w p E op sp) (n most : Int) (h0 : 0 ≤ sp) (h1 : sp ≤ 9223372036854775807)
    (hn0 : -9223372036854775808 ≤ n) (hn1 : n ≤ 9223372036854775807) (hm0 : -9223372036854775808 ≤ most) (hm1 : most ≤ 9223372036854775807) (c sp' : Int) (hr : (if spendOk n most sp then ((0 : Int), sp + max n 0) else (3, sp)) = (c, sp')) :
    Calls Tryz.prog 85 #[.pointer (some ⟨p, 0, none⟩), .int .i64 n, .int .i64 most] w fun e w' => e = .returned (.int .i64 c) ∧ RS w0 w' p E op sp' := by
  obtain ⟨bm, v, k1, k2, k3, k4⟩ := h
  refine (spend_any p bm v E op sp n most w k1 h0 h1 hn0 hn1 hm0 hm1).mono ?_
  rintro e w' ⟨rfl, hI, hT⟩
  cases hk : spendOk n most sp with
  | true =>
    rw [hk] at hr hI
    obtain ⟨rfl, rfl⟩ : 0 = c ∧ sp + max n 0 = sp' := by simpa using hr
    exact ⟨rfl, RS.turned k2 k3 k4 (by simpa using hI) hT⟩
  | false =>
    rw [hk] at hr hI
    obtain ⟨rfl, rfl⟩ : 3 = c ∧ sp = sp' := by simpa using hr
    exact ⟨rfl, RS.turned k2 k3 k4 (by simpa using hI) hT⟩
theorem RS.spent {w0 w : World} {p : Nat} {E : List Ent} {op : List ByteArray} {sp : Int} (h : RS w0 w p E op sp) :
    Calls Tryz.prog 19 #[.pointer (some ⟨p, 0, none⟩)] w fun e w' => e = .returned (.int .i64 sp) ∧ w = w' := by
  obtain ⟨bm, v, k1, k2, k3, k4⟩ := h
  exact spent_any p bm v E op sp w k1
theorem RS.depth {w0 w : World} {p : Nat} {E : List Ent} {op : List ByteArray} {sp : Int} (h : RS w0 w p E op sp) :
    Calls Tryz.prog 20 #[.pointer (some ⟨p, 0, none⟩)] w fun e w' => e = .returned (.int .i64 op.length) ∧ w = w' := by
  obtain ⟨bm, v, k1, k2, k3, k4⟩ := h
  exact depth_any p bm v E op sp w k1
/-- A new one, of a row of entities; w0: where its blocks begin. -/
theorem new_RS (d : ByteArray) (A : Option Addr) (n cap : Nat) (vAtts : Value) (E : List Ent) (w : World) (hE : RowE w A E) (hn : E.length = n) (hl : n ≤ 1000000000) :
    Calls Tryz.prog 9 #[.agg #[.string d, .slice A n cap, vAtts]] w fun e w' => ∃ p, e = .returned (.pointer (some ⟨p, 0, none⟩)) ∧ RS w w' p E [] 0 := by
  subst hn
  refine (new_any d A cap vAtts E w hE hl).mono ?_
  rintro e w' ⟨p, bm, rfl, h1, h2, h3, h4⟩
  exact ⟨p, rfl, bm, _, h1, h4, h2, fun k hk => by cases hk⟩
end Go.Proofs.YtmjdjpelhhibgaaGreatDoor.Rf
