/- The contracts of the package of namespaces: the state, and what asks it. -/
import Derived.Test.YtfohbgcpdpnndaaSc
namespace Go.Proofs.Ytfohbgcpdpnndaa.Sc
open Go.RowKit Go.Proofs.Ytfohbgcpdpnndaa.Ow
set_option linter.unusedVariables false

def zA : At := ⟨⟨#[]⟩, ⟨#[]⟩, ⟨#[]⟩, ⟨#[]⟩⟩
def cellsA (l : List At) : List Value := l.flatMap fun a => [.string a.pf, .string a.lc, .string a.ur, .string a.vl]
theorem cellsA_app (l m : List At) : cellsA (l ++ m) = cellsA l ++ cellsA m := by simp [cellsA]
theorem cellsA_len (l : List At) : (cellsA l).length = l.length * 4 := by
  induction l with
  | nil => rfl
  | cons e l ih => simp only [cellsA, List.flatMap_cons, List.length_append, List.length_cons] at *; simp at *; omega
theorem cellsA_at (l : List At) : ∀ i j, i < l.length → j < 4 → (cellsA l)[i * 4 + j]? = ([Value.string (l.getD i zA).pf, .string (l.getD i zA).lc, .string (l.getD i zA).ur, .string (l.getD i zA).vl])[j]? := by
  induction l with
  | nil => intro i j hi; simp at hi
  | cons e l ih =>
    intro i j hi hj
    have hc : cellsA (e :: l) = [.string e.pf, .string e.lc, .string e.ur, .string e.vl] ++ cellsA l := rfl
    rw [hc]
    cases i with
    | zero => rw [List.getElem?_append_left (by simp; omega)]; simp
    | succ i =>
      rw [List.getElem?_append_right (by simp; omega)]
      have := ih i j (by simpa using hi) hj
      rw [show (i + 1) * 4 + j - [Value.string e.pf, .string e.lc, .string e.ur, .string e.vl].length = i * 4 + j by simp; omega, this]
      simp
theorem cellsA_one {l : List At} : ∀ u ∈ cellsA l, u.oneCell' = true := by
  intro u hu
  simp only [cellsA, List.mem_flatMap] at hu
  obtain ⟨e, _, he⟩ := hu
  simp at he
  rcases he with rfl | rfl | rfl | rfl <;> rfl
/-- A slice of attributes, as its cells lie. -/
def CellsAt (w : World) (A : Option Addr) (l : List At) : Prop :=
  ∀ i, i < l.length → ∃ b o, A = some ⟨b, o, none⟩ ∧ b < w.heap.size ∧ w.cell? ⟨b, o + i * 4, none⟩ = some (.string (l.getD i zA).pf) ∧ w.cell? ⟨b, o + i * 4 + 1, none⟩ = some (.string (l.getD i zA).lc) ∧
    w.cell? ⟨b, o + i * 4 + 2, none⟩ = some (.string (l.getD i zA).ur) ∧ w.cell? ⟨b, o + i * 4 + 3, none⟩ = some (.string (l.getD i zA).vl)
theorem CellsAt.below {w w' : World} {A : Option Addr} {l : List At} (h : CellsAt w A l) (hb : Below w.heap.size w w') : CellsAt w' A l := by
  intro i hi
  obtain ⟨b, o, h1, h2, h3, h4, h5, h6⟩ := h i hi
  have hs := hb.size
  exact ⟨b, o, h1, by omega, (hb.cell (by simpa using h2)).trans h3, (hb.cell (by simpa using h2)).trans h4, (hb.cell (by simpa using h2)).trans h5, (hb.cell (by simpa using h2)).trans h6⟩
theorem cellsAt_of_own {w : World} {B n : Nat} {v : Value} {l : List At} (h : w.ownsRow B 35 4 v n (cellsA l)) (hn : l.length = n) : ∃ A cap, v = .slice A n cap ∧ CellsAt w A l ∧ (∀ ad, A = some ad → B ≤ ad.block) := by
  rcases h.2 with ⟨rfl, rfl⟩ | ⟨g, cap, cur, rfl, hg, h3, _⟩
  · exact ⟨none, 0, rfl, fun i hi => by omega, fun ad h => by cases h⟩
  · refine ⟨_, cap, rfl, fun i hi => ⟨g, 0, rfl, (Array.getElem?_eq_some_iff.1 h3).1, ?_⟩, fun ad h => by cases h; exact hg⟩
    have hc := h.cells (g := g) rfl
    have ha : ∀ k, (⟨g, 0, none⟩ : Addr).add k = ⟨g, k, none⟩ := by intro k; unfold Addr.add; split <;> simp_all
    refine ⟨?_, ?_, ?_, ?_⟩
    · have := hc (i * 4 + 0) _ (cellsA_at l i 0 hi (by omega)); rw [ha] at this; simpa using this
    · have := hc (i * 4 + 1) _ (cellsA_at l i 1 hi (by omega)); rw [ha] at this; simpa using this
    · have := hc (i * 4 + 2) _ (cellsA_at l i 2 hi (by omega)); rw [ha] at this; simpa using this
    · have := hc (i * 4 + 3) _ (cellsA_at l i 3 hi (by omega)); rw [ha] at this; simpa using this
/-! ### whether a declaration of the same names is among some -/
def sameB (a b : At) : Bool := (a.pf.toList == b.pf.toList) && (a.lc.toList == b.lc.toList)
theorem push1_any (a b : At) (bx : Nat) (w : World) (c0 : w.cell? ⟨bx, 0, none⟩ = some (.string a.pf)) (c1 : w.cell? ⟨bx, 1, none⟩ = some (.string a.lc)) (hbx : bx < w.heap.size) :
    Calls Try.prog 27 #[.agg #[.string b.pf, .string b.lc, .string b.ur, .string b.vl], .pointer (some ⟨bx, 0, none⟩)] w fun e w' => e = .returned (.bool (sameB a b)) ∧ Below w.heap.size w w' := by
  obtain ⟨pf, lc, ur, vl⟩ := b
  unfold sameB
  cases h1 : (a.pf.toList == pf.toList) <;> cases h2 : (a.lc.toList == lc.toList)
  all_goals
    go_enter Try.func27, Try.ntmps27
    go_wp2
    go_ret
    exact ⟨rfl, (Below.refl _ _).alloc (Nat.le_refl _) _⟩
def IdxF (m : Bool) (w : World) (e : Ending) (w' : World) : Prop := ∃ n : Int, e = .returned (.int .i64 n) ∧ decide (0 ≤ n) = m ∧ n ≤ 4611686018427387904 ∧ -1 ≤ n ∧ Below w.heap.size w w'
set_option maxRecDepth 100000 in
theorem indexFunc_any (a : At) (bx : Nat) (A : Option Addr) (cap : Nat) (m : List At) (w : World) (hm : CellsAt w A m) (hl : m.length ≤ 4611686018427387904) (c0 : w.cell? ⟨bx, 0, none⟩ = some (.string a.pf)) (c1 : w.cell? ⟨bx, 1, none⟩ = some (.string a.lc)) (hbx : bx < w.heap.size) :
    Calls Try.prog 31 #[.slice A m.length cap, .func (.func 27) #[] #[.pointer (some ⟨bx, 0, none⟩)]] w (IdxF (m.any (sameB a)) w) := by
  obtain ⟨R, hR⟩ : ∃ R, m.any (sameB a) = R := ⟨_, rfl⟩
  rw [hR]
  obtain ⟨n, hn⟩ : ∃ n, m.length = n := ⟨_, rfl⟩
  rw [hn] at hl ⊢
  have HN := Lib.hid hn
  have HR := Lib.hid hR
  clear hn hR
  go_enter Try.func31, Try.ntmps31
  go_wp2_with fail
  go_loopw [8] (fun x wr => ∃ j : Nat, j ≤ n ∧ x = .int .i64 j ∧ Hid ((m.take j).any (sameB a) = false) ∧ Below w.heap.size w wr) (fun x _ => n - (intOf x).toNat)
  case atStart => exact ⟨0, by omega, rfl, (by simp : (m.take 0).any _ = false), Below.refl _ _⟩
  case round =>
    obtain ⟨j, hj, rfl, hS, hB⟩ := hrel
    have d0 := (hB.cell (p := ⟨bx, 0, none⟩) hbx).trans c0
    have d1 := (hB.cell (p := ⟨bx, 1, none⟩) hbx).trans c1
    have hbz : bx < wr.heap.size := Nat.lt_of_lt_of_le hbx hB.size
    by_cases hlt : j < n
    · have hjm : j < m.length := by rw [HN.out]; exact hlt
      obtain ⟨b, hb⟩ : ∃ b, m.getD j zA = b := ⟨_, rfl⟩
      obtain ⟨g, o, rfl, hgl, e0, e1, e2, e3⟩ := hm j hjm
      rw [hb] at e0 e1 e2 e3
      have htake : m.take (j + 1) = m.take j ++ [b] := by rw [List.take_succ_eq_append_getElem hjm, ← hb]; simp [List.getD, hjm]
      have HT := Lib.hid htake
      have f0 := (hB.cell (p := ⟨g, o + j * 4, none⟩) hgl).trans e0
      have f1 := (hB.cell (p := ⟨g, o + j * 4 + 1, none⟩) hgl).trans e1
      have f2 := (hB.cell (p := ⟨g, o + j * 4 + 2, none⟩) hgl).trans e2
      have f3 := (hB.cell (p := ⟨g, o + j * 4 + 3, none⟩) hgl).trans e3
      have hgz : g < wr.heap.size := Nat.lt_of_lt_of_le hgl hB.size
      have HP := push1_any a b bx wr d0 d1 hbz
      clear htake hb e0 e1 e2 e3 hm c0 c1
      cases hs : sameB a b with
      | true =>
        rw [hs] at HP
        have HS2 := Lib.hid hs
        clear hs
        go_wp2_with fail
        refine HP.mono ?_
        clear HP
        rintro e w1 ⟨rfl, hb1⟩
        go_wp2_with fail
        go_ret
        refine ⟨_, rfl, ?_, by omega, by omega, hB.trans (hb1.mono hB.size)⟩
        rw [← HR.out]
        have h1 : m.any (sameB a) = true := by
          rw [← List.take_append_drop (j + 1) m, List.any_append, HT.out, List.any_append]
          simp [HS2.out]
        rw [h1]
        simp
      | false =>
        rw [hs] at HP
        have HS2 : Hid ((m.take (j + 1)).any (sameB a) = false) := by
          show (m.take (j + 1)).any (sameB a) = false
          rw [HT.out, List.any_append, hS.out]; simp [hs]
        clear hs
        go_wp2_with fail
        refine HP.mono ?_
        clear HP
        rintro e w1 ⟨rfl, hb1⟩
        go_wp2_with fail
        go_roundw
        case rel => exact ⟨j + 1, by omega, by go_num, HS2, hB.trans (hb1.mono hB.size)⟩
        case measure => simp [intOf]; omega
    · obtain rfl : j = n := by omega
      clear hm
      go_wp2_with fail
      go_ret
      refine ⟨_, rfl, ?_, by omega, by omega, hB⟩
      rw [← HR.out]
      have := hS.out
      rw [← HN.out, List.take_length] at this
      rw [this]
      rfl
theorem containsFunc_any (a : At) (bx : Nat) (A : Option Addr) (cap : Nat) (m : List At) (w : World) (hm : CellsAt w A m) (hl : m.length ≤ 4611686018427387904) (c0 : w.cell? ⟨bx, 0, none⟩ = some (.string a.pf)) (c1 : w.cell? ⟨bx, 1, none⟩ = some (.string a.lc)) (hbx : bx < w.heap.size) :
    Calls Try.prog 26 #[.slice A m.length cap, .func (.func 27) #[] #[.pointer (some ⟨bx, 0, none⟩)]] w fun e w' => e = .returned (.bool (m.any (sameB a))) ∧ Below w.heap.size w w' := by
  have H := indexFunc_any a bx A cap m w hm hl c0 c1 hbx
  clear hm c0 c1 hbx hl
  go_enter Try.func26, Try.ntmps26
  go_wp2_with fail
  refine H.mono ?_
  clear H
  rintro e w' ⟨n, rfl, hn, hn1, hn2, hb⟩
  have HN := Lib.hid hn
  clear hn
  go_wp2_with fail
  go_ret
  refine ⟨?_, hb⟩
  rw [← HN.out]
  simp
end Go.Proofs.Ytfohbgcpdpnndaa.Sc
