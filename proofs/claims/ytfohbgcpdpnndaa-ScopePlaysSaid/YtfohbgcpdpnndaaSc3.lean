/- The contracts of the package of namespaces: New, Depth, Pop, level, URI. -/
import Derived.Test.YtfohbgcpdpnndaaSc2
namespace Go.Proofs.Ytfohbgcpdpnndaa.Sc
open Go.RowKit Go.Proofs.Ytfohbgcpdpnndaa.Ow
set_option linter.unusedVariables false

/-- Block p is a Scope: its levels lie in v. -/
structure IsScope (w : World) (p : Nat) (v : Value) (lv : List (List At)) : Prop where
  cells : w.heap[p]? = some (.cells #[v] 53 (0, 0))
  lev : ∃ ss : List Value, ss.length = lv.length ∧ w.ownsRow 0 20 1 v lv.length (ss.map (Value.iface 26)) ∧
    ∀ i, i < lv.length → w.ownsRow 0 35 4 (ss.getD i (.slice none 0 0)) (lv.getD i []).length (cellsA (lv.getD i []))
theorem IsScope.lt {w : World} {p : Nat} {v : Value} {lv : List (List At)} (h : IsScope w p v lv) : p < w.heap.size := (Array.getElem?_eq_some_iff.1 h.cells).1
theorem own_kept_below {w w' : World} {B T s n : Nat} {v : Value} {xs : List Value} (h : w.ownsRow B T s v n xs) (hb : Below w.heap.size w w') : w'.ownsRow B T s v n xs :=
  h.kept (row := none) ⟨hb.os, hb.tape, hb.output, hb.size, fun k hk _ => hb.block k hk⟩ (by cases v.ownBlock <;> simp)
theorem IsScope.below {w w' : World} {p : Nat} {v : Value} {lv : List (List At)} (h : IsScope w p v lv) (hb : Below w.heap.size w w') : IsScope w' p v lv := by
  obtain ⟨hc, ss, h1, h2, h3⟩ := h
  exact ⟨(hb.block p (Array.getElem?_eq_some_iff.1 hc).1).trans hc, ss, h1, own_kept_below h2 hb, fun i hi => own_kept_below (h3 i hi) hb⟩
theorem IsScope.shape {w : World} {p : Nat} {v : Value} {lv : List (List At)} (h : IsScope w p v lv) : ∃ A cap, v = .slice A lv.length cap := by
  obtain ⟨_, ss, h1, h2, _⟩ := h
  rcases h2.2 with ⟨rfl, h⟩ | ⟨g, cap, _, rfl, _⟩
  · exact ⟨none, 0, by rw [h]⟩
  · exact ⟨_, _, rfl⟩
theorem new_any (w : World) : Calls Try.prog 8 #[] w fun e w' => e = .returned (.pointer (some ⟨w.heap.size, 0, none⟩)) ∧ IsScope w' w.heap.size (.slice none 0 0) [] ∧ Below w.heap.size w w' := by
  go_enter Try.func8, Try.ntmps8
  go_wp2
  go_ret
  exact ⟨rfl, ⟨heap_alloc_new _ _, [], rfl, World.ownsRow_nil _ _ _ _, fun i hi => by simp at hi⟩, (Below.refl _ _).alloc (Nat.le_refl _) _⟩
theorem depth_any (p : Nat) (v : Value) (lv : List (List At)) (w : World) (h : IsScope w p v lv) :
    Calls Try.prog 21 #[.pointer (some ⟨p, 0, none⟩)] w fun e w' => e = .returned (.int .i64 lv.length) ∧ w = w' := by
  have c0 : w.cell? ⟨p, 0, none⟩ = some v := cell_of h.cells 0
  obtain ⟨A, cap, rfl⟩ := h.shape
  clear h
  go_enter Try.func21, Try.ntmps21
  go_wp2
  go_ret
  exact ⟨rfl, rfl⟩
/-! ### one level -/
theorem assert_attrs (s : Value) (W : World) : (Instr.typeAssert (.iface 26 s) 20 26 true).run Try.prog W = .ok (.tuple #[s, .bool true]) W := by kernel_rfl
theorem IsScope.level {w : World} {p : Nat} {v : Value} {lv : List (List At)} (h : IsScope w p v lv) {k : Nat} (hk : k < lv.length) :
    ∃ g cap A c, v = .slice (some ⟨g, 0, none⟩) lv.length cap ∧ w.cell? ⟨g, k, none⟩ = some (.iface 26 (.slice A (lv.getD k []).length c)) ∧ CellsAt w A (lv.getD k []) := by
  obtain ⟨_, ss, h1, h2, h3⟩ := h
  obtain ⟨A, c, hs, hc, _⟩ := cellsAt_of_own (h3 k hk) rfl
  rcases h2.2 with ⟨rfl, h⟩ | ⟨g, cap, cur, rfl, _, _⟩
  · omega
  · refine ⟨g, cap, A, c, rfl, ?_, hc⟩
    have hcell := h2.cells (g := g) rfl k (.iface 26 (ss.getD k (.slice none 0 0))) (by simp [List.getD, h1 ▸ hk])
    have ha : (⟨g, 0, none⟩ : Addr).add k = ⟨g, k, none⟩ := by unfold Addr.add; split <;> simp_all
    rw [ha, hs] at hcell
    exact hcell
theorem level_any (p : Nat) (v : Value) (lv : List (List At)) (k : Nat) (hk : k < lv.length) (w : World) (h : IsScope w p v lv) :
    Calls Try.prog 28 #[.pointer (some ⟨p, 0, none⟩), .int .i64 (k : Int)] w fun e w' => ∃ A c, e = .returned (.slice A (lv.getD k []).length c) ∧ CellsAt w A (lv.getD k []) ∧ w = w' := by
  have c0 : w.cell? ⟨p, 0, none⟩ = some v := cell_of h.cells 0
  obtain ⟨g, cap, A, c, rfl, hc, hC⟩ := h.level hk
  have hass := assert_attrs (.slice A (lv.getD k []).length c)
  have HC := Lib.hid hC
  generalize lv.getD k [] = l at hc hass HC ⊢
  generalize lv.length = n at c0 hk
  clear h hC
  go_enter Try.func28, Try.ntmps28
  go_wp2
  go_ret
  exact ⟨_, _, rfl, HC.out, rfl⟩
/-! ### URI -/
def find1 (l : List At) (p : ByteArray) : Option ByteArray := (l.find? fun a => (declR a).1.toList == p.toList).map (·.vl)
def up (lv : List (List At)) (p : ByteArray) : Option ByteArray := lv.foldl (fun acc l => (find1 l p).or acc) none
theorem up_snoc (lv : List (List At)) (l : List At) (p : ByteArray) : up (lv ++ [l]) p = (find1 l p).or (up lv p) := by simp [up]
def uriR (lv : List (List At)) (p : ByteArray) : ByteArray × Bool := match up lv p with
  | some v => (v, true)
  | none => if (p.toList == xmlL) = true then (⟨xmlUL.toArray⟩, true) else (⟨#[]⟩, p.toList == [])
theorem uri_nil (p : ByteArray) (w : World) : Calls Try.prog 13 #[.pointer none, .string p] w fun e w' => e = .returned (.tuple #[.string ⟨#[]⟩, .bool false]) ∧ w = w' := by
  go_enter Try.func13, Try.ntmps13
  go_wp2
  go_ret2
  exact ⟨rfl, rfl⟩
set_option maxRecDepth 100000 in
set_option maxHeartbeats 2000000 in
theorem uri_any (p : Nat) (v : Value) (lv : List (List At)) (pre : ByteArray) (w : World) (h : IsScope w p v lv) (hl : lv.length ≤ 4611686018427387904) (hll : ∀ l ∈ lv, l.length ≤ 4611686018427387904) :
    Calls Try.prog 13 #[.pointer (some ⟨p, 0, none⟩), .string pre] w fun e w' => e = .returned (.tuple #[.string (uriR lv pre).1, .bool (uriR lv pre).2]) ∧ Below w.heap.size w w' := by
  obtain ⟨R, hR⟩ : ∃ R, uriR lv pre = R := ⟨_, rfl⟩
  rw [hR]
  have HR := Lib.hid hR
  clear hR
  have c0 : w.cell? ⟨p, 0, none⟩ = some v := cell_of h.cells 0
  obtain ⟨A, cap, hv⟩ := h.shape
  rw [hv] at c0
  obtain ⟨n, hn⟩ : ∃ n, lv.length = n := ⟨_, rfl⟩
  rw [hn] at c0 hl
  have HN := Lib.hid hn
  clear hn
  have HS := Lib.hid h
  have HV := Lib.hid hv
  clear h hv
  go_enter Try.func13, Try.ntmps13
  go_wp2_with fail
  go_loopw [6] (fun x wr => ∃ k : Nat, k ≤ n ∧ x = .int .i64 ((k : Int) - 1) ∧ Hid (up lv pre = up (lv.take k) pre) ∧ Below w.heap.size w wr) (fun x _ => (intOf x + 1).toNat)
  case atStart => exact ⟨n, Nat.le_refl _, by go_num, (by show up lv pre = up (lv.take n) pre; rw [← HN.out, List.take_length]), Below.refl _ _⟩
  case round =>
    obtain ⟨k, hk, rfl, hU, hB⟩ := hrel
    by_cases hk0 : k = 0
    · subst hk0
      have hup : Hid (up lv pre = none) := by show up lv pre = none; rw [hU.out]; simp [up]
      clear hU c0
      cases h1 : (pre.toList == xmlL) with
      | true =>
        have HF : Hid (R = (⟨xmlUL.toArray⟩, true)) := by show R = _; rw [← HR.out]; unfold uriR; rw [hup.out]; simp only [h1, if_true]
        go_wp2_with fail
        go_ret2
        refine ⟨?_, hB⟩
        rw [HF.out]
        rfl
      | false =>
        have HF : Hid (R = (⟨#[]⟩, pre.toList == [])) := by show R = _; rw [← HR.out]; unfold uriR; rw [hup.out]; simp only [h1, Bool.false_eq_true, if_false]
        cases h2 : (pre.toList == [])
        all_goals
          have h2' := isE h2
          rw [h2] at HF
          go_wp2_with fail
          go_ret2
          refine ⟨?_, hB⟩
          rw [HF.out]
          rfl
    · obtain ⟨q, rfl⟩ : ∃ q, k = q + 1 := ⟨k - 1, by omega⟩
      have hq : q < lv.length := by rw [HN.out]; omega
      obtain ⟨l, hlq⟩ : ∃ l, lv.getD q [] = l := ⟨_, rfl⟩
      have htk : lv.take (q + 1) = lv.take q ++ [l] := by rw [List.take_succ_eq_append_getElem hq, ← hlq]; simp [List.getD, hq]
      have hup : Hid (up lv pre = (find1 l pre).or (up (lv.take q) pre)) := by show up lv pre = _; rw [hU.out, htk, up_snoc]
      have hlm : l.length ≤ 4611686018427387904 := hll l (by rw [← hlq]; simp [List.getD, hq])
      have HL := level_any p v lv q hq wr (HS.out.below hB)
      rw [hlq] at HL
      have hIw := Lib.hid (HS.out.below hB)
      have e1 : (((q + 1 : Nat) : Int) - 1) = (q : Int) := by omega
      rw [e1]
      clear hU htk hlq e1 c0 hll
      go_wp2_with fail
      refine HL.mono ?_
      clear HL
      rintro e w1 ⟨A', c', rfl, hC, rfl⟩
      obtain ⟨nl, hnl⟩ : ∃ nl, l.length = nl := ⟨_, rfl⟩
      rw [hnl] at hlm ⊢
      have HNL := Lib.hid hnl
      clear hnl
      go_wp2_with fail
      obtain ⟨wo, rfl⟩ : ∃ wo : World, wo = wr := ⟨_, rfl⟩
      go_loopw [27] (fun x wz => ∃ j : Nat, j ≤ nl ∧ x = .int .i64 j ∧ Hid ((l.take j).find? (fun a => (declR a).1.toList == pre.toList) = none) ∧ Below wo.heap.size wo wz) (fun x _ => nl - (intOf x).toNat)
      case atStart => exact ⟨0, by omega, rfl, (by simp : (l.take 0).find? _ = none), Below.refl _ _⟩
      case round =>
        obtain ⟨j, hj, rfl, hF, hB2⟩ := hrel
        by_cases hlt : j < nl
        · have hjl : j < l.length := by rw [HNL.out]; exact hlt
          obtain ⟨a, ha⟩ : ∃ a, l.getD j zA = a := ⟨_, rfl⟩
          obtain ⟨g, o, rfl, hgl, e0, e1, e2, e3⟩ := hC j hjl
          rw [ha] at e0 e1 e2 e3
          have htk : l.take (j + 1) = l.take j ++ [a] := by rw [List.take_succ_eq_append_getElem hjl, ← ha]; simp [List.getD, hjl]
          have HT := Lib.hid htk
          have f0 := (hB2.cell (p := ⟨g, o + j * 4, none⟩) hgl).trans e0
          have f1 := (hB2.cell (p := ⟨g, o + j * 4 + 1, none⟩) hgl).trans e1
          have f2 := (hB2.cell (p := ⟨g, o + j * 4 + 2, none⟩) hgl).trans e2
          have f3 := (hB2.cell (p := ⟨g, o + j * 4 + 3, none⟩) hgl).trans e3
          have hgz : g < wr.heap.size := Nat.lt_of_lt_of_le hgl hB2.size
          have HD := fun W => declares_any a W
          clear htk ha e0 e1 e2 e3 hC
          cases hd : ((declR a).1.toList == pre.toList) with
          | true =>
            have hfin : Hid (R = (a.vl, true)) := by
              show R = _
              rw [← HR.out]
              unfold uriR
              rw [hup.out]
              have : find1 l pre = some a.vl := by
                unfold find1
                rw [← List.take_append_drop (j + 1) l, HT.out, List.find?_append, List.find?_append, hF.out]
                simp [hd]
              rw [this]
              rfl
            generalize declR a = D at HD hd
            obtain ⟨d1, d2⟩ := D
            simp only at HD hd
            go_wp2_with fail
            refine (HD _).mono ?_
            clear HD
            rintro e w2 ⟨rfl, hb2⟩
            obtain ⟨hcc, hff⟩ := bcell hb2
            have hz := hb2.size
            have hbx : w2.cell? ⟨wr.heap.size, 3, none⟩ = some (.string a.vl) := (hb2.cell (p := ⟨wr.heap.size, 3, none⟩) (by simp)).trans (cell_of (heap_alloc_new _ _) 3)
            have hbz : wr.heap.size < w2.heap.size := by simp at hz; omega
            clear hcc hff
            go_wp2_with fail
            go_ret2
            refine ⟨?_, hB.trans ((hB2.alloc hB2.size _).trans (hb2.mono (by simp; have := hB2.size; omega)) |>.mono hB.size)⟩
            rw [hfin.out]
            rfl
          | false =>
            have hF2 : Hid ((l.take (j + 1)).find? (fun a => (declR a).1.toList == pre.toList) = none) := by
              show (l.take (j + 1)).find? _ = none
              rw [HT.out, List.find?_append, hF.out]
              simp [hd]
            generalize declR a = D at HD hd
            obtain ⟨d1, d2⟩ := D
            simp only at HD hd
            go_wp2_with fail
            refine (HD _).mono ?_
            clear HD
            rintro e w2 ⟨rfl, hb2⟩
            go_wp2_with fail
            go_roundw
            case rel => exact ⟨j + 1, by omega, by go_num, hF2, (hB2.alloc hB2.size _).trans (hb2.mono (by simp; have := hB2.size; omega))⟩
            case measure => simp [intOf]; omega
        · obtain rfl : j = nl := by omega
          have hU2 : Hid (up lv pre = up (lv.take q) pre) := by
            show up lv pre = _
            rw [hup.out]
            have : find1 l pre = none := by
              unfold find1
              have := hF.out
              rw [← HNL.out, List.take_length] at this
              rw [this]; rfl
            rw [this]; rfl
          clear hC hF hup
          go_wp2_with fail
          go_roundw
          case rel => exact ⟨q, by omega, by go_num, hU2, hB.trans (hB2.mono hB.size)⟩
          case measure => first | (simp [intOf]; done) | (simp [intOf]; omega)
end Go.Proofs.Ytfohbgcpdpnndaa.Sc
