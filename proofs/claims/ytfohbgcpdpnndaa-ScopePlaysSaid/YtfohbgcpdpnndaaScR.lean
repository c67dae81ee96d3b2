/- The document's answer: levels of declarations (ScopePlays): URI, Pop. -/
import Derived.Test.YtfohbgcpdpnndaaScAll
namespace Go.Proofs.Ytfohbgcpdpnndaa.Sc
open Go.RowKit Go.Proofs.Ytfohbgcpdpnndaa.Ow Go.Sort
set_option linter.unusedVariables false
/-- Block p is the document's Scope: its levels lie in v. -/
structure IsRef (w : World) (p : Nat) (v : Value) (lv : List (List At)) : Prop where
  cells : w.heap[p]? = some (.cells #[v] 43 (0, 0))
  lev : ∃ ss : List Value, ss.length = lv.length ∧ w.ownsRow 0 26 1 v lv.length ss ∧
    ∀ i, i < lv.length → w.ownsRow 0 35 4 (ss.getD i (.slice none 0 0)) (lv.getD i []).length (cellsA (lv.getD i []))
theorem IsRef.lt {w : World} {p : Nat} {v : Value} {lv : List (List At)} (h : IsRef w p v lv) : p < w.heap.size := (Array.getElem?_eq_some_iff.1 h.cells).1
theorem IsRef.below {w w' : World} {p : Nat} {v : Value} {lv : List (List At)} (h : IsRef w p v lv) (hb : Below w.heap.size w w') : IsRef w' p v lv := by
  obtain ⟨hc, ss, h1, h2, h3⟩ := h
  exact ⟨(hb.block p (Array.getElem?_eq_some_iff.1 hc).1).trans hc, ss, h1, own_kept_below h2 hb, fun i hi => own_kept_below (h3 i hi) hb⟩
theorem IsRef.shape {w : World} {p : Nat} {v : Value} {lv : List (List At)} (h : IsRef w p v lv) : ∃ A cap, v = .slice A lv.length cap := by
  obtain ⟨_, ss, h1, h2, _⟩ := h
  rcases h2.2 with ⟨rfl, h⟩ | ⟨g, cap, _, rfl, _⟩
  · exact ⟨none, 0, by rw [h]⟩
  · exact ⟨_, _, rfl⟩
theorem IsRef.level {w : World} {p : Nat} {v : Value} {lv : List (List At)} (h : IsRef w p v lv) {k : Nat} (hk : k < lv.length) :
    ∃ g cap A c, v = .slice (some ⟨g, 0, none⟩) lv.length cap ∧ w.cell? ⟨g, k, none⟩ = some (.slice A (lv.getD k []).length c) ∧ CellsAt w A (lv.getD k []) := by
  obtain ⟨_, ss, h1, h2, h3⟩ := h
  have hown := h3 k hk
  obtain ⟨A, c, hs, hC, -⟩ := cellsAt_of_own hown rfl
  rcases h2.2 with ⟨rfl, h0⟩ | ⟨g, cap, cur, rfl, _, hg, _⟩
  · omega
  · have hc := h2.cells (g := g) rfl k (ss.getD k (.slice none 0 0)) (by simp [List.getD, h1, hk])
    have ha : (⟨g, 0, none⟩ : Addr).add k = ⟨g, k, none⟩ := by unfold Addr.add; split <;> simp_all
    rw [ha, hs] at hc
    exact ⟨g, cap, A, c, rfl, hc, hC⟩
def ruriR (lv : List (List At)) (p : ByteArray) : ByteArray × Bool := if (p.toList == xmlL) = true then (⟨xmlUL.toArray⟩, true) else match up lv p with
  | some v => (v, true)
  | none => (⟨#[]⟩, p.toList == [])
set_option maxRecDepth 100000 in
set_option maxHeartbeats 2000000 in
theorem ruri_any (p : Nat) (v : Value) (lv : List (List At)) (pre : ByteArray) (w : World) (h : IsRef w p v lv) (hl : lv.length ≤ 4611686018427387904) (hll : ∀ l ∈ lv, l.length ≤ 4611686018427387904) :
    Calls Try.prog 19 #[.pointer (some ⟨p, 0, none⟩), .string pre] w fun e w' => e = .returned (.tuple #[.string (ruriR lv pre).1, .bool (ruriR lv pre).2]) ∧ Below w.heap.size w w' := by
  obtain ⟨R, hR⟩ : ∃ R, ruriR lv pre = R := ⟨_, rfl⟩
  rw [hR]
  have HR := Lib.hid hR
  clear hR
  have c0 : w.cell? ⟨p, 0, none⟩ = some v := cell_of h.cells 0
  obtain ⟨A, cap, hv⟩ := h.shape
  obtain ⟨n, hn⟩ : ∃ n, lv.length = n := ⟨_, rfl⟩
  rw [hn] at hl hv
  have HN := Lib.hid hn
  clear hn
  have hpl := h.lt
  have HS := Lib.hid h
  subst hv
  clear h
  cases hx : (pre.toList == xmlL) with
  | true =>
    have HF : Hid (R = (⟨xmlUL.toArray⟩, true)) := by show R = _; rw [← HR.out]; unfold ruriR; rw [if_pos hx]
    go_enter Try.func19, Try.ntmps19
    go_wp2_with fail
    go_ret2
    rw [HF.out]
    exact ⟨rfl, Below.refl _ _⟩
  | false =>
    have HRR : Hid (ruriR lv pre = (match up lv pre with | some v => (v, true) | none => (⟨#[]⟩, pre.toList == []))) := by show _ = _; unfold ruriR; rw [if_neg (by rw [hx]; decide)]
    go_enter Try.func19, Try.ntmps19
    go_wp2_with fail
    go_loopw [6] (fun x wr => ∃ (k : Nat) (z : Int), k ≤ n ∧ z = (k : Int) - 1 ∧ x = .int .i64 z ∧ Hid (up lv pre = up (lv.take k) pre) ∧ Below w.heap.size w wr) (fun x _ => (intOf x + 1).toNat)
    case atStart => exact ⟨n, _, Nat.le_refl _, rfl, by go_num, (by show up lv pre = up (lv.take n) pre; rw [← HN.out, List.take_length]), Below.refl _ _⟩
    case round =>
      obtain ⟨k, z, hk, hz, rfl, hU, hB⟩ := hrel
      cases k with
      | zero =>
        obtain rfl : z = -1 := by omega
        have hup : up lv pre = none := by rw [hU.out]; simp [up]
        have HF : Hid (R = (⟨#[]⟩, pre.toList == [])) := by show R = _; rw [← HR.out, HRR.out, hup]
        clear hU c0 hup hz
        cases h2 : (pre.toList == [])
        all_goals
          have h2' := isE h2
          rw [h2] at HF
          go_wp2_with fail
          go_ret2
          refine ⟨?_, hB⟩
          rw [HF.out]
          rfl
      | succ q =>
        obtain rfl : z = (q : Int) := by omega
        clear hz
        have hq : q < lv.length := by rw [HN.out]; omega
        obtain ⟨l, hlq⟩ : ∃ l, lv.getD q [] = l := ⟨_, rfl⟩
        have htk : lv.take (q + 1) = lv.take q ++ [l] := by rw [List.take_succ_eq_append_getElem hq, ← hlq]; simp [List.getD, hq]
        have hup : Hid (up lv pre = (find1 l pre).or (up (lv.take q) pre)) := by show up lv pre = _; rw [hU.out, htk, up_snoc]
        have hlm : l.length ≤ 4611686018427387904 := hll l (by rw [← hlq]; simp [List.getD, hq])
        obtain ⟨g, cap', A', c', hv, hcl, hC⟩ := HS.out.level hq
        rw [hlq] at hcl hC
        have hgl := World.block_lt_of_cell? w _ hcl
        obtain ⟨rfl, -, rfl⟩ : A = some ⟨g, 0, none⟩ ∧ n = lv.length ∧ cap = cap' := by simpa using hv
        obtain ⟨nl, hnl⟩ : ∃ nl, l.length = nl := ⟨_, rfl⟩
        rw [hnl] at hlm hcl
        have HNL := Lib.hid hnl
        have hqn : (q : Int) < (n : Int) := by omega
        clear hnl hv hU htk hlq hll
        have HC0 := Lib.hid c0
        have HCL := Lib.hid hcl
        clear c0 hcl
        go_wp2_with fail
        obtain ⟨wo, rfl⟩ : ∃ wo : World, wo = wr := ⟨_, rfl⟩
        go_loopw [7] (fun x wz => ∃ j : Nat, j ≤ nl ∧ x = .int .i64 j ∧ Hid ((l.take j).find? (fun a => (declR a).1.toList == pre.toList) = none) ∧ Below w.heap.size w wz) (fun x _ => nl - (intOf x).toNat)
        case atStart => exact ⟨0, by omega, rfl, (by simp : (l.take 0).find? _ = none), hB⟩
        case round =>
          obtain ⟨j, hj, rfl, hF, hB2⟩ := hrel
          have f4 := (hB2.cell (p := ⟨p, 0, none⟩) hpl).trans HC0.out
          have f5 := (hB2.cell (p := ⟨g, q, none⟩) hgl).trans HCL.out
          have hpz : p < wr.heap.size := Nat.lt_of_lt_of_le hpl hB2.size
          have hgz : g < wr.heap.size := Nat.lt_of_lt_of_le hgl hB2.size
          by_cases hlt : j < nl
          · have hjl : j < l.length := by rw [HNL.out]; exact hlt
            obtain ⟨a, ha⟩ : ∃ a, l.getD j zA = a := ⟨_, rfl⟩
            obtain ⟨g2, o, rfl, hgl2, e0, e1, e2, e3⟩ := hC j hjl
            rw [ha] at e0 e1 e2 e3
            have htk : l.take (j + 1) = l.take j ++ [a] := by rw [List.take_succ_eq_append_getElem hjl, ← ha]; simp [List.getD, hjl]
            have HT := Lib.hid htk
            have f0 := (hB2.cell (p := ⟨g2, o + j * 4, none⟩) hgl2).trans e0
            have f1 := (hB2.cell (p := ⟨g2, o + j * 4 + 1, none⟩) hgl2).trans e1
            have f2 := (hB2.cell (p := ⟨g2, o + j * 4 + 2, none⟩) hgl2).trans e2
            have f3 := (hB2.cell (p := ⟨g2, o + j * 4 + 3, none⟩) hgl2).trans e3
            have hgz2 : g2 < wr.heap.size := Nat.lt_of_lt_of_le hgl2 hB2.size
            have HD := declares_ref a wr
            have F3 := Lib.hid f3
            have F4 := Lib.hid f4
            have F5 := Lib.hid f5
            clear htk ha e0 e1 e2 e3 hC
            cases hd : ((declR a).1.toList == pre.toList) with
            | true =>
              have hfin : Hid (R = (a.vl, true)) := by
                show R = _
                rw [← HR.out, HRR.out, hup.out]
                have : find1 l pre = some a.vl := by
                  unfold find1
                  rw [← List.take_append_drop (j + 1) l, HT.out, List.find?_append, List.find?_append, hF.out]
                  simp [hd]
                rw [this]
                rfl
              generalize declR a = D at HD hd
              obtain ⟨d1, d2⟩ := D
              simp only at HD hd
              go_wp2_with fail
              refine HD.mono ?_
              clear HD f0 f1 f2 f3 f4 f5
              rintro e w2 ⟨rfl, hb2⟩
              have f4 := (hb2.cell (p := ⟨p, 0, none⟩) hpz).trans F4.out
              have f5 := (hb2.cell (p := ⟨g, q, none⟩) hgz).trans F5.out
              have f3 := (hb2.cell (p := ⟨g2, o + j * 4 + 3, none⟩) hgz2).trans F3.out
              have y1 : p < w2.heap.size := Nat.lt_of_lt_of_le hpz hb2.size
              have y2 : g < w2.heap.size := Nat.lt_of_lt_of_le hgz hb2.size
              have y3 : g2 < w2.heap.size := Nat.lt_of_lt_of_le hgz2 hb2.size
              have hBB := hB2.trans (hb2.mono hB2.size)
              go_wp2_with fail
              go_ret2
              refine ⟨?_, hBB⟩
              rw [hfin.out]
              rfl
            | false =>
              have hF2 : Hid ((l.take (j + 1)).find? (fun a => (declR a).1.toList == pre.toList) = none) := by
                show (l.take (j + 1)).find? _ = none
                rw [HT.out, List.find?_append, hF.out]
                simp [hd]
              generalize declR a = D at HD hd
              obtain ⟨d1, d2⟩ := D
              simp only at HD hd
              go_wp2_with fail
              refine HD.mono ?_
              clear HD
              rintro e w2 ⟨rfl, hb2⟩
              go_wp2_with fail
              go_roundw
              case rel => exact ⟨j + 1, by omega, by go_num, hF2, hB2.trans (hb2.mono hB2.size)⟩
              case measure => simp [intOf]; omega
          · obtain rfl : j = nl := by omega
            have hU2 : Hid (up lv pre = up (lv.take q) pre) := by
              show up lv pre = _
              rw [hup.out]
              have : find1 l pre = none := by
                unfold find1
                have := hF.out
                rw [← HNL.out, List.take_length] at this
                rw [this]; rfl
              rw [this]; rfl
            clear hC hF hup
            go_wp2_with fail
            go_roundw
            case rel => exact ⟨q, (q : Int) - 1, by omega, rfl, by go_num, hU2, hB2⟩
            case measure => first | (simp [intOf]; done) | (simp [intOf]; omega)
end Go.Proofs.Ytfohbgcpdpnndaa.Sc
