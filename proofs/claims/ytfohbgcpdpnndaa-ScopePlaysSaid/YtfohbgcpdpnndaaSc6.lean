/- The contracts of the package of namespaces: Prefix; and the steps over a state that a law holds. -/
import Derived.Test.YtfohbgcpdpnndaaSc5
namespace Go.Proofs.Ytfohbgcpdpnndaa.Sc
open Go.RowKit Go.Proofs.Ytfohbgcpdpnndaa.Ow
set_option linter.unusedVariables false

def prefixR (lv : List (List At)) (u : ByteArray) : ByteArray × Bool :=
  if (u.toList == []) = true then (⟨#[]⟩, false) else match (allR lv).find? (fun a => (a.pf.toList == xmlnsL) && (a.vl.toList == u.toList)) with
  | some a => (a.lc, true)
  | none => (⟨#[]⟩, false)
theorem allR_len (lv : List (List At)) : (allR lv).length ≤ countL lv + 1 := by
  refine Nat.le_trans (one_len lv _) (Nat.le_trans (compact_len _) ?_)
  unfold sortedN; rw [List.length_mergeSort, List.length_map, names_len]; exact Nat.le_refl _
set_option maxRecDepth 100000 in
set_option maxHeartbeats 2000000 in
theorem prefix_any (p : Nat) (v : Value) (lv : List (List At)) (u : ByteArray) (w : World) (h : IsScope w p v lv) (hl : lv.length ≤ 1000000) (hc : countL lv ≤ 1000000) :
    Calls Try.prog 14 #[.pointer (some ⟨p, 0, none⟩), .string u] w fun e w' => e = .returned (.tuple #[.string (prefixR lv u).1, .bool (prefixR lv u).2]) ∧ Below w.heap.size w w' := by
  cases h1 : (u.toList == []) with
  | true =>
    have h1' := isE h1
    have e : prefixR lv u = (⟨#[]⟩, false) := by unfold prefixR; rw [if_pos h1]
    rw [e]
    go_enter Try.func14, Try.ntmps14
    go_wp2_with fail
    go_ret2
    exact ⟨rfl, Below.refl _ _⟩
  | false =>
    have h1' := isE h1
    have e : Hid (prefixR lv u = match (allR lv).find? (fun a => (a.pf.toList == xmlnsL) && (a.vl.toList == u.toList)) with
      | some a => (a.lc, true)
      | none => (⟨#[]⟩, false)) := by show _ = _; unfold prefixR; rw [if_neg (by rw [h1]; decide)]
    obtain ⟨R, hR⟩ : ∃ R, prefixR lv u = R := ⟨_, rfl⟩
    rw [hR]
    rw [hR] at e
    have HA := all_any p v lv w h hl hc
    have hlen := allR_len lv
    generalize allR lv = L at e HA hlen
    clear hR h
    go_enter Try.func14, Try.ntmps14
    go_wp2_with fail
    refine HA.mono ?_
    clear HA
    rintro e1 w1 ⟨s, rfl, hown, hB⟩
    obtain ⟨A, cap, rfl, hC, _⟩ := cellsAt_of_own hown rfl
    clear hown
    obtain ⟨n, hn⟩ : ∃ n, L.length = n := ⟨_, rfl⟩
    rw [hn] at hlen ⊢
    have HN := Lib.hid hn
    clear hn
    go_wp2_with fail
    go_loopw [13] (fun x wz => ∃ j : Nat, j ≤ n ∧ x = .int .i64 j ∧ Hid ((L.take j).find? (fun a => (a.pf.toList == xmlnsL) && (a.vl.toList == u.toList)) = none) ∧ Below w1.heap.size w1 wz) (fun x _ => n - (intOf x).toNat)
    case atStart => exact ⟨0, by omega, rfl, (by simp : (L.take 0).find? _ = none), Below.refl _ _⟩
    case round =>
      obtain ⟨j, hj, rfl, hF, hB2⟩ := hrel
      by_cases hlt : j < n
      · have hjl : j < L.length := by rw [HN.out]; exact hlt
        obtain ⟨a, ha⟩ : ∃ a, L.getD j zA = a := ⟨_, rfl⟩
        obtain ⟨g, o, rfl, hgl, e0, e1, e2, e3⟩ := hC j hjl
        rw [ha] at e0 e1 e2 e3
        have htk : L.take (j + 1) = L.take j ++ [a] := by rw [List.take_succ_eq_append_getElem hjl, ← ha]; simp [List.getD, hjl]
        have HT := Lib.hid htk
        have f0 := (hB2.cell (p := ⟨g, o + j * 4, none⟩) hgl).trans e0
        have f1 := (hB2.cell (p := ⟨g, o + j * 4 + 1, none⟩) hgl).trans e1
        have f2 := (hB2.cell (p := ⟨g, o + j * 4 + 2, none⟩) hgl).trans e2
        have f3 := (hB2.cell (p := ⟨g, o + j * 4 + 3, none⟩) hgl).trans e3
        have hgz : g < wr.heap.size := Nat.lt_of_lt_of_le hgl hB2.size
        clear htk ha e0 e1 e2 e3 hC
        have hfound : ((a.pf.toList == xmlnsL) && (a.vl.toList == u.toList)) = true → Hid (R = (a.lc, true)) := by
          intro hh
          show R = _
          rw [e.out, ← List.take_append_drop (j + 1) L, HT.out, List.find?_append, List.find?_append, hF.out]
          simp only [List.find?_cons, hh]
          rfl
        have hnot : ((a.pf.toList == xmlnsL) && (a.vl.toList == u.toList)) = false → Hid ((L.take (j + 1)).find? (fun a => (a.pf.toList == xmlnsL) && (a.vl.toList == u.toList)) = none) := by
          intro hh
          show _ = _
          rw [HT.out, List.find?_append, hF.out]
          simp only [List.find?_cons, hh]
          rfl
        cases h2 : (a.pf.toList == xmlnsL) with
        | false =>
          have hN := hnot (by rw [h2]; rfl)
          clear hfound hnot
          go_wp2_with fail
          go_roundw
          case rel => exact ⟨j + 1, by omega, by go_num, hN, hB2.alloc hB2.size _⟩
          case measure => simp [intOf]; omega
        | true =>
          cases h3 : (a.vl.toList == u.toList) with
          | false =>
            have hN := hnot (by rw [h2, h3]; rfl)
            clear hfound hnot
            go_wp2_with fail
            go_roundw
            case rel => exact ⟨j + 1, by omega, by go_num, hN, hB2.alloc hB2.size _⟩
            case measure => simp [intOf]; omega
          | true =>
            have hY := hfound (by rw [h2, h3]; rfl)
            clear hfound hnot
            go_wp2_with fail
            go_ret2
            refine ⟨?_, hB.trans ((hB2.alloc hB2.size _).mono hB.size)⟩
            rw [hY.out]
            rfl
      · obtain rfl : j = n := by omega
        have hY : Hid (R = (⟨#[]⟩, false)) := by
          show R = _
          have := hF.out
          rw [← HN.out, List.take_length] at this
          rw [e.out, this]
        clear hC
        go_wp2_with fail
        go_ret2
        refine ⟨?_, hB.trans (hB2.mono hB.size)⟩
        rw [hY.out]
        rfl
end Go.Proofs.Ytfohbgcpdpnndaa.Sc
