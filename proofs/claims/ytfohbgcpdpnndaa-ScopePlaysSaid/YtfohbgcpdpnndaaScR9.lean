/- The document's Scope: Prefix; its steps over a state that a law holds. -/
import Derived.Test.YtfohbgcpdpnndaaScR8
namespace Go.Proofs.Ytfohbgcpdpnndaa.Sc
open Go.RowKit Go.Proofs.Ytfohbgcpdpnndaa.Ow Go.Sort
set_option linter.unusedVariables false
theorem RS.bound {w0 w : World} {p : Nat} {lv : List (List At)} (h : RS w0 w p lv) (hI : Inv2 lv) (hlv : lv.length ≤ 1000) (hc : countL lv ≤ 100000) (L : List At) (hr : allU lv = L) :
    Calls Try.prog 23 #[.pointer (some ⟨p, 0, none⟩)] w fun e w' => ∃ A cap, e = .returned (.slice A L.length cap) ∧ w'.ownsRow w.heap.size 35 4 (.slice A L.length cap) L.length (cellsA L) ∧ Below w.heap.size w w' := by
  obtain ⟨v, h1, h2, h3, h4⟩ := h
  rw [← rall_eq hI] at hr
  subst hr
  refine (bound_any p v lv w h1 hlv hc).mono ?_
  rintro e w' ⟨s, rfl, hown, hB⟩
  obtain ⟨A, cap, rfl, hC, _⟩ := cellsAt_of_own hown rfl
  exact ⟨A, cap, rfl, hown, hB⟩
set_option maxRecDepth 100000 in
set_option maxHeartbeats 4000000 in
theorem RS.prefixes {w0 w : World} {p : Nat} {lv : List (List At)} (h : RS w0 w p lv) (hI : Inv2 lv) (u : ByteArray) (hlv : lv.length ≤ 1000) (hc : countL lv ≤ 100000) (a : ByteArray) (b : Bool) (hr : prefixU lv u = (a, b)) :
    Calls Try.prog 20 #[.pointer (some ⟨p, 0, none⟩), .string u] w fun e w' => e = .returned (.tuple #[.string a, .bool b]) ∧ Below w.heap.size w w' := by
  rw [← rprefix_eq] at hr
  have HA := h.bound hI hlv hc _ rfl
  have hlen := allU_len lv
  generalize allU lv = L at HA hlen hr
  have e : Hid ((match L.find? (rfind u) with | some a => (a.lc, true) | none => (⟨#[]⟩, false)) = (a, b)) := hr
  clear hr h
  go_enter Try.func20, Try.ntmps20
  go_wp2_with fail
  refine HA.mono ?_
  clear HA
  rintro e1 w1 ⟨A, cap, rfl, hown, hB⟩
  obtain ⟨A', cap', hA', hC, -⟩ := cellsAt_of_own hown rfl
  cases hA'
  clear hown
  obtain ⟨n, hn⟩ : ∃ n, L.length = n := ⟨_, rfl⟩
  rw [hn] at hlen ⊢
  have HN := Lib.hid hn
  clear hn
  go_wp2_with fail
  go_loopw [7] (fun x wz => ∃ j : Nat, j ≤ n ∧ x = .int .i64 j ∧ Hid ((L.take j).find? (rfind u) = none) ∧ Below w1.heap.size w1 wz) (fun x _ => n - (intOf x).toNat)
  case atStart => exact ⟨0, by omega, rfl, (by simp : (L.take 0).find? _ = none), Below.refl _ _⟩
  case round =>
    obtain ⟨j, hj, rfl, hF, hB2⟩ := hrel
    by_cases hlt : j < n
    · have hjl : j < L.length := by rw [HN.out]; exact hlt
      obtain ⟨x, hx⟩ : ∃ x, L.getD j zA = x := ⟨_, rfl⟩
      obtain ⟨g, o, rfl, hgl, e0, e1, e2, e3⟩ := hC j hjl
      rw [hx] at e0 e1 e2 e3
      have htk : L.take (j + 1) = L.take j ++ [x] := by rw [List.take_succ_eq_append_getElem hjl, ← hx]; simp [List.getD, hjl]
      have HT := Lib.hid htk
      have f0 := (hB2.cell (p := ⟨g, o + j * 4, none⟩) hgl).trans e0
      have f1 := (hB2.cell (p := ⟨g, o + j * 4 + 1, none⟩) hgl).trans e1
      have f3 := (hB2.cell (p := ⟨g, o + j * 4 + 3, none⟩) hgl).trans e3
      have hgz : g < wr.heap.size := Nat.lt_of_lt_of_le hgl hB2.size
      clear htk hx e0 e1 e2 e3 hC
      have hfound : rfind u x = true → Hid (a = x.lc ∧ b = true) := by
        intro hh
        have := e.out
        rw [← List.take_append_drop (j + 1) L, HT.out, List.find?_append, List.find?_append, hF.out] at this
        simp only [List.find?_cons, hh] at this
        have h2 : (x.lc, true) = (a, b) := this
        simp only [Prod.mk.injEq] at h2
        exact ⟨h2.1.symm, h2.2.symm⟩
      have hnot : rfind u x = false → Hid ((L.take (j + 1)).find? (rfind u) = none) := by
        intro hh
        show _ = _
        rw [HT.out, List.find?_append, hF.out]
        simp only [List.find?_cons, hh]
        rfl
      have hrf : rfind u x = (!(x.pf.toList == []) && ((x.vl.toList == u.toList) && !(u.toList == []))) := rfl
      have HRF := Lib.hid hrf
      clear hrf
      cases h2 : (x.pf.toList == []) <;> cases h3 : (x.vl.toList == u.toList) <;> cases h4 : (u.toList == [])
      case false.true.false =>
        have h2' := isE h2
        have h4' := isE h4
        have hY := hfound (by rw [HRF.out, h2, h3, h4]; rfl)
        clear hfound hnot HRF
        go_wp2_with fail
        go_ret2
        obtain ⟨rfl, rfl⟩ := hY.out
        exact ⟨rfl, hB.trans ((hB2).mono hB.size)⟩
      all_goals
        have h2' := isE h2
        have h4' := isE h4
        have hY := hnot (by rw [HRF.out, h2, h3, h4]; rfl)
        clear hfound hnot HRF
        go_wp2_with fail
        go_roundw
        case rel => exact ⟨j + 1, by omega, by go_num, hY, hB2⟩
        case measure => simp [intOf]; omega
    · obtain rfl : j = n := by omega
      have hY : Hid (a = ⟨#[]⟩ ∧ b = false) := by
        have h1 := hF.out
        rw [← HN.out, List.take_length] at h1
        have h2 := e.out
        rw [h1] at h2
        have h3 : ((⟨#[]⟩ : ByteArray), false) = (a, b) := h2
        simp only [Prod.mk.injEq] at h3
        exact ⟨h3.1.symm, h3.2.symm⟩
      clear hC
      go_wp2_with fail
      go_ret2
      obtain ⟨rfl, rfl⟩ := hY.out
      exact ⟨rfl, hB.trans (hB2.mono hB.size)⟩
end Go.Proofs.Ytfohbgcpdpnndaa.Sc
