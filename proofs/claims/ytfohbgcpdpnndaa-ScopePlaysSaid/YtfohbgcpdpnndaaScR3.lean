/- The document's Scope: Push. -/
import Derived.Test.YtfohbgcpdpnndaaScR2
import Derived.Deep.CutRange
import Derived.Laws.AppendOwnNone
namespace Go.Proofs.Ytfohbgcpdpnndaa.Sc
open Go.RowKit Go.Proofs.Ytfohbgcpdpnndaa.Ow Go.Sort
set_option linter.unusedVariables false
def RPushPost (p : Nat) (v : Value) (lv : List (List At)) (R : Option (List At)) (w : World) (e : Ending) (w' : World) : Prop :=
  (R = none ∧ e = .returned (.int .i64 2) ∧ Below w.heap.size w w') ∨ ∃ m v', R = some m ∧ e = .returned (.int .i64 0) ∧ IsRef w' p v' (lv ++ [m]) ∧ Turned p v v' w w'
theorem decl_cases {a : At} (h : (declR a).2 = true) : ((a.pf.toList == []) = true ∧ (declR a).1 = ⟨#[]⟩) ∨ ((a.pf.toList == []) = false ∧ (declR a).1 = a.lc) := by
  unfold declR at h ⊢
  by_cases h1 : (a.ur.toList == nsL) = true
  · rw [if_pos h1] at h ⊢
    by_cases h2 : (a.pf.toList == xmlnsL) = true
    · rw [if_pos h2]
      right
      refine ⟨?_, rfl⟩
      have : a.pf.toList = xmlnsL := by simpa using h2
      rw [this]; rfl
    · rw [if_neg h2] at h ⊢
      left
      simp only [Bool.and_eq_true] at h
      exact ⟨h.1, rfl⟩
  · rw [if_neg h1] at h; cases h
theorem own_zero {w : World} {B T s n : Nat} {v : Value} {xs : List Value} (h : w.ownsRow B T s v n xs) : w.ownsRow 0 T s v n xs := by
  refine ⟨h.1, ?_⟩
  rcases h.2 with h | ⟨g, cap, cur, q1, q2, q3⟩
  · exact .inl h
  · exact .inr ⟨g, cap, cur, q1, Nat.zero_le _, q3⟩
theorem rpush_end {wr w5 : World} {p B : Nat} {v v' s : Value} {lv : List (List At)} {m : List At} (h : IsRef wr p v lv) (hm : wr.ownsRow B 35 4 s m.length (cellsA m))
    (ss : List Value) (h1 : ss.length = lv.length)
    (h3 : ∀ i, i < lv.length → wr.ownsRow 0 35 4 (ss.getD i (.slice none 0 0)) (lv.getD i []).length (cellsA (lv.getD i [])))
    (hb : Below wr.heap.size wr w5) (ho : w5.ownsRow wr.heap.size 26 1 v' (lv.length + 1) (ss ++ [s])) :
    w5.cell? ⟨p, 0, none⟩ = some v ∧ w5.frozen? ⟨p, 0, none⟩ = false ∧ p < w5.heap.size ∧ IsRef (w5.setCell ⟨p, 0, none⟩ v') p v' (lv ++ [m]) ∧ Turned p v v' wr (w5.setCell ⟨p, 0, none⟩ v') := by
  have hlt := h.lt
  have hc1 := (hb.block p hlt).trans h.cells
  have hne : v'.ownBlock ≠ some p := fun e => by have := (ho.lt p e).1; omega
  have hbk : ∀ k x, k ≠ p → (w5.setCell ⟨p, 0, none⟩ x).heap[k]? = w5.heap[k]? := fun k x hk => Below.heap_setCell _ _ _ _ hk
  have hk : ∀ s' (l : List At), wr.ownsRow 0 35 4 s' l.length (cellsA l) → (w5.setCell ⟨p, 0, none⟩ v').ownsRow 0 35 4 s' l.length (cellsA l) := fun s' l hs =>
    own_setCell (own_kept_below hs hb) (own_ne hs h.cells (by decide : (43 : Nat) ≠ 35))
  refine ⟨cell_of hc1 0, frozen_of hc1 0, Nat.lt_of_lt_of_le hlt hb.size, ⟨?_, ss ++ [s], by simp [h1], ?_, fun i hi => ?_⟩, ⟨hb.os, hb.tape, hb.output, by simpa [World.setCell] using hb.size, fun k hk h1 h2 => (hbk k _ h1).trans (hb.block k hk), fun k hk => .inr (ho.lt k hk).1⟩⟩
  · simp only [World.setCell, Array.getElem?_modify, hc1]
    simp
  · rw [len_snoc]
    exact own_setCell (own_zero ho) hne
  · rw [len_snoc] at hi
    by_cases hlt : i < lv.length
    · have e1 : (ss ++ [s]).getD i (.slice none 0 0) = ss.getD i (.slice none 0 0) := by simp [List.getD, List.getElem?_append, h1, hlt]
      have e2 : (lv ++ [m]).getD i [] = lv.getD i [] := by simp [List.getD, List.getElem?_append, hlt]
      rw [e1, e2]
      exact hk _ _ (h3 i hlt)
    · obtain rfl : i = lv.length := by omega
      have e1 : (ss ++ [s]).getD lv.length (.slice none 0 0) = s := by simp [List.getD, ← h1]
      have e2 : (lv ++ [m]).getD lv.length [] = m := by simp [List.getD]
      rw [e1, e2]
      exact hk _ _ (own_zero hm)
theorem shape_of {w : World} {B T s n : Nat} {v : Value} {xs : List Value} (h : w.ownsRow B T s v n xs) : ∃ A c, v = .slice A n c := by
  rcases h.2 with ⟨rfl, h0⟩ | ⟨g, cap, _, rfl, _⟩
  · exact ⟨none, 0, by rw [h0]⟩
  · exact ⟨_, _, rfl⟩
theorem infoS2 : (Try.prog.info? 26).map (fun i => (i.zero, i.size, i.bytes)) = some (some (.slice none 0 0), 1, 24) := by kernel_rfl
theorem empty_row (wr : World) : (wr.alloc (.cells #[] 26)).ownsRow wr.heap.size 26 1 (.slice (some ⟨wr.heap.size, 0, none⟩) 0 0) 0 [] :=
  ⟨rfl, .inr ⟨wr.heap.size, 0, _, rfl, Nat.le_refl _, heap_alloc_new _ _, Nat.le_refl 0, by decide, rfl, rfl⟩⟩
theorem one_of {wr : World} {lv : List (List At)} {ss : List Value} (h1 : ss.length = lv.length)
    (h3 : ∀ i, i < lv.length → wr.ownsRow 0 35 4 (ss.getD i (.slice none 0 0)) (lv.getD i []).length (cellsA (lv.getD i []))) : ∀ u ∈ ss, u.oneCell' = true := by
  intro u hu
  obtain ⟨i, hi, rfl⟩ := List.getElem_of_mem hu
  have := h3 i (by omega)
  obtain ⟨A, c, hs, -, -⟩ := cellsAt_of_own this rfl
  have e : ss.getD i (.slice none 0 0) = ss[i] := by simp [List.getD, hi]
  rw [e] at hs
  rw [hs]
  rfl
set_option maxRecDepth 100000 in
set_option maxHeartbeats 8000000 in
theorem rpush_any (p : Nat) (v : Value) (lv : List (List At)) (A : Option Addr) (cap : Nat) (l : List At) (w : World) (h : IsRef w p v lv) (hA : CellsAt w A l) (hl : l.length ≤ 1000000) (hlv : lv.length ≤ 1000000) :
    Calls Try.prog 16 #[.pointer (some ⟨p, 0, none⟩), .slice A l.length cap] w (RPushPost p v lv (pushG [] l) w) := by
  obtain ⟨R, hR⟩ : ∃ R, pushG [] l = R := ⟨_, rfl⟩
  rw [hR]
  have HR := Lib.hid hR
  clear hR
  have c0 : w.cell? ⟨p, 0, none⟩ = some v := cell_of h.cells 0
  have f0 := frozen_of h.cells 0
  have hp := h.lt
  have HS := Lib.hid h
  obtain ⟨n, hn⟩ : ∃ n, l.length = n := ⟨_, rfl⟩
  rw [hn] at hl ⊢
  have HN := Lib.hid hn
  obtain ⟨i0, hi, hz0, hz1, hz2⟩ := info_parts infoA
  clear hn h
  go_enter Try.func16, Try.ntmps16
  go_wp2_with fail
  go_loopw [5, 6] (fun s x wr => ∃ j : Nat, j ≤ n ∧ x = .int .i64 j ∧ Hid (PushR w l R j s wr)) (fun _ x _ => n - (intOf x).toNat)
  case atStart => exact ⟨0, by omega, rfl, [], by simp, HR.out.symm, World.ownsRow_nil _ _ _ _, Below.refl _ _⟩
  case round =>
    obtain ⟨j, hj, rfl, hP⟩ := hrel
    by_cases hlt : j < n
    · have hjl : j < l.length := by rw [HN.out]; exact hlt
      obtain ⟨a, ha⟩ : ∃ a, l.getD j zA = a := ⟨_, rfl⟩
      obtain ⟨m, hmj, hRm, hown, hB⟩ := hP.out
      obtain ⟨g, o, rfl, hgl, e0, e1, e2, e3⟩ := hA j hjl
      rw [ha] at e0 e1 e2 e3
      have hdrop := drop_cons hjl ha
      have f0' := (hB.cell (p := ⟨g, o + j * 4, none⟩) hgl).trans e0
      have f1' := (hB.cell (p := ⟨g, o + j * 4 + 1, none⟩) hgl).trans e1
      have f2' := (hB.cell (p := ⟨g, o + j * 4 + 2, none⟩) hgl).trans e2
      have f3' := (hB.cell (p := ⟨g, o + j * 4 + 3, none⟩) hgl).trans e3
      have hgz : g < wr.heap.size := Nat.lt_of_lt_of_le hgl hB.size
      rw [hdrop] at hRm
      have HRm := Lib.hid hRm
      have HB := Lib.hid hB
      have hBs := hB.size
      obtain ⟨mn, hmn⟩ : ∃ mn, m.length = mn := ⟨_, rfl⟩
      rw [hmn] at hown hmj
      obtain ⟨A', c', rfl, _, _⟩ := cellsAt_of_own hown hmn
      have HMN := Lib.hid hmn
      clear hmn
      have HD := declares_ref a wr
      have F0 := Lib.hid f0'
      have F1 := Lib.hid f1'
      have F2 := Lib.hid f2'
      have F3 := Lib.hid f3'
      have HOW := Lib.hid hown
      clear hdrop ha e0 e1 e2 e3 hA hRm hB hP HS hown
      cases hd : (declR a).2 with
      | false =>
        have hR2 : Hid (R = pushG m (l.drop (j + 1))) := by show R = _; rw [HRm.out]; simp [pushG, hd]
        generalize declR a = D at HD hd
        obtain ⟨d1, d2⟩ := D
        simp only at HD hd
        subst hd
        go_wp2_with fail
        refine HD.mono ?_
        clear HD
        rintro e w2 ⟨rfl, hb2⟩
        go_wp2_with fail
        go_roundw
        case rel => exact ⟨j + 1, by omega, by go_num, m, by rw [HMN.out]; omega, hR2.out, by rw [HMN.out]; exact own_kept_below HOW.out hb2, HB.out.trans (hb2.mono hBs)⟩
        case measure => simp [intOf]; omega
      | true =>
        have hRm2 : Hid (R = if (wrongR a || m.any (sameB a)) = true then none else pushG (m ++ [a]) (l.drop (j + 1))) := by show R = _; rw [HRm.out]; simp only [pushG, hd, if_true]
        have hdc := decl_cases hd
        generalize declR a = D at HD hd hdc
        obtain ⟨d1, d2⟩ := D
        simp only at HD hd hdc
        subst hd
        rcases hdc with ⟨hE, rfl⟩ | ⟨hE, rfl⟩
        · have hE' := isE hE
          clear HRm
          go_wp2_with fail
          refine HD.mono ?_
          clear HD f0' f1' f2' f3'
          rintro e w2 ⟨rfl, hb2⟩
          have f0' := (hb2.cell (p := ⟨g, o + j * 4, none⟩) hgz).trans F0.out
          have f1' := (hb2.cell (p := ⟨g, o + j * 4 + 1, none⟩) hgz).trans F1.out
          have f2' := (hb2.cell (p := ⟨g, o + j * 4 + 2, none⟩) hgz).trans F2.out
          have f3' := (hb2.cell (p := ⟨g, o + j * 4 + 3, none⟩) hgz).trans F3.out
          have hgz2 : g < w2.heap.size := Nat.lt_of_lt_of_le hgz hb2.size
          have HOW2 := Lib.hid (own_kept_below HOW.out hb2)
          have HB2 := Lib.hid (HB.out.trans (hb2.mono hBs))
          have hBs2 : w.heap.size ≤ w2.heap.size := Nat.le_trans hBs hb2.size
          clear hb2 F0 F1 F2 F3 HOW HB
          go_upto_region 9 with fail
          go_cut [79] from 39 to 79 (fun c wx => c = .bool (wrongR a) ∧ wx = w2)
          case first =>
            cases q1 : (a.vl.toList == xmlUL)
            all_goals
              cases q2 : (a.vl.toList == nsL)
              all_goals
                have q1' : (a.vl.toList != xmlUL) = (!(a.vl.toList == xmlUL)) := rfl
                rw [q1] at q1'
                simp only [Bool.not_true, Bool.not_false] at q1'
                go_wp2
                go_meet
                exact ⟨by unfold wrongR; simp [hE, q1, q2], rfl⟩
          case rest =>
            obtain ⟨rfl, rfl⟩ := hcut
            cases hw : wrongR a with
            | true =>
              have hF : Hid (R = none) := by show R = none; rw [hRm2.out, hw]; rfl
              have HB2' := HB2.out
              go_wp2_with fail
              go_ret
              exact .inl ⟨hF.out, rfl, HB2'⟩
            | false =>
              have hRm3 : Hid (R = if m.any (sameB a) = true then none else pushG (m ++ [a]) (l.drop (j + 1))) := by show R = _; rw [hRm2.out, hw]; rfl
              clear hw hRm2
              have F0 := Lib.hid f0'
              have F1 := Lib.hid f1'
              have F2 := Lib.hid f2'
              have F3 := Lib.hid f3'
              clear f0' f1' f2' f3'
              go_wp2_with fail
              obtain ⟨wo, rfl⟩ : ∃ wo : World, wo = wc := ⟨_, rfl⟩
              go_loopw [11] (fun x wz => ∃ k : Nat, k ≤ mn ∧ x = .int .i64 k ∧ Hid ((m.take k).any (sameB a) = false) ∧ Below wo.heap.size wo wz) (fun x _ => mn - (intOf x).toNat)
              case atStart => exact ⟨0, by omega, rfl, (by simp : (m.take 0).any (sameB a) = false), Below.refl _ _⟩
              case round =>
                obtain ⟨k, hk, rfl, hNo, hb⟩ := hrel
                have f0' := (hb.cell (p := ⟨g, o + j * 4, none⟩) hgz2).trans F0.out
                have f1' := (hb.cell (p := ⟨g, o + j * 4 + 1, none⟩) hgz2).trans F1.out
                have f2' := (hb.cell (p := ⟨g, o + j * 4 + 2, none⟩) hgz2).trans F2.out
                have f3' := (hb.cell (p := ⟨g, o + j * 4 + 3, none⟩) hgz2).trans F3.out
                have hgz3 : g < wr.heap.size := Nat.lt_of_lt_of_le hgz2 hb.size
                have hownr := own_kept_below HOW2.out hb
                have hBr := HB2.out.trans (hb.mono hBs2)
                have hBrs := hBr.size
                by_cases hkm : k < mn
                · have hkl : k < m.length := by rw [HMN.out]; exact hkm
                  obtain ⟨b, hbk⟩ : ∃ b, m.getD k zA = b := ⟨_, rfl⟩
                  obtain ⟨A2, cap2, hA2, hC, -⟩ := cellsAt_of_own hownr HMN.out
                  cases hA2
                  obtain ⟨g2, o2, rfl, hg2, b0, b1, b2, b3⟩ := hC k hkl
                  rw [hbk] at b0 b1 b2 b3
                  have htk : m.take (k + 1) = m.take k ++ [b] := by rw [List.take_succ_eq_append_getElem hkl, ← hbk]; simp [List.getD, hkl]
                  have HT := Lib.hid htk
                  have HO := Lib.hid hownr
                  have HBR := Lib.hid hBr
                  clear htk hbk hC hownr hBr f2' f3' b2 b3
                  cases r1 : (b.pf.toList == a.pf.toList)
                  · have hNo2 : Hid ((m.take (k + 1)).any (sameB a) = false) := by
                      show _ = _
                      rw [HT.out, List.any_append, hNo.out]
                      have : (a.pf.toList == b.pf.toList) = false := by rw [beq_eq_false_iff_ne] at r1 ⊢; exact fun e => r1 e.symm
                      simp [sameB, this]
                    go_wp2_with fail
                    go_quiet (fail)
                    go_wp2_with fail
                    go_roundw
                    case rel => exact ⟨k + 1, by omega, by go_num, hNo2, below_drewN hb⟩
                    case measure => simp [intOf]; omega
                  · cases r2 : (b.lc.toList == a.lc.toList)
                    · have hNo2 : Hid ((m.take (k + 1)).any (sameB a) = false) := by
                        show _ = _
                        rw [HT.out, List.any_append, hNo.out]
                        have : (a.lc.toList == b.lc.toList) = false := by rw [beq_eq_false_iff_ne] at r2 ⊢; exact fun e => r2 e.symm
                        simp [sameB, this]
                      go_wp2_with fail
                      go_quiet (fail)
                      go_wp2_with fail
                      go_roundw
                      case rel => exact ⟨k + 1, by omega, by go_num, hNo2, below_drewN hb⟩
                      case measure => simp [intOf]; omega
                    · have hF : Hid (R = none) := by
                        show R = none
                        have e1 : a.pf.toList = b.pf.toList := by simpa using (beq_iff_eq.1 r1).symm
                        have e2 : a.lc.toList = b.lc.toList := by simpa using (beq_iff_eq.1 r2).symm
                        have : m.any (sameB a) = true := by
                          rw [← List.take_append_drop (k + 1) m, HT.out, List.any_append, List.any_append]
                          simp [sameB, e1, e2]
                        rw [hRm3.out, this]; rfl
                      go_wp2_with fail
                      go_quiet (fail)
                      go_wp2_with fail
                      go_ret
                      exact .inl ⟨hF.out, rfl, below_drewN HBR.out⟩
                · obtain rfl : k = mn := by omega
                  have hnext : Hid (R = pushG (m ++ [a]) (l.drop (j + 1))) := by
                    show R = _
                    have := hNo.out
                    rw [← HMN.out, List.take_length] at this
                    rw [hRm3.out, this]; rfl
                  clear hNo hRm3
                  go_wp2_with (at_builtin; refine wpList_append_own _ rfl (.tmp 110) (.tmp 115) 26 rfl w.heap.size 35 i0 (.agg #[.string ⟨#[]⟩, .string ⟨#[]⟩, .string ⟨#[]⟩, .string ⟨#[]⟩]) 4 64 Try.underlying26 hi hz0 hz1 hz2 rfl (by decide) (.slice A' k c') k (cellsA m) rfl (hownr.alloc _) ⟨wr.heap.size, 0, none⟩ 1 1 [.string a.pf, .string a.lc, .string a.ur, .string a.vl] rfl rfl (cells_block _ _ _) (by intro u hu; simp at hu; rcases hu with rfl | rfl | rfl | rfl <;> rfl) (by unfold maxLen; omega) (by omega) (by simp; omega) ?_; intro v' w5 hown5 hgrow _; obtain ⟨g', cap', rfl⟩ := own_shape3 hown5)
                  go_roundw
                  case rel =>
                    refine ⟨j + 1, by omega, by go_num, m ++ [a], by rw [len_snoc, HMN.out]; omega, hnext.out, ?_, ?_⟩
                    · rw [cellsA_app, len_snoc, HMN.out]; exact hown5
                    · exact (hBr.alloc hBrs _).grown hgrow (by simp; omega) (fun k hk => (hownr.lt k hk).1)
                  case measure => simp [intOf]; omega
        · have hE' := isE hE
          clear HRm
          go_wp2_with fail
          refine HD.mono ?_
          clear HD f0' f1' f2' f3'
          rintro e w2 ⟨rfl, hb2⟩
          have f0' := (hb2.cell (p := ⟨g, o + j * 4, none⟩) hgz).trans F0.out
          have f1' := (hb2.cell (p := ⟨g, o + j * 4 + 1, none⟩) hgz).trans F1.out
          have f2' := (hb2.cell (p := ⟨g, o + j * 4 + 2, none⟩) hgz).trans F2.out
          have f3' := (hb2.cell (p := ⟨g, o + j * 4 + 3, none⟩) hgz).trans F3.out
          have hgz2 : g < w2.heap.size := Nat.lt_of_lt_of_le hgz hb2.size
          have HOW2 := Lib.hid (own_kept_below HOW.out hb2)
          have HB2 := Lib.hid (HB.out.trans (hb2.mono hBs))
          have hBs2 : w.heap.size ≤ w2.heap.size := Nat.le_trans hBs hb2.size
          clear hb2 F0 F1 F2 F3 HOW HB
          go_upto_region 9 with fail
          go_cut [79] from 39 to 79 (fun c wx => c = .bool (wrongR a) ∧ wx = w2)
          case first =>
            cases q3 : (a.lc.toList == xmlnsL)
            all_goals
              cases q4 : (a.lc.toList == xmlL)
              all_goals
                have q4' : (a.lc.toList != xmlL) = (!(a.lc.toList == xmlL)) := rfl
                rw [q4] at q4'
                simp only [Bool.not_true, Bool.not_false] at q4'
                cases q1 : (a.vl.toList == xmlUL)
                all_goals
                  have q1' : (a.vl.toList != xmlUL) = (!(a.vl.toList == xmlUL)) := rfl
                  rw [q1] at q1'
                  simp only [Bool.not_true, Bool.not_false] at q1'
                  cases q2 : (a.vl.toList == nsL)
                  all_goals
                    cases q5 : (a.vl.toList == [])
                    all_goals
                      have q5' := isE q5
                      go_wp2
                      go_meet
                      exact ⟨by unfold wrongR; simp [hE, q1, q2, q3, q4, q5] <;> (rw [eq_of_beq q1] at q5; exact absurd q5 (by decide)), rfl⟩
          case rest =>
            obtain ⟨rfl, rfl⟩ := hcut
            cases hw : wrongR a with
            | true =>
              have hF : Hid (R = none) := by show R = none; rw [hRm2.out, hw]; rfl
              have HB2' := HB2.out
              go_wp2_with fail
              go_ret
              exact .inl ⟨hF.out, rfl, HB2'⟩
            | false =>
              have hRm3 : Hid (R = if m.any (sameB a) = true then none else pushG (m ++ [a]) (l.drop (j + 1))) := by show R = _; rw [hRm2.out, hw]; rfl
              clear hw hRm2
              have F0 := Lib.hid f0'
              have F1 := Lib.hid f1'
              have F2 := Lib.hid f2'
              have F3 := Lib.hid f3'
              clear f0' f1' f2' f3'
              go_wp2_with fail
              obtain ⟨wo, rfl⟩ : ∃ wo : World, wo = wc := ⟨_, rfl⟩
              go_loopw [11] (fun x wz => ∃ k : Nat, k ≤ mn ∧ x = .int .i64 k ∧ Hid ((m.take k).any (sameB a) = false) ∧ Below wo.heap.size wo wz) (fun x _ => mn - (intOf x).toNat)
              case atStart => exact ⟨0, by omega, rfl, (by simp : (m.take 0).any (sameB a) = false), Below.refl _ _⟩
              case round =>
                obtain ⟨k, hk, rfl, hNo, hb⟩ := hrel
                have f0' := (hb.cell (p := ⟨g, o + j * 4, none⟩) hgz2).trans F0.out
                have f1' := (hb.cell (p := ⟨g, o + j * 4 + 1, none⟩) hgz2).trans F1.out
                have f2' := (hb.cell (p := ⟨g, o + j * 4 + 2, none⟩) hgz2).trans F2.out
                have f3' := (hb.cell (p := ⟨g, o + j * 4 + 3, none⟩) hgz2).trans F3.out
                have hgz3 : g < wr.heap.size := Nat.lt_of_lt_of_le hgz2 hb.size
                have hownr := own_kept_below HOW2.out hb
                have hBr := HB2.out.trans (hb.mono hBs2)
                have hBrs := hBr.size
                by_cases hkm : k < mn
                · have hkl : k < m.length := by rw [HMN.out]; exact hkm
                  obtain ⟨b, hbk⟩ : ∃ b, m.getD k zA = b := ⟨_, rfl⟩
                  obtain ⟨A2, cap2, hA2, hC, -⟩ := cellsAt_of_own hownr HMN.out
                  cases hA2
                  obtain ⟨g2, o2, rfl, hg2, b0, b1, b2, b3⟩ := hC k hkl
                  rw [hbk] at b0 b1 b2 b3
                  have htk : m.take (k + 1) = m.take k ++ [b] := by rw [List.take_succ_eq_append_getElem hkl, ← hbk]; simp [List.getD, hkl]
                  have HT := Lib.hid htk
                  have HO := Lib.hid hownr
                  have HBR := Lib.hid hBr
                  clear htk hbk hC hownr hBr f2' f3' b2 b3
                  cases r1 : (b.pf.toList == a.pf.toList)
                  · have hNo2 : Hid ((m.take (k + 1)).any (sameB a) = false) := by
                      show _ = _
                      rw [HT.out, List.any_append, hNo.out]
                      have : (a.pf.toList == b.pf.toList) = false := by rw [beq_eq_false_iff_ne] at r1 ⊢; exact fun e => r1 e.symm
                      simp [sameB, this]
                    go_wp2_with fail
                    go_quiet (fail)
                    go_wp2_with fail
                    go_roundw
                    case rel => exact ⟨k + 1, by omega, by go_num, hNo2, below_drewN hb⟩
                    case measure => simp [intOf]; omega
                  · cases r2 : (b.lc.toList == a.lc.toList)
                    · have hNo2 : Hid ((m.take (k + 1)).any (sameB a) = false) := by
                        show _ = _
                        rw [HT.out, List.any_append, hNo.out]
                        have : (a.lc.toList == b.lc.toList) = false := by rw [beq_eq_false_iff_ne] at r2 ⊢; exact fun e => r2 e.symm
                        simp [sameB, this]
                      go_wp2_with fail
                      go_quiet (fail)
                      go_wp2_with fail
                      go_roundw
                      case rel => exact ⟨k + 1, by omega, by go_num, hNo2, below_drewN hb⟩
                      case measure => simp [intOf]; omega
                    · have hF : Hid (R = none) := by
                        show R = none
                        have e1 : a.pf.toList = b.pf.toList := by simpa using (beq_iff_eq.1 r1).symm
                        have e2 : a.lc.toList = b.lc.toList := by simpa using (beq_iff_eq.1 r2).symm
                        have : m.any (sameB a) = true := by
                          rw [← List.take_append_drop (k + 1) m, HT.out, List.any_append, List.any_append]
                          simp [sameB, e1, e2]
                        rw [hRm3.out, this]; rfl
                      go_wp2_with fail
                      go_quiet (fail)
                      go_wp2_with fail
                      go_ret
                      exact .inl ⟨hF.out, rfl, below_drewN HBR.out⟩
                · obtain rfl : k = mn := by omega
                  have hnext : Hid (R = pushG (m ++ [a]) (l.drop (j + 1))) := by
                    show R = _
                    have := hNo.out
                    rw [← HMN.out, List.take_length] at this
                    rw [hRm3.out, this]; rfl
                  clear hNo hRm3
                  go_wp2_with (at_builtin; refine wpList_append_own _ rfl (.tmp 110) (.tmp 115) 26 rfl w.heap.size 35 i0 (.agg #[.string ⟨#[]⟩, .string ⟨#[]⟩, .string ⟨#[]⟩, .string ⟨#[]⟩]) 4 64 Try.underlying26 hi hz0 hz1 hz2 rfl (by decide) (.slice A' k c') k (cellsA m) rfl (hownr.alloc _) ⟨wr.heap.size, 0, none⟩ 1 1 [.string a.pf, .string a.lc, .string a.ur, .string a.vl] rfl rfl (cells_block _ _ _) (by intro u hu; simp at hu; rcases hu with rfl | rfl | rfl | rfl <;> rfl) (by unfold maxLen; omega) (by omega) (by simp; omega) ?_; intro v' w5 hown5 hgrow _; obtain ⟨g', cap', rfl⟩ := own_shape3 hown5)
                  go_roundw
                  case rel =>
                    refine ⟨j + 1, by omega, by go_num, m ++ [a], by rw [len_snoc, HMN.out]; omega, hnext.out, ?_, ?_⟩
                    · rw [cellsA_app, len_snoc, HMN.out]; exact hown5
                    · exact (hBr.alloc hBrs _).grown hgrow (by simp; omega) (fun k hk => (hownr.lt k hk).1)
                  case measure => simp [intOf]; omega
    · obtain rfl : j = n := by omega
      obtain ⟨m, hmj, hRm, hown, hB⟩ := hP.out
      have hF : Hid (R = some m) := by
        show R = some m
        rw [hRm, ← HN.out, List.drop_length]
        rfl
      have hBs := hB.size
      have hSr := Lib.hid (HS.out.below hB)
      have d0 := (hB.cell (p := ⟨p, 0, none⟩) hp).trans c0
      have d1 := (hB.frozen (p := ⟨p, 0, none⟩) hp).trans f0
      have hpz : p < wr.heap.size := by omega
      have HOW := Lib.hid hown
      have HB := Lib.hid hB
      obtain ⟨A', c', rfl, _, _⟩ := cellsAt_of_own hown rfl
      clear hA hRm hP hown c0 f0 hB HS hi hz0 hz1 hz2
      obtain ⟨ss, q1, q2, q3⟩ := hSr.out.lev
      have Q1 := Lib.hid q1
      have Q3 := Lib.hid q3
      clear q1 q3
      have HONE := Lib.hid (one_of Q1.out Q3.out)
      have hE0 := empty_row wr
      have HE0 := Lib.hid hE0
      have hB0 : Below wr.heap.size wr (wr.alloc (.cells #[] 26)) := (Below.refl _ _).alloc (Nat.le_refl _) _
      have HB0 := Lib.hid hB0
      obtain ⟨i1, hi1, hy0, hy1, hy2⟩ := info_parts infoS2
      clear hE0 hB0
      rcases q2.2 with ⟨rfl, h0⟩ | ⟨g, cap, cur, rfl, _, hg, hcap, hmax, hsz, htk⟩
      · have hss : ss = [] := List.eq_nil_of_length_eq_zero (by rw [Q1.out, h0])
        subst hss
        have H0 := Lib.hid h0
        clear h0 q2
        go_wp2_with (at_builtin; first | (refine wpList_append_own_none rfl (.tmp 118) (.tmp 122) 41 rfl wr.heap.size 26 i1 1 Try.underlying41 hi1 (.slice (some ⟨wr.heap.size, 0, none⟩) 0 0) 0 [] rfl HE0.out rfl ?_; obtain ⟨V4, hV4⟩ : ∃ V4, V4 = Value.slice (some (⟨wr.heap.size, 0, none⟩ : Addr)) 0 0 := ⟨_, rfl⟩; rw [← hV4]; have HO4 : Hid ((wr.alloc (.cells #[] 26)).ownsRow wr.heap.size 26 1 V4 0 []) := (by show World.ownsRow _ _ _ _ _ _ _; rw [hV4]; exact HE0.out); have hk4 : ∀ k, V4.ownBlock = some k → wr.heap.size ≤ k := (fun k hk => (HO4.out.lt k hk).1); have HK4 := Lib.hid hk4; clear hV4 hk4) | (refine wpList_append_own _ rfl (.tmp 123) (.tmp 125) 41 rfl wr.heap.size 26 i1 (.slice none 0 0) 1 24 Try.underlying41 hi1 hy0 hy1 hy2 rfl (by decide) V4 0 [] rfl (HO4.out.alloc _) ⟨wr.heap.size + 1, 0, none⟩ 1 1 [.slice A' m.length c'] rfl rfl (by have h_ := cells_block (wr.alloc (.cells #[] 26)) #[.slice A' m.length c'] 26; simpa using h_) (by intro u hu; simp at hu; subst hu; rfl) (by unfold maxLen; omega) (by omega) (by simp; omega) ?_; intro v5 w5 hown5 hgrow5 _; obtain ⟨k0, k1, kz, hfin⟩ := rpush_end hSr.out HOW.out [] Q1.out Q3.out ((HB0.out.alloc (by simp) _).grown hgrow5 (by simp; omega) HK4.out) (by rw [H0.out]; exact hown5); have HFI := Lib.hid hfin; obtain ⟨g5, cap5, rfl⟩ := own_shape3 hown5; clear hfin))
        go_ret
        obtain ⟨hI, hT⟩ := HFI.out
        exact .inr ⟨m, _, hF.out, rfl, hI, (Turned.of_below HB.out).trans hT⟩
      · obtain ⟨ln, hln⟩ : ∃ ln, lv.length = ln := ⟨_, rfl⟩
        have hcells : ∀ j u, ss[j]? = some u → (wr.alloc (.cells #[] 26)).cell? ((⟨g, 0, none⟩ : Addr).add j) = some u := (own_kept_below q2 HB0.out).cells (g := g) rfl
        have HCL := Lib.hid hcells
        have HSS : Hid (ss.length = ln * 1) := by show _ = _; rw [Q1.out, hln, Nat.mul_one]
        rw [hln] at hlv d0 hcap
        have HLN := Lib.hid hln
        clear hcells htk hsz hg hln
        go_wp2_with (at_builtin; first | (refine wpList_append_own _ rfl (.tmp 118) (.tmp 122) 41 rfl wr.heap.size 26 i1 (.slice none 0 0) 1 24 Try.underlying41 hi1 hy0 hy1 hy2 rfl (by decide) _ 0 [] rfl HE0.out ⟨g, 0, none⟩ ln cap ss rfl HSS.out HCL.out HONE.out (by unfold maxLen; omega) (by omega) (by simp) ?_; intro v4 w4 hown4 hgrow4 _; rw [Nat.zero_add, List.nil_append] at hown4; have hb4 := HB0.out.grown hgrow4 (by simp) (fun k hk => by cases hk; exact Nat.le_refl _); obtain ⟨A4, c4, rfl⟩ := shape_of hown4; have HO4 := Lib.hid hown4; have HB4 := Lib.hid hb4; have hs4 := hb4.size; clear hown4 hgrow4 hb4) | (refine wpList_append_own _ rfl (.tmp 123) (.tmp 125) 41 rfl wr.heap.size 26 i1 (.slice none 0 0) 1 24 Try.underlying41 hi1 hy0 hy1 hy2 rfl (by decide) (.slice A4 ln c4) ln ss rfl (HO4.out.alloc _) ⟨w4.heap.size, 0, none⟩ 1 1 [.slice A' m.length c'] rfl rfl (cells_block _ _ _) (by intro u hu; simp at hu; subst hu; rfl) (by unfold maxLen; omega) (by omega) (by simp; omega) ?_; intro v5 w5 hown5 hgrow5 _; obtain ⟨k0, k1, kz, hfin⟩ := rpush_end hSr.out HOW.out ss Q1.out Q3.out ((HB4.out.alloc hs4 _).grown hgrow5 (by simp; omega) (fun k hk => (HO4.out.lt k hk).1)) (by rw [HLN.out]; exact hown5); have HFI := Lib.hid hfin; obtain ⟨g5, cap5, rfl⟩ := own_shape3 hown5; clear hfin))
        go_ret
        obtain ⟨hI, hT⟩ := HFI.out
        exact .inr ⟨m, _, hF.out, rfl, hI, (Turned.of_below HB.out).trans hT⟩
end Go.Proofs.Ytfohbgcpdpnndaa.Sc
