/- The contracts of the package of what stands ahead: types of attributes. -/
import Derived.Test.YtmjdjpelhhibgaaDoorDA5
namespace Go.Proofs.YtmjdjpelhhibgaaDoor.DA
open Go.RowKit Go.Proofs.YtmjdjpelhhibgaaDoor.Ow Go.Proofs.YtmjdjpelhhibgaaDoor.DS Go.Proofs.YtmjdjpelhhibgaaDoor.Spec Go.Proofs.YtmjdjpelhhibgaaDoor.Giv
set_option linter.unusedVariables false
set_option linter.unusedSimpArgs false
theorem bs_toList (l : List UInt8) : (bs l).toList = l := by rw [ByteArray.toList_eq]; rfl
set_option maxRecDepth 100000 in
set_option maxHeartbeats 2000000 in
theorem kind_paren (p : Nat) (s : ByteArray) (x : St) (nm : ByteArray) (ve va : Value) (w : World) (h : IsR w p s x nm ve va) (hx : has [40] x = true) :
    Calls Tryd.prog 92 #[.pointer (some ⟨p, 0, none⟩)] w (Step p s (listX x) nm ve va (.int .i64 2) w) := by
  obtain ⟨a, hs, ha, hr, c0, c1, c2, f1, f2, hp⟩ := h.open_
  have HI := Lib.hid h
  clear h
  have hb : x.bad = false := by simp [has] at hx; exact hx.1
  rw [hb] at c2
  have HP := fun W => hp_same (s.extract a s.size) ⟨#[40]⟩ true W (by rw [ext_list, ← hr]; simp [has, hb] at hx; simpa [Lib.hasPrefix] using hx)
  clear hb hx hr
  have y0 : (0 : Int) ≤ (a : Int) := by omega
  have y1 : (a : Int) ≤ (s.size : Int) := by omega
  have y4 : ((a : Int)).toNat = a := by omega
  go_enter Tryd.func92, Tryd.ntmps92
  go_wp2_with fail
  go_quiet ((go_at_call 34; refine Calls.quiet_of_same (HP _)))
  go_wp2_with fail
  refine (list_any p s x nm ve va _ (HI.out.drewN _)).mono ?_
  rintro e w2 ⟨rfl, hI2, hT2⟩
  go_wp2_with fail
  go_ret
  exact ⟨rfl, hI2, hT2.undrew⟩
set_option maxRecDepth 100000 in
set_option maxHeartbeats 4000000 in
theorem kind_word (p : Nat) (s : ByteArray) (x : St) (nm : ByteArray) (ve va : Value) (w : World) (h : IsR w p s x nm ve va) (hx : has [40] x = false) :
    Calls Tryd.prog 92 #[.pointer (some ⟨p, 0, none⟩)] w (Step p s (kindX x) nm ve va (.int .i64 (kind x)) w) := by
  obtain ⟨a, hs, ha, hr, c0, c1, c2, f1, f2, hp⟩ := h.open_
  have HI := Lib.hid h
  clear h
  have hpar : (!x.bad && [40].isPrefixOf x.r) = false := hx
  have eK : kind x = if (word x == cdataM) = true then 1 else 2 := by unfold kind; rw [hpar, if_neg (by decide)]
  have eX : kindX x = (let y := wordX partL x
    if (word x == cdataM) = true then y else if (toks.any fun t => word x == t) = true then y else if (word x == notationM) = true then listX (gapX y) else ⟨y.r, true⟩) := by
    unfold kindX; rw [hpar, if_neg (by decide)]
  obtain ⟨B, hB⟩ : ∃ B, bs (word x) = B := ⟨_, rfl⟩
  have hBl : B.toList = word x := by rw [← hB]; exact bs_toList _
  rw [← hBl] at eK eX
  obtain ⟨KV, hKV⟩ : ∃ z, kind x = z := ⟨_, rfl⟩
  obtain ⟨KX, hKX⟩ : ∃ z, kindX x = z := ⟨_, rfl⟩
  rw [hKV, hKX]
  rw [hKV] at eK
  rw [hKX] at eX
  have HKV := Lib.hid eK
  have HKX := Lib.hid eX
  have hp0 : x.bad = false → Lib.hasPrefix (s.extract a s.size).data.toList [40] = false := by
    intro hb; rw [ext_list, ← hr]; simp [has, hb] at hx; simpa [Lib.hasPrefix] using hx
  have HP := fun W h => hp_same (s.extract a s.size) ⟨#[40]⟩ false W (hp0 h)
  have y0 : (0 : Int) ≤ (a : Int) := by omega
  have y1 : (a : Int) ≤ (s.size : Int) := by omega
  have y4 : ((a : Int)).toNat = a := by omega
  have HBs := Lib.hid hB
  have HW := fun n => word_part p s x nm ve va (w.drewN n) (HI.out.drewN n) partL part_tells
  rw [hB] at HW
  have HXB : x.bad = false ∨ x.bad = true := by cases x.bad <;> simp
  clear hpar eK eX hB hBl hp0 hx hr hKV hKX
  generalize wordX partL x = Y at HW HKX
  go_enter Tryd.func92, Tryd.ntmps92
  rcases HXB with hb | hb
  all_goals
    rw [hb] at c2
    have HP2 := fun W => HP W
    go_wp2_with fail
    go_quiet ((go_at_call 34; refine Calls.quiet_of_same (HP2 _ hb)))
    go_wp2_with fail
    refine (HW _).mono ?_
    clear HW
    rintro e w1 ⟨rfl, hI1, hT1⟩
    have hT := hT1.undrew
    clear c0 c1 c2 f1 f2 hp HP HP2 hT1
    cases k0 : (B.toList == [67, 68, 65, 84, 65])
    case true =>
      go_wp2_with fail
      go_ret
      have e1 := HKV.out
      have e2 := HKX.out
      simp only [show (B.toList == cdataM) = true from k0, if_true] at e1 e2
      rw [e1, e2]
      exact ⟨rfl, hI1, hT⟩
    case false =>
      cases k1 : (B.toList == [73, 68])
      case true =>
        go_wp2_with fail
        go_ret
        have e1 := HKV.out
        have e2 := HKX.out
        simp only [show (B.toList == cdataM) = false from k0, Bool.false_eq_true, if_false] at e1 e2
        rw [if_pos (by simp only [toks, List.any_cons, k1, Bool.or_true, Bool.true_or])] at e2
        rw [e1, e2]
        exact ⟨rfl, hI1, hT⟩
      case false =>
        cases k2 : (B.toList == [73, 68, 82, 69, 70])
        case true =>
          go_wp2_with fail
          go_ret
          have e1 := HKV.out
          have e2 := HKX.out
          simp only [show (B.toList == cdataM) = false from k0, Bool.false_eq_true, if_false] at e1 e2
          rw [if_pos (by simp only [toks, List.any_cons, k2, Bool.or_true, Bool.true_or])] at e2
          rw [e1, e2]
          exact ⟨rfl, hI1, hT⟩
        case false =>
          cases k3 : (B.toList == [73, 68, 82, 69, 70, 83])
          case true =>
            go_wp2_with fail
            go_ret
            have e1 := HKV.out
            have e2 := HKX.out
            simp only [show (B.toList == cdataM) = false from k0, Bool.false_eq_true, if_false] at e1 e2
            rw [if_pos (by simp only [toks, List.any_cons, k3, Bool.or_true, Bool.true_or])] at e2
            rw [e1, e2]
            exact ⟨rfl, hI1, hT⟩
          case false =>
            cases k4 : (B.toList == [69, 78, 84, 73, 84, 89])
            case true =>
              go_wp2_with fail
              go_ret
              have e1 := HKV.out
              have e2 := HKX.out
              simp only [show (B.toList == cdataM) = false from k0, Bool.false_eq_true, if_false] at e1 e2
              rw [if_pos (by simp only [toks, List.any_cons, k4, Bool.or_true, Bool.true_or])] at e2
              rw [e1, e2]
              exact ⟨rfl, hI1, hT⟩
            case false =>
              cases k5 : (B.toList == [69, 78, 84, 73, 84, 73, 69, 83])
              case true =>
                go_wp2_with fail
                go_ret
                have e1 := HKV.out
                have e2 := HKX.out
                simp only [show (B.toList == cdataM) = false from k0, Bool.false_eq_true, if_false] at e1 e2
                rw [if_pos (by simp only [toks, List.any_cons, k5, Bool.or_true, Bool.true_or])] at e2
                rw [e1, e2]
                exact ⟨rfl, hI1, hT⟩
              case false =>
                cases k6 : (B.toList == [78, 77, 84, 79, 75, 69, 78])
                case true =>
                  go_wp2_with fail
                  go_ret
                  have e1 := HKV.out
                  have e2 := HKX.out
                  simp only [show (B.toList == cdataM) = false from k0, Bool.false_eq_true, if_false] at e1 e2
                  rw [if_pos (by simp only [toks, List.any_cons, k6, Bool.or_true, Bool.true_or])] at e2
                  rw [e1, e2]
                  exact ⟨rfl, hI1, hT⟩
                case false =>
                  cases k7 : (B.toList == [78, 77, 84, 79, 75, 69, 78, 83])
                  case true =>
                    go_wp2_with fail
                    go_ret
                    have e1 := HKV.out
                    have e2 := HKX.out
                    simp only [show (B.toList == cdataM) = false from k0, Bool.false_eq_true, if_false] at e1 e2
                    rw [if_pos (by simp only [toks, List.any_cons, k7, Bool.or_true, Bool.true_or])] at e2
                    rw [e1, e2]
                    exact ⟨rfl, hI1, hT⟩
                  case false =>
                    cases k8 : (B.toList == [78, 79, 84, 65, 84, 73, 79, 78])
                    case true =>
                      go_wp2_with fail
                      refine (gap_any p s Y nm ve va w1 hI1).mono ?_
                      rintro e w2 ⟨rfl, hI2, hT2⟩
                      go_wp2_with fail
                      refine (list_any p s _ nm ve va w2 hI2).mono ?_
                      rintro e w3 ⟨rfl, hI3, hT3⟩
                      go_wp2_with fail
                      go_ret
                      have e1 := HKV.out
                      have e2 := HKX.out
                      simp only [show (B.toList == cdataM) = false from k0, Bool.false_eq_true, if_false, show (B.toList == notationM) = true from k8, if_true] at e1 e2
                      rw [if_neg (by simp only [toks, List.any_cons, List.any_nil, k1, k2, k3, k4, k5, k6, k7]; decide)] at e2
                      rw [e1, e2]
                      exact ⟨rfl, hI3, (hT.trans hT2).trans hT3⟩
                    case false =>
                      obtain ⟨a1, hs1, ha1, hr1, d0, d1, d2, g1, g2, hp1⟩ := hI1.open_
                      go_wp2_with fail
                      go_ret
                      have e1 := HKV.out
                      have e2 := HKX.out
                      simp only [show (B.toList == cdataM) = false from k0, Bool.false_eq_true, if_false, show (B.toList == notationM) = false from k8] at e1 e2
                      rw [if_neg (by simp only [toks, List.any_cons, List.any_nil, k1, k2, k3, k4, k5, k6, k7]; decide)] at e2
                      rw [e1, e2]
                      exact ⟨rfl, hI1.setBad true, hT.set _ _⟩
theorem kind_any (p : Nat) (s : ByteArray) (x : St) (nm : ByteArray) (ve va : Value) (w : World) (h : IsR w p s x nm ve va) :
    Calls Tryd.prog 92 #[.pointer (some ⟨p, 0, none⟩)] w (Step p s (kindX x) nm ve va (.int .i64 (kind x)) w) := by
  cases hx : has [40] x with
  | false => exact kind_word p s x nm ve va w h hx
  | true =>
    have e : (!x.bad && [40].isPrefixOf x.r) = true := hx
    have := kind_paren p s x nm ve va w h hx
    unfold kind kindX
    rw [e, if_pos rfl, if_pos rfl]
    exact this
end Go.Proofs.YtmjdjpelhhibgaaDoor.DA
