/- The walk of ScopeAll. -/
import Derived.Test.YtfohbgcpdpnndaaScAllP
namespace Go.Proofs.Ytfohbgcpdpnndaa.Sc
open Go.RowKit Go.Proofs.Ytfohbgcpdpnndaa.Ow Go.Sort
set_option linter.unusedVariables false
set_option maxRecDepth 100000 in
theorem declares_ref (a : At) (w : World) : Calls Try.prog 12 #[.agg #[.string a.pf, .string a.lc, .string a.ur, .string a.vl]] w fun e w' =>
    e = .returned (.tuple #[.string (declR a).1, .bool (declR a).2]) ∧ Below w.heap.size w w' := by
  obtain ⟨pf, lc, ur, vl⟩ := a
  simp only [declR]
  cases h1 : (ur.toList == nsL) with
  | false =>
    have h1' : (ur.toList != nsL) = true := by rw [bne, h1]; rfl
    go_enter Try.func12, Try.ntmps12
    go_wp2
    go_ret2
    exact ⟨rfl, (Below.refl _ _).alloc (Nat.le_refl _) _⟩
  | true =>
    have h1' : (ur.toList != nsL) = false := by rw [bne, h1]; rfl
    cases h2 : (pf.toList == xmlnsL) with
    | true =>
      go_enter Try.func12, Try.ntmps12
      go_wp2
      go_ret2
      exact ⟨rfl, (Below.refl _ _).alloc (Nat.le_refl _) _⟩
    | false =>
      cases h3 : (pf.toList == []) with
      | false =>
        have h3' := isE h3
        go_enter Try.func12, Try.ntmps12
        go_wp2
        go_quiet (fail)
        go_wp2
        go_ret2
        exact ⟨rfl, below_drewN ((Below.refl _ _).alloc (Nat.le_refl _) _)⟩
      | true =>
        have h3' := isE h3
        cases h4 : (lc.toList == xmlnsL)
        all_goals
          go_enter Try.func12, Try.ntmps12
          go_wp2
          go_quiet (fail)
          go_wp2
          go_ret2
          exact ⟨rfl, below_drewN ((Below.refl _ _).alloc (Nat.le_refl _) _)⟩
theorem less_of_le : ∀ (x y : List UInt8), x ≤ y → Go.Op.bytesLess x y = true ∨ x = y
  | [], [], _ => .inr rfl
  | [], b :: y, _ => .inl rfl
  | a :: x, [], h => absurd (List.Lex.nil) h
  | a :: x, b :: y, h => by
    by_cases h1 : a < b
    · left; simp [Go.Op.bytesLess, h1]
    · by_cases h2 : a = b
      · subst h2
        have h3 : x ≤ y := fun hlt => h (List.Lex.cons hlt)
        rcases less_of_le x y h3 with h4 | h4
        · left; simp [Go.Op.bytesLess, h4]
        · right; rw [h4]
      · exfalso
        refine h (List.Lex.rel ?_)
        rw [UInt8.lt_iff_toNat_lt] at h1 ⊢
        have : a.toNat ≠ b.toNat := fun e => h2 (UInt8.toNat_inj.1 e)
        omega
theorem pushL_len (lv : List (List At)) (l : List At) : (pushL lv l).length ≤ lv.length + 1 ∧ countL (pushL lv l) ≤ countL lv + l.length := by
  unfold pushL
  cases hp : pushG [] l with
  | none => simp
  | some m => have := pushG_len _ _ _ hp; simp only [List.length_append, List.length_singleton, countL_snoc]; simp at this; omega
def A1 (w : World) (p : Nat) (k : Nat) (lv : List (List At)) (wr : World) : Prop := SS w wr p lv ∧ lv.length ≤ k ∧ countL lv ≤ 4 * k ∧ Inv lv
def A2 (w : World) (p : Nat) (lv : List (List At)) (B : Nat) (s : Value) (n : Nat) (wr : World) : Prop := SS w wr p lv ∧ wr.ownsRow B 35 4 s n (cellsA (allU lv))
def cnt (lv : List (List At)) (k : Nat) : Nat := ((sevenL.take k).filter (full lv)).length
theorem cnt_succ (lv : List (List At)) (k : Nat) (hk : k < 7) : cnt lv (k + 1) = cnt lv k + (if full lv (sevenL.getD k []) = true then 1 else 0) := by
  unfold cnt
  have hk' : k < sevenL.length := hk
  rw [List.take_succ_eq_append_getElem hk', List.filter_append, List.length_append]
  congr 1
  have e : sevenL.getD k [] = sevenL[k] := by simp [List.getD, hk']
  rw [e]
  cases h : full lv sevenL[k] <;> simp [h]
theorem cnt_le (lv : List (List At)) (k : Nat) : cnt lv k ≤ 7 := Nat.le_trans (List.length_filter_le _ _) (by rw [List.length_take]; exact Nat.le_trans (Nat.min_le_right _ _) (by decide))
theorem seven_cell (w : World) (k : Nat) (hk : k < 7) : (w.alloc (.cells #[.string ⟨#[]⟩, .string ⟨#[112]⟩, .string ⟨#[113]⟩, .string ⟨#[97]⟩, .string ⟨#[98]⟩, .string ⟨#[114]⟩, .string ⟨#[120, 109, 108]⟩] 9)).cell? ⟨w.heap.size, k, none⟩ = some (.string ⟨(sevenL.getD k []).toArray⟩) := by
  rw [cell_of (heap_alloc_new _ _)]
  match k, hk with
  | 0, _ | 1, _ | 2, _ | 3, _ | 4, _ | 5, _ | 6, _ => rfl
set_option maxRecDepth 100000 in
set_option maxHeartbeats 8000000 in
theorem allw_walk (A : Option Addr) (cap : Nat) (L : List (Int × List Int)) (n : Nat) (w : World) (hn : L.length = n) (hA : OpsAt w A L) (hl : n ≤ maxLen) :
    Calls Try.prog 3 #[.slice A n cap] w fun e w' => e = .returned (.bool true) ∧ Below w.heap.size w w' := by
  have HN := Lib.hid hn
  clear hn
  unfold maxLen at hl
  go_enter Try.func3, Try.ntmps3
  go_wp2_with fail
  refine (SS.new _).mono ?_
  rintro e w1 ⟨p, rfl, hS⟩
  go_wp2_with fail
  go_loopw [4] (fun x wr => ∃ (k : Nat) (lv : List (List At)), k ≤ n ∧ k ≤ 6 ∧ x = .int .i64 k ∧ Hid (A1 w p k lv wr)) (fun x _ => n - (intOf x).toNat)
  case atStart => exact ⟨0, [], by omega, by omega, rfl, hS, by simp, by simp [countL], fun l hl => by simp at hl⟩
  case round =>
    obtain ⟨k, lv, hk, hk6, rfl, hR⟩ := hrel
    clear hS
    by_cases hlt : k < n ∧ k < 6
    · obtain ⟨hltn, hlt6⟩ := hlt
      obtain ⟨hS, hlv, hcl, hInv⟩ := hR.out
      have hkL : k < L.length := by rw [HN.out]; exact hltn
      obtain ⟨b, o, hA0, hbl, _, A', n', c', hcell, hn', hnm, hI⟩ := (hA.below hS.bel) k hkL
      subst hA0
      obtain ⟨ld, hld⟩ : ∃ ld, declsZ ((L.getD k (0, [])).2.take 4) = ld := ⟨_, rfl⟩
      have HD := decls_any A' c' _ n' 4 wr hn' hI hnm (by omega)
      rw [hld] at HD
      obtain ⟨dn, hdn⟩ : ∃ dn, ((L.getD k (0, [])).2.take 4).length = dn := ⟨_, rfl⟩
      rw [hdn, show ((4 : Nat) : Int) = 4 from rfl] at HD
      have HLD : Hid (ld.length = dn) := by show _ = _; rw [← hld, declsZ_len, hdn]
      have hd4 : dn ≤ 4 := by rw [← hdn, List.length_take]; omega
      have HI2 : Hid (Inv (pushL lv ld)) := by rw [← hld]; exact hInv.push _
      obtain ⟨q1, q2⟩ := pushL_len lv ld
      have hld4 : ld.length ≤ 4 := by rw [HLD.out]; exact hd4
      have hS2 := Lib.hid hS
      clear hld hdn hn' hI hS hR hInv
      go_wp2_with fail
      refine HD.mono ?_
      clear HD
      rintro e w3 ⟨s3, rfl, hown3, hb3⟩
      have hS3 := (hS2.out).below hb3
      have HP := hS3.push_any s3 ld _ dn hown3 HLD.out (by omega) (by omega) _ _ rfl rfl
      clear hown3 hb3 hS3
      go_wp2_with fail
      refine HP.mono ?_
      clear HP
      rintro e w4 ⟨rfl, hS4, hk4⟩
      clear hk4
      go_wp2_with fail
      go_roundw
      case rel => exact ⟨k + 1, pushL lv ld, by omega, by omega, by go_num, hS4, by omega, by omega, HI2.out⟩
      case measure => simp [intOf]; omega
    · by_cases hkn : k < n
      · obtain rfl : k = 6 := by omega
        clear hA
        obtain ⟨hS, hlv, hcl, hInv⟩ := hR.out
        have hc24 : countL lv ≤ 24 := by omega
        have hl6 : lv.length ≤ 6 := by omega
        have HINV := Lib.hid hInv
        clear hR hInv hlv hcl
        obtain ⟨N, hN⟩ : ∃ N, (Q lv).length = N := ⟨_, rfl⟩
        have hAN : (allU lv).length = N := by rw [allU_map, List.length_map, hN]
        have hN25 : N ≤ 7 := by rw [← hN, ← count_eq HINV.out]; exact Nat.le_trans (List.length_filter_le _ _) (by decide)
        have HALL := hS.all (by omega) (by omega) _ rfl
        rw [hAN] at HALL
        have HQ := Lib.hid hN
        have HAN := Lib.hid hAN
        have HS := Lib.hid hS
        clear hN hAN hS
        go_wp2_with fail
        refine HALL.mono ?_
        clear HALL
        rintro e w2 ⟨A5, c5, rfl, hown, hb⟩
        have hR2 : Hid (A2 w p lv wr.heap.size (.slice A5 N c5) N w2) := ⟨HS.out.below hb, hown⟩
        clear HS hown hb
        generalize wr.heap.size = B5 at hR2
        go_wp2_with fail
        go_loopw [6] (fun x wz => ∃ k : Nat, k ≤ N ∧ x = .int .i64 k ∧ Hid (A2 w p lv B5 (.slice A5 N c5) N wz)) (fun x _ => N - (intOf x).toNat)
        case atStart => exact ⟨0, by omega, rfl, hR2⟩
        case round =>
          obtain ⟨j, hj, rfl, hR3⟩ := hrel
          clear hR2
          by_cases hjN : j < N
          · obtain ⟨hS, hown⟩ := hR3.out
            have hjQ : j < (Q lv).length := by rw [HQ.out]; exact hjN
            obtain ⟨pn, hpn⟩ : ∃ pn, (Q lv)[j] = pn := ⟨_, rfl⟩
            have hpQ : pn ∈ Q lv := by rw [← hpn]; exact List.getElem_mem hjQ
            have hat : (allU lv).getD j zA = mk lv pn := by rw [allU_map]; simp [List.getD, hjQ, hpn]
            have hdm := decl_mk lv pn
            have hvm := vl_mk lv pn
            have hfull : full lv pn = true := (List.mem_filter.1 hpQ).2
            obtain ⟨A', cap', hA', hC, -⟩ := cellsAt_of_own hown HAN.out
            cases hA'
            obtain ⟨g, o, rfl, hg, c0, c1, c2, c3⟩ := hC j (by rw [HAN.out]; exact hjN)
            rw [hat] at c0 c1 c2 c3
            have hple := prefix_le lv pn hpQ
            have huf : (uriR lv ⟨pn.toArray⟩).2 = true := uri_full (by have := hfull; unfold full UL at this; simpa using this)
            have hune : ((UL lv pn).toList == []) = false := by have := hfull; unfold full at this; simpa using this
            have huv : (uriR lv ⟨pn.toArray⟩).1 = UL lv pn := rfl
            have hPN : (⟨pn.toArray⟩ : ByteArray).toList = pn := by rw [ByteArray.toList_eq]
            generalize mk lv pn = a at hdm hvm c0 c1 c2 c3
            generalize UL lv pn = V at hvm hple hune huv
            obtain ⟨pf, lc, ur, vl⟩ := a
            simp only at hvm c0 c1 c2 c3
            subst hvm
            have HDc := declares_ref ⟨pf, lc, ur, vl⟩ wr
            rw [hdm] at HDc
            simp only at HDc
            have HUR : Hid (uriR lv ⟨pn.toArray⟩ = (vl, true)) := Prod.ext huv huf
            generalize (⟨pn.toArray⟩ : ByteArray) = PN at HUR HDc hPN
            subst hPN
            have HPL := Lib.hid hple
            have HS := Lib.hid hS
            have HO := Lib.hid hown
            have C3 := Lib.hid c3
            clear hR3 hpn hpQ hat hdm hfull hC hown hS hple huf huv
            have hve := isE hune
            have hv1 : (vl.toList == vl.toList) = true := by simp
            have hv2 : (vl.toList != vl.toList) = false := by simp
            go_wp2_with fail
            refine HDc.mono ?_
            clear HDc
            rintro e w3 ⟨rfl, hb3⟩
            have hS3 := HS.out.below hb3
            have ho3 := own_kept_below HO.out hb3
            have hg3 : g < w3.heap.size := Nat.lt_of_lt_of_le hg hb3.size
            have C33 := Lib.hid ((hb3.cell (p := ⟨g, o + j * 4 + 3, none⟩) hg).trans C3.out)
            have HU := hS3.uri PN (by omega) (by omega) vl true HUR.out
            clear c0 c1 c2 c3 HS HO C3 hb3
            go_wp2_with fail
            refine HU.mono ?_
            clear HU
            rintro e w4 ⟨rfl, hb4⟩
            have hS4 := hS3.below hb4
            have ho4 := own_kept_below ho3 hb4
            have c43 := (hb4.cell (p := ⟨g, o + j * 4 + 3, none⟩) hg3).trans C33.out
            have hg4 : g < w4.heap.size := Nat.lt_of_lt_of_le hg3 hb4.size
            clear hb4 hS3 ho3 C33
            cases hPE : (PN.toList == []) with
            | true =>
              have hPE' := isE hPE
              have HX := hS4.prefixes vl (by omega) (by omega) _ _ rfl
              generalize prefixU lv vl = U at HX
              obtain ⟨qq, qb⟩ := U
              simp only at HX
              go_wp2_with fail
              refine HX.mono ?_
              clear HX
              rintro e w5 ⟨rfl, hb5⟩
              have hS5 := hS4.below hb5
              have ho5 := own_kept_below ho4 hb5
              clear hb5 hS4 ho4 c43
              go_wp2_with fail
              go_roundw
              case rel => exact ⟨j + 1, by omega, by go_num, hS5, ho5⟩
              case measure => simp [intOf]; omega
            | false =>
              have hPE' := isE hPE
              obtain ⟨q, hq, hle⟩ := HPL.out hPE
              have hless := less_of_le _ _ hle
              have hqq : (⟨q.toArray⟩ : ByteArray).toList = q := by rw [ByteArray.toList_eq]
              generalize (⟨q.toArray⟩ : ByteArray) = QQ at hq hqq
              subst hqq
              have HX := hS4.prefixes vl (by omega) (by omega) _ _ hq
              clear hq hle
              go_wp2_with fail
              refine HX.mono ?_
              clear HX
              rintro e w5 ⟨rfl, hb5⟩
              have hS5 := hS4.below hb5
              have ho5 := own_kept_below ho4 hb5
              clear hb5 hS4 ho4 c43
              have hgt : (!(Go.Op.bytesLess QQ.toList PN.toList || QQ.toList == PN.toList)) = false := by rcases hless with h | h <;> simp [h]
              have hrun : ∀ W : World, Sem.run Try.prog (binOp .gtr 9 (.string QQ) (.string PN)) W = .ok (.bool false) W := fun W => by
                have h0 : Sem.run Try.prog (binOp .gtr 9 (.string QQ) (.string PN)) W = .ok (.bool (!(Go.Op.bytesLess QQ.toList PN.toList || QQ.toList == PN.toList))) W := by kernel_rfl
                rw [h0, hgt]
              have HRUN := Lib.hid hrun
              clear hless hgt hrun
              go_wp2_with fail
              rw [HRUN.out]
              go_wp2_with fail
              go_roundw
              case rel => exact ⟨j + 1, by omega, by go_num, hS5, ho5⟩
              case measure => simp [intOf]; omega
          · obtain rfl : j = N := by omega
            have hS := hR3.out.1
            have HCNT : Hid (cnt lv 7 = j) := by show _ = _; rw [← HQ.out]; exact count_eq HINV.out
            clear hR3 HQ HAN HINV
            go_wp2_with fail
            obtain ⟨wo, rfl⟩ : ∃ wo : World, wo = wr := ⟨_, rfl⟩
            have hR4 : Hid (SS w (wo.alloc (.cells #[.string ⟨#[]⟩, .string ⟨#[112]⟩, .string ⟨#[113]⟩, .string ⟨#[97]⟩, .string ⟨#[98]⟩, .string ⟨#[114]⟩, .string ⟨#[120, 109, 108]⟩] 9)) p lv ∧ Below (wo.alloc (.cells #[.string ⟨#[]⟩, .string ⟨#[112]⟩, .string ⟨#[113]⟩, .string ⟨#[97]⟩, .string ⟨#[98]⟩, .string ⟨#[114]⟩, .string ⟨#[120, 109, 108]⟩] 9)).heap.size (wo.alloc (.cells #[.string ⟨#[]⟩, .string ⟨#[112]⟩, .string ⟨#[113]⟩, .string ⟨#[97]⟩, .string ⟨#[98]⟩, .string ⟨#[114]⟩, .string ⟨#[120, 109, 108]⟩] 9)) (wo.alloc (.cells #[.string ⟨#[]⟩, .string ⟨#[112]⟩, .string ⟨#[113]⟩, .string ⟨#[97]⟩, .string ⟨#[98]⟩, .string ⟨#[114]⟩, .string ⟨#[120, 109, 108]⟩] 9))) := ⟨hS.alloc _, Below.refl _ _⟩
            clear hS
            go_loopw [14, 15] (fun xn x wz => ∃ k : Nat, k ≤ 7 ∧ x = .int .i64 k ∧ xn = .int .i64 (cnt lv k) ∧ Hid (SS w wz p lv ∧ Below (wo.alloc (.cells #[.string ⟨#[]⟩, .string ⟨#[112]⟩, .string ⟨#[113]⟩, .string ⟨#[97]⟩, .string ⟨#[98]⟩, .string ⟨#[114]⟩, .string ⟨#[120, 109, 108]⟩] 9)).heap.size (wo.alloc (.cells #[.string ⟨#[]⟩, .string ⟨#[112]⟩, .string ⟨#[113]⟩, .string ⟨#[97]⟩, .string ⟨#[98]⟩, .string ⟨#[114]⟩, .string ⟨#[120, 109, 108]⟩] 9)) wz)) (fun _ x _ => 7 - (intOf x).toNat)
            case atStart => exact ⟨0, by omega, rfl, rfl, hR4⟩
            case round =>
              obtain ⟨k, hk, rfl, rfl, hR5⟩ := hrel
              clear hR4
              by_cases hk7 : k < 7
              · obtain ⟨hS, hb⟩ := hR5.out
                have hz := hb.size
                have hcs := (hb.cell (p := ⟨wo.heap.size, k, none⟩) (by simp)).trans (seven_cell wo k hk7)
                have hcz : wo.heap.size < wr.heap.size := by simp at hz; omega
                have hsu := cnt_succ lv k hk7
                have hcl := cnt_le lv k
                have hfu : full lv (sevenL.getD k []) = !((uriR lv ⟨(sevenL.getD k []).toArray⟩).1.toList == []) := rfl
                have hfo : ((uriR lv ⟨(sevenL.getD k []).toArray⟩).1.toList == []) = false → (uriR lv ⟨(sevenL.getD k []).toArray⟩).2 = true := uri_full
                have HU := hS.uri_any ⟨(sevenL.getD k []).toArray⟩ (by omega) (by omega)
                rw [hfu] at hsu
                generalize (⟨(sevenL.getD k []).toArray⟩ : ByteArray) = PN at hcs hsu hfo HU
                generalize uriR lv PN = U at hsu hfo HU
                obtain ⟨u, ub⟩ := U
                simp only at hsu hfo HU
                obtain ⟨c1, hc1⟩ : ∃ c1, cnt lv k = c1 := ⟨_, rfl⟩
                obtain ⟨c2, hc2⟩ : ∃ c2, cnt lv (k + 1) = c2 := ⟨_, rfl⟩
                rw [hc1] at hcl hsu ⊢
                rw [hc2] at hsu
                have HC2 := Lib.hid hc2
                have HB := Lib.hid hb
                have HS := Lib.hid hS
                clear hc1 hc2 hfu hR5 hb hS
                cases hE : (u.toList == []) with
                | false =>
                  obtain rfl : ub = true := hfo hE
                  have hE' := isE hE
                  rw [hE] at hsu
                  obtain rfl : c2 = c1 + 1 := by simpa using hsu
                  clear hsu hfo
                  go_wp2_with fail
                  refine HU.mono ?_
                  clear HU
                  rintro e w5 ⟨rfl, hb5⟩
                  have hS5 := HS.out.below hb5
                  have hb6 := HB.out.trans (hb5.mono hz)
                  clear hb5 hcs HS HB
                  go_wp2_with fail
                  go_roundw
                  case rel => exact ⟨k + 1, by omega, by go_num, by rw [HC2.out]; go_num, hS5, hb6⟩
                  case measure => simp [intOf]; omega
                | true =>
                  have hE' := isE hE
                  rw [hE] at hsu
                  obtain rfl : c2 = c1 := by simpa using hsu
                  clear hsu hfo
                  cases ub with
                  | false =>
                    go_wp2_with fail
                    refine HU.mono ?_
                    clear HU
                    rintro e w5 ⟨rfl, hb5⟩
                    have hS5 := HS.out.below hb5
                    have hb6 := HB.out.trans (hb5.mono hz)
                    clear hb5 hcs HS HB
                    go_wp2_with fail
                    go_roundw
                    case rel => exact ⟨k + 1, by omega, by go_num, by rw [HC2.out], hS5, hb6⟩
                    case measure => simp [intOf]; omega
                  | true =>
                    go_wp2_with fail
                    refine HU.mono ?_
                    clear HU
                    rintro e w5 ⟨rfl, hb5⟩
                    have hS5 := HS.out.below hb5
                    have hb6 := HB.out.trans (hb5.mono hz)
                    clear hb5 hcs HS HB
                    go_wp2_with fail
                    go_roundw
                    case rel => exact ⟨k + 1, by omega, by go_num, by rw [HC2.out], hS5, hb6⟩
                    case measure => simp [intOf]; omega
              · obtain rfl : k = 7 := by omega
                have hS := hR5.out.1
                rw [HCNT.out]
                clear hR5
                go_wp2_with fail
                refine (told_calls _).mono ?_
                rintro e w6 ⟨rfl, hb6⟩
                have hB := hS.bel.trans (hb6.mono hS.bel.size)
                clear hS hb6
                have hjj : ((j : Int) == (j : Int)) = true := by simp
                go_wp2_with fail
                go_ret
                exact ⟨rfl, hB⟩
      · obtain rfl : k = n := by omega
        clear hA
        obtain ⟨hS, hlv, hcl, hInv⟩ := hR.out
        have hc24 : countL lv ≤ 24 := by omega
        have hl6 : lv.length ≤ 6 := by omega
        have HINV := Lib.hid hInv
        clear hR hInv hlv hcl
        obtain ⟨N, hN⟩ : ∃ N, (Q lv).length = N := ⟨_, rfl⟩
        have hAN : (allU lv).length = N := by rw [allU_map, List.length_map, hN]
        have hN25 : N ≤ 7 := by rw [← hN, ← count_eq HINV.out]; exact Nat.le_trans (List.length_filter_le _ _) (by decide)
        have HALL := hS.all (by omega) (by omega) _ rfl
        rw [hAN] at HALL
        have HQ := Lib.hid hN
        have HAN := Lib.hid hAN
        have HS := Lib.hid hS
        clear hN hAN hS
        go_wp2_with fail
        refine HALL.mono ?_
        clear HALL
        rintro e w2 ⟨A5, c5, rfl, hown, hb⟩
        have hR2 : Hid (A2 w p lv wr.heap.size (.slice A5 N c5) N w2) := ⟨HS.out.below hb, hown⟩
        clear HS hown hb
        generalize wr.heap.size = B5 at hR2
        go_wp2_with fail
        go_loopw [6] (fun x wz => ∃ k : Nat, k ≤ N ∧ x = .int .i64 k ∧ Hid (A2 w p lv B5 (.slice A5 N c5) N wz)) (fun x _ => N - (intOf x).toNat)
        case atStart => exact ⟨0, by omega, rfl, hR2⟩
        case round =>
          obtain ⟨j, hj, rfl, hR3⟩ := hrel
          clear hR2
          by_cases hjN : j < N
          · obtain ⟨hS, hown⟩ := hR3.out
            have hjQ : j < (Q lv).length := by rw [HQ.out]; exact hjN
            obtain ⟨pn, hpn⟩ : ∃ pn, (Q lv)[j] = pn := ⟨_, rfl⟩
            have hpQ : pn ∈ Q lv := by rw [← hpn]; exact List.getElem_mem hjQ
            have hat : (allU lv).getD j zA = mk lv pn := by rw [allU_map]; simp [List.getD, hjQ, hpn]
            have hdm := decl_mk lv pn
            have hvm := vl_mk lv pn
            have hfull : full lv pn = true := (List.mem_filter.1 hpQ).2
            obtain ⟨A', cap', hA', hC, -⟩ := cellsAt_of_own hown HAN.out
            cases hA'
            obtain ⟨g, o, rfl, hg, c0, c1, c2, c3⟩ := hC j (by rw [HAN.out]; exact hjN)
            rw [hat] at c0 c1 c2 c3
            have hple := prefix_le lv pn hpQ
            have huf : (uriR lv ⟨pn.toArray⟩).2 = true := uri_full (by have := hfull; unfold full UL at this; simpa using this)
            have hune : ((UL lv pn).toList == []) = false := by have := hfull; unfold full at this; simpa using this
            have huv : (uriR lv ⟨pn.toArray⟩).1 = UL lv pn := rfl
            have hPN : (⟨pn.toArray⟩ : ByteArray).toList = pn := by rw [ByteArray.toList_eq]
            generalize mk lv pn = a at hdm hvm c0 c1 c2 c3
            generalize UL lv pn = V at hvm hple hune huv
            obtain ⟨pf, lc, ur, vl⟩ := a
            simp only at hvm c0 c1 c2 c3
            subst hvm
            have HDc := declares_ref ⟨pf, lc, ur, vl⟩ wr
            rw [hdm] at HDc
            simp only at HDc
            have HUR : Hid (uriR lv ⟨pn.toArray⟩ = (vl, true)) := Prod.ext huv huf
            generalize (⟨pn.toArray⟩ : ByteArray) = PN at HUR HDc hPN
            subst hPN
            have HPL := Lib.hid hple
            have HS := Lib.hid hS
            have HO := Lib.hid hown
            have C3 := Lib.hid c3
            clear hR3 hpn hpQ hat hdm hfull hC hown hS hple huf huv
            have hve := isE hune
            have hv1 : (vl.toList == vl.toList) = true := by simp
            have hv2 : (vl.toList != vl.toList) = false := by simp
            go_wp2_with fail
            refine HDc.mono ?_
            clear HDc
            rintro e w3 ⟨rfl, hb3⟩
            have hS3 := HS.out.below hb3
            have ho3 := own_kept_below HO.out hb3
            have hg3 : g < w3.heap.size := Nat.lt_of_lt_of_le hg hb3.size
            have C33 := Lib.hid ((hb3.cell (p := ⟨g, o + j * 4 + 3, none⟩) hg).trans C3.out)
            have HU := hS3.uri PN (by omega) (by omega) vl true HUR.out
            clear c0 c1 c2 c3 HS HO C3 hb3
            go_wp2_with fail
            refine HU.mono ?_
            clear HU
            rintro e w4 ⟨rfl, hb4⟩
            have hS4 := hS3.below hb4
            have ho4 := own_kept_below ho3 hb4
            have c43 := (hb4.cell (p := ⟨g, o + j * 4 + 3, none⟩) hg3).trans C33.out
            have hg4 : g < w4.heap.size := Nat.lt_of_lt_of_le hg3 hb4.size
            clear hb4 hS3 ho3 C33
            cases hPE : (PN.toList == []) with
            | true =>
              have hPE' := isE hPE
              have HX := hS4.prefixes vl (by omega) (by omega) _ _ rfl
              generalize prefixU lv vl = U at HX
              obtain ⟨qq, qb⟩ := U
              simp only at HX
              go_wp2_with fail
              refine HX.mono ?_
              clear HX
              rintro e w5 ⟨rfl, hb5⟩
              have hS5 := hS4.below hb5
              have ho5 := own_kept_below ho4 hb5
              clear hb5 hS4 ho4 c43
              go_wp2_with fail
              go_roundw
              case rel => exact ⟨j + 1, by omega, by go_num, hS5, ho5⟩
              case measure => simp [intOf]; omega
            | false =>
              have hPE' := isE hPE
              obtain ⟨q, hq, hle⟩ := HPL.out hPE
              have hless := less_of_le _ _ hle
              have hqq : (⟨q.toArray⟩ : ByteArray).toList = q := by rw [ByteArray.toList_eq]
              generalize (⟨q.toArray⟩ : ByteArray) = QQ at hq hqq
              subst hqq
              have HX := hS4.prefixes vl (by omega) (by omega) _ _ hq
              clear hq hle
              go_wp2_with fail
              refine HX.mono ?_
              clear HX
              rintro e w5 ⟨rfl, hb5⟩
              have hS5 := hS4.below hb5
              have ho5 := own_kept_below ho4 hb5
              clear hb5 hS4 ho4 c43
              have hgt : (!(Go.Op.bytesLess QQ.toList PN.toList || QQ.toList == PN.toList)) = false := by rcases hless with h | h <;> simp [h]
              have hrun : ∀ W : World, Sem.run Try.prog (binOp .gtr 9 (.string QQ) (.string PN)) W = .ok (.bool false) W := fun W => by
                have h0 : Sem.run Try.prog (binOp .gtr 9 (.string QQ) (.string PN)) W = .ok (.bool (!(Go.Op.bytesLess QQ.toList PN.toList || QQ.toList == PN.toList))) W := by kernel_rfl
                rw [h0, hgt]
              have HRUN := Lib.hid hrun
              clear hless hgt hrun
              go_wp2_with fail
              rw [HRUN.out]
              go_wp2_with fail
              go_roundw
              case rel => exact ⟨j + 1, by omega, by go_num, hS5, ho5⟩
              case measure => simp [intOf]; omega
          · obtain rfl : j = N := by omega
            have hS := hR3.out.1
            have HCNT : Hid (cnt lv 7 = j) := by show _ = _; rw [← HQ.out]; exact count_eq HINV.out
            clear hR3 HQ HAN HINV
            go_wp2_with fail
            obtain ⟨wo, rfl⟩ : ∃ wo : World, wo = wr := ⟨_, rfl⟩
            have hR4 : Hid (SS w (wo.alloc (.cells #[.string ⟨#[]⟩, .string ⟨#[112]⟩, .string ⟨#[113]⟩, .string ⟨#[97]⟩, .string ⟨#[98]⟩, .string ⟨#[114]⟩, .string ⟨#[120, 109, 108]⟩] 9)) p lv ∧ Below (wo.alloc (.cells #[.string ⟨#[]⟩, .string ⟨#[112]⟩, .string ⟨#[113]⟩, .string ⟨#[97]⟩, .string ⟨#[98]⟩, .string ⟨#[114]⟩, .string ⟨#[120, 109, 108]⟩] 9)).heap.size (wo.alloc (.cells #[.string ⟨#[]⟩, .string ⟨#[112]⟩, .string ⟨#[113]⟩, .string ⟨#[97]⟩, .string ⟨#[98]⟩, .string ⟨#[114]⟩, .string ⟨#[120, 109, 108]⟩] 9)) (wo.alloc (.cells #[.string ⟨#[]⟩, .string ⟨#[112]⟩, .string ⟨#[113]⟩, .string ⟨#[97]⟩, .string ⟨#[98]⟩, .string ⟨#[114]⟩, .string ⟨#[120, 109, 108]⟩] 9))) := ⟨hS.alloc _, Below.refl _ _⟩
            clear hS
            go_loopw [14, 15] (fun xn x wz => ∃ k : Nat, k ≤ 7 ∧ x = .int .i64 k ∧ xn = .int .i64 (cnt lv k) ∧ Hid (SS w wz p lv ∧ Below (wo.alloc (.cells #[.string ⟨#[]⟩, .string ⟨#[112]⟩, .string ⟨#[113]⟩, .string ⟨#[97]⟩, .string ⟨#[98]⟩, .string ⟨#[114]⟩, .string ⟨#[120, 109, 108]⟩] 9)).heap.size (wo.alloc (.cells #[.string ⟨#[]⟩, .string ⟨#[112]⟩, .string ⟨#[113]⟩, .string ⟨#[97]⟩, .string ⟨#[98]⟩, .string ⟨#[114]⟩, .string ⟨#[120, 109, 108]⟩] 9)) wz)) (fun _ x _ => 7 - (intOf x).toNat)
            case atStart => exact ⟨0, by omega, rfl, rfl, hR4⟩
            case round =>
              obtain ⟨k, hk, rfl, rfl, hR5⟩ := hrel
              clear hR4
              by_cases hk7 : k < 7
              · obtain ⟨hS, hb⟩ := hR5.out
                have hz := hb.size
                have hcs := (hb.cell (p := ⟨wo.heap.size, k, none⟩) (by simp)).trans (seven_cell wo k hk7)
                have hcz : wo.heap.size < wr.heap.size := by simp at hz; omega
                have hsu := cnt_succ lv k hk7
                have hcl := cnt_le lv k
                have hfu : full lv (sevenL.getD k []) = !((uriR lv ⟨(sevenL.getD k []).toArray⟩).1.toList == []) := rfl
                have hfo : ((uriR lv ⟨(sevenL.getD k []).toArray⟩).1.toList == []) = false → (uriR lv ⟨(sevenL.getD k []).toArray⟩).2 = true := uri_full
                have HU := hS.uri_any ⟨(sevenL.getD k []).toArray⟩ (by omega) (by omega)
                rw [hfu] at hsu
                generalize (⟨(sevenL.getD k []).toArray⟩ : ByteArray) = PN at hcs hsu hfo HU
                generalize uriR lv PN = U at hsu hfo HU
                obtain ⟨u, ub⟩ := U
                simp only at hsu hfo HU
                obtain ⟨c1, hc1⟩ : ∃ c1, cnt lv k = c1 := ⟨_, rfl⟩
                obtain ⟨c2, hc2⟩ : ∃ c2, cnt lv (k + 1) = c2 := ⟨_, rfl⟩
                rw [hc1] at hcl hsu ⊢
                rw [hc2] at hsu
                have HC2 := Lib.hid hc2
                have HB := Lib.hid hb
                have HS := Lib.hid hS
                clear hc1 hc2 hfu hR5 hb hS
                cases hE : (u.toList == []) with
                | false =>
                  obtain rfl : ub = true := hfo hE
                  have hE' := isE hE
                  rw [hE] at hsu
                  obtain rfl : c2 = c1 + 1 := by simpa using hsu
                  clear hsu hfo
                  go_wp2_with fail
                  refine HU.mono ?_
                  clear HU
                  rintro e w5 ⟨rfl, hb5⟩
                  have hS5 := HS.out.below hb5
                  have hb6 := HB.out.trans (hb5.mono hz)
                  clear hb5 hcs HS HB
                  go_wp2_with fail
                  go_roundw
                  case rel => exact ⟨k + 1, by omega, by go_num, by rw [HC2.out]; go_num, hS5, hb6⟩
                  case measure => simp [intOf]; omega
                | true =>
                  have hE' := isE hE
                  rw [hE] at hsu
                  obtain rfl : c2 = c1 := by simpa using hsu
                  clear hsu hfo
                  cases ub with
                  | false =>
                    go_wp2_with fail
                    refine HU.mono ?_
                    clear HU
                    rintro e w5 ⟨rfl, hb5⟩
                    have hS5 := HS.out.below hb5
                    have hb6 := HB.out.trans (hb5.mono hz)
                    clear hb5 hcs HS HB
                    go_wp2_with fail
                    go_roundw
                    case rel => exact ⟨k + 1, by omega, by go_num, by rw [HC2.out], hS5, hb6⟩
                    case measure => simp [intOf]; omega
                  | true =>
                    go_wp2_with fail
                    refine HU.mono ?_
                    clear HU
                    rintro e w5 ⟨rfl, hb5⟩
                    have hS5 := HS.out.below hb5
                    have hb6 := HB.out.trans (hb5.mono hz)
                    clear hb5 hcs HS HB
                    go_wp2_with fail
                    go_roundw
                    case rel => exact ⟨k + 1, by omega, by go_num, by rw [HC2.out], hS5, hb6⟩
                    case measure => simp [intOf]; omega
              · obtain rfl : k = 7 := by omega
                have hS := hR5.out.1
                rw [HCNT.out]
                clear hR5
                go_wp2_with fail
                refine (told_calls _).mono ?_
                rintro e w6 ⟨rfl, hb6⟩
                have hB := hS.bel.trans (hb6.mono hS.bel.size)
                clear hS hb6
                have hjj : ((j : Int) == (j : Int)) = true := by simp
                go_wp2_with fail
                go_ret
                exact ⟨rfl, hB⟩
end Go.Proofs.Ytfohbgcpdpnndaa.Sc
