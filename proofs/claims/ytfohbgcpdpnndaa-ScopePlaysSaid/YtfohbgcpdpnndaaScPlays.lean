/- The walk of ScopePlays. -/
import Derived.Test.YtfohbgcpdpnndaaScR9
import Derived.Test.YtfohbgcpdpnndaaScTwo
import Derived.Deep.RegionWith
import Derived.Deep.CutRange
namespace Go.Proofs.Ytfohbgcpdpnndaa.Sc
open Go.RowKit Go.Proofs.Ytfohbgcpdpnndaa.Ow Go.Sort
set_option linter.unusedVariables false
def PR (w : World) (p q k : Nat) (lv : List (List At)) (wr : World) : Prop := SS w wr p lv ∧ RS w wr q lv ∧ Inv2 lv ∧ lv.length ≤ k ∧ countL lv ≤ 4 * k
theorem PR.pushed {w w3 w4 w5 : World} {p q k : Nat} {lv : List (List At)} {ld : List At} (h2 : RS w w3 q lv) (hI : Inv2 lv) (hl : lv.length ≤ k) (hc : countL lv ≤ 4 * k) (hd : ld.length ≤ 4)
    (hS4 : SS w w4 p (pushL lv ld)) (hR5 : RS w w5 q (pushL lv ld)) (hk5 : KeepsR w4 w5) : PR w p q (k + 1) (pushL lv ld) w5 := by
  obtain ⟨q1, q2⟩ := pushL_len lv ld
  exact ⟨hS4.keepsR hk5 hR5.bel, hR5, hI.push ld, by omega, by omega⟩
theorem count_drop (lv : List (List At)) : lv.dropLast.length ≤ lv.length ∧ countL lv.dropLast ≤ countL lv := by
  rw [List.dropLast_eq_take]
  exact ⟨List.length_take_le' _ _, count_take _ _⟩
theorem PR.popped {w w4 w5 : World} {p q k : Nat} {lv : List (List At)} (hI : Inv2 lv) (hl : lv.length ≤ k) (hc : countL lv ≤ 4 * k)
    (hS4 : SS w w4 p lv.dropLast) (hR5 : RS w w5 q lv.dropLast) (hk5 : KeepsR w4 w5) : PR w p q (k + 1) lv.dropLast w5 := by
  obtain ⟨q1, q2⟩ := count_drop lv
  exact ⟨hS4.keepsR hk5 hR5.bel, hR5, hI.pop, by omega, by omega⟩
theorem RS.new {w w1 : World} (h : Below w.heap.size w w1) : RS w (w1.alloc (.cells #[.slice none 0 0] 43)) w1.heap.size [] :=
  ⟨_, ⟨heap_alloc_new _ _, [], rfl, World.ownsRow_nil _ _ _ _, fun i hi => by simp at hi⟩, h.alloc h.size _, h.size, fun k hk => by cases hk⟩
def P6 (P0 : ByteArray) : List ByteArray := [P0, ⟨#[112]⟩, ⟨#[113]⟩, ⟨#[]⟩, ⟨#[120, 109, 108]⟩, ⟨#[120, 109, 108, 110, 115]⟩]
def U6 (U0 : ByteArray) : List ByteArray := [U0, ⟨#[117]⟩, ⟨#[118]⟩, ⟨#[]⟩, ⟨xmlUL.toArray⟩, ⟨#[119]⟩]
theorem idxP (P0 : ByteArray) (i : Nat) (h : i < 6) : ([Value.string P0, .string ⟨#[112]⟩, .string ⟨#[113]⟩, .string ⟨#[]⟩, .string ⟨#[120, 109, 108]⟩, .string ⟨#[120, 109, 108, 110, 115]⟩] : List Value)[i]'h = .string ((P6 P0).getD i ⟨#[]⟩) := by
  match i, h with
  | 0, _ | 1, _ | 2, _ | 3, _ | 4, _ | 5, _ => rfl
theorem idxU (U0 : ByteArray) (i : Nat) (h : i < 6) : ([Value.string U0, .string ⟨#[117]⟩, .string ⟨#[118]⟩, .string ⟨#[]⟩, .string ⟨#[104, 116, 116, 112, 58, 47, 47, 119, 119, 119, 46, 119, 51, 46, 111, 114, 103, 47, 88, 77, 76, 47, 49, 57, 57, 56, 47, 110, 97, 109, 101, 115, 112, 97, 99, 101]⟩, .string ⟨#[119]⟩] : List Value)[i]'h = .string ((U6 U0).getD i ⟨#[]⟩) := by
  match i, h with
  | 0, _ | 1, _ | 2, _ | 3, _ | 4, _ | 5, _ => rfl
set_option maxRecDepth 100000 in
set_option maxHeartbeats 2000000 in
theorem plays_off (A : Option Addr) (n cap : Nat) (P0 U0 : ByteArray) (w : World) (h : 25 < n ∨ 50 < P0.size ∨ 50 < U0.size) (hl : n ≤ maxLen) (hP : P0.size ≤ 140737488351232) (hU : U0.size ≤ 140737488351232) :
    Calls Try.prog 4 #[.slice A n cap, .string P0, .string U0] w fun e w' => e = .returned (.bool true) ∧ Below w.heap.size w w' := by
  unfold maxLen at hl
  have h' : 25 < n ∨ (n ≤ 25 ∧ 50 < P0.size) ∨ (n ≤ 25 ∧ P0.size ≤ 50 ∧ 50 < U0.size) := by omega
  clear h
  rcases h' with h | ⟨h0, h⟩ | ⟨h0, h1, h⟩
  all_goals
    go_enter Try.func4, Try.ntmps4
    go_wp2_with fail
    refine (SS.new _).mono ?_
    rintro e w1 ⟨p, rfl, hS⟩
    have hb1 := hS.bel
    have hs1 := hb1.size
    go_wp2_with fail
    refine (told_calls _).mono ?_
    rintro e w2 ⟨rfl, hb⟩
    have hB := (hb1.alloc hs1 _).trans (hb.mono (by simp; omega))
    go_wp2_with fail
    go_ret
    exact ⟨rfl, hB⟩
def PQ (w : World) (p q : Nat) (lv : List (List At)) (wr : World) : Prop := SS w wr p lv ∧ RS w wr q lv
theorem cells_own {w : World} {B n : Nat} {A : Option Addr} {cap : Nat} {l : List At} (h : w.ownsRow B 35 4 (.slice A n cap) n (cellsA l)) (hn : l.length = n) : CellsAt w A l := by
  obtain ⟨A', cap', hA, hC, -⟩ := cellsAt_of_own h hn
  cases hA
  exact hC
theorem PR.fin {w wr wA wB wC : World} {p q k : Nat} {lv : List (List At)} (hS : SS w wr p lv) (hR : RS w wr q lv) (hI : Inv2 lv) (h1 : lv.length ≤ k) (h2 : countL lv ≤ 4 * k) (hA : Below wr.heap.size wr wA) (hB : Below wA.heap.size wA wB) (hC : Below wB.heap.size wB wC) : PR w p q k lv wC :=
  ⟨((hS.below hA).below hB).below hC, ((hR.below hA).below hB).below hC, hI, h1, h2⟩
theorem RS.push_any {w0 w : World} {p : Nat} {lv : List (List At)} (h : RS w0 w p lv) (s : Value) (l : List At) (B n : Nat) (hs : w.ownsRow B 35 4 s n (cellsA l)) (hn : l.length = n) (hl : n ≤ 1000) (hlv : lv.length ≤ 1000) (c : Int) (lv' : List (List At)) (hc : pushC l = c) (hlv' : pushL lv l = lv') :
    Calls Try.prog 16 #[.pointer (some ⟨p, 0, none⟩), s] w fun e w' => e = .returned (.int .i64 c) ∧ RS w0 w' p lv' ∧ KeepsR w w' := by
  obtain ⟨A, cap, rfl, hC, -⟩ := cellsAt_of_own hs hn
  exact h.push A cap l hC n hn hl hlv _ _ hc hlv'
set_option maxRecDepth 100000 in
set_option maxHeartbeats 8000000 in
theorem plays_on (A : Option Addr) (cap : Nat) (L : List (Int × List Int)) (n : Nat) (P0 U0 : ByteArray) (w : World) (hn : L.length = n) (hA : OpsAt w A L) (hl : n ≤ 25) (hP : P0.size ≤ 50) (hU : U0.size ≤ 50) :
    Calls Try.prog 4 #[.slice A n cap, .string P0, .string U0] w fun e w' => e = .returned (.bool true) ∧ Below w.heap.size w w' := by
  have HN := Lib.hid hn
  clear hn
  go_enter Try.func4, Try.ntmps4
  go_wp2_with fail
  refine (SS.new _).mono ?_
  rintro e w1 ⟨p, rfl, hS⟩
  have hR0 : Hid (PR w p w1.heap.size 0 [] (w1.alloc (.cells #[.slice none 0 0] 43))) := ⟨hS.alloc _, RS.new hS.bel, fun l hl => by simp at hl, by simp, by simp [countL]⟩
  go_wp2_with fail
  generalize w1.heap.size = q at hR0 ⊢
  go_loopw [9] (fun x wr => ∃ (k : Nat) (lv : List (List At)), k ≤ n ∧ x = .int .i64 k ∧ Hid (PR w p q k lv wr)) (fun x _ => n - (intOf x).toNat)
  case atStart => exact ⟨0, [], by omega, rfl, hR0⟩
  case round =>
    obtain ⟨k, lv, hk, rfl, hR⟩ := hrel
    clear hR0 hS
    by_cases hlt : k < n
    · obtain ⟨hS, hRS, hI, hlv, hcl⟩ := hR.out
      have hkL : k < L.length := by rw [HN.out]; exact hlt
      obtain ⟨b, o, hA0, hbl, hkind, A', n', c', hcell, hn', hnm, hIA⟩ := (hA.below hS.bel) k hkL
      subst hA0
      generalize (L.getD k (0, [])).1 = kk at hkind
      generalize (L.getD k (0, [])).2 = kl at hn' hIA
      obtain ⟨z, hz⟩ : ∃ z, Go.bits .and .i64 kk 7 = z := ⟨_, rfl⟩
      obtain ⟨ld, hld⟩ : ∃ ld, declsZ (kl.take 4) = ld := ⟨_, rfl⟩
      have HD := decls_any A' c' kl n' 4 wr hn' hIA hnm (by omega)
      rw [hld] at HD
      obtain ⟨dn, hdn⟩ : ∃ dn, (kl.take 4).length = dn := ⟨_, rfl⟩
      rw [hdn, show ((4 : Nat) : Int) = 4 from rfl] at HD
      have HLD : Hid (ld.length = dn) := by show _ = _; rw [← hld, declsZ_len, hdn]
      have hd4 : dn ≤ 4 := by rw [← hdn, List.length_take]; omega
      have HS := Lib.hid hS
      have HRS := Lib.hid hRS
      have HI := Lib.hid hI
      clear hld hdn hn' hIA hS hRS hR hI
      have hstep : ∃ X : Nat, X = 0 := ⟨0, rfl⟩
      by_cases hz5 : z < 5
      · go_wp2_with fail
        refine HD.mono ?_
        clear HD
        rintro e w3 ⟨s3, rfl, hown3, hb3⟩
        have hS3 := HS.out.below hb3
        have hR3 := HRS.out.below hb3
        have HP := hS3.push_any s3 ld _ dn hown3 HLD.out (by omega) (by omega) _ _ rfl rfl
        generalize hc : pushC ld = c at HP
        have hH := Lib.hid (⟨hown3, hR3⟩ : _ ∧ _)
        clear hb3 hS3 hown3 hR3
        go_wp2_with fail
        refine HP.mono ?_
        clear HP
        rintro e w4 ⟨rfl, hS4, hk4⟩
        have hown4 := hk4.2 _ _ _ _ _ _ (by decide) (by decide) hH.out.1
        have hR4 := hH.out.2.keeps hk4 hS4.bel
        have HQ := hR4.push_any s3 ld _ dn hown4 HLD.out (by omega) (by omega) c _ hc rfl
        have hcc : (c != c) = false := by simp
        have HS4 := Lib.hid hS4
        clear hk4 hown4 hH hS4 hc
        go_wp2_with fail
        refine HQ.mono ?_
        clear HQ
        rintro e w5 ⟨rfl, hR5, hk5⟩
        have hPR : Hid (PR w p q (k + 1) (pushL lv ld) w5) := PR.pushed hR4 HI.out hlv hcl (by rw [HLD.out]; exact hd4) HS4.out hR5 hk5
        clear hR4 HS4 hR5 hk5 HS HRS hcc
        generalize pushL lv ld = lv2 at hPR
        obtain ⟨wx, rfl⟩ : ∃ wx : World, wx = w5 := ⟨_, rfl⟩
        clear hlv hcl HLD HI hA hz hz5
        obtain ⟨hS2, hRS2, hI2, hlv2, hcl2⟩ := hPR.out
        have hl25 : lv2.length ≤ 26 := by omega
        have hc25 : countL lv2 ≤ 104 := by omega
        have HI2 := Lib.hid hI2
        have hQ0 : Hid (PQ w p q lv2 wx) := ⟨hS2, hRS2⟩
        have HB := Lib.hid (⟨hlv2, hcl2⟩ : lv2.length ≤ k + 1 ∧ countL lv2 ≤ 4 * (k + 1))
        clear hPR hS2 hRS2 hI2 hlv2 hcl2
        go_wp2_with fail
        obtain ⟨wo, rfl⟩ : ∃ wo : World, wo = wx := ⟨_, rfl⟩
        go_loopw [12] (fun x wz => ∃ j : Nat, j ≤ 6 ∧ x = .int .i64 j ∧ Hid (PQ w p q lv2 wz)) (fun x _ => 6 - (intOf x).toNat)
        case atStart => exact ⟨0, by omega, rfl, hQ0⟩
        case round =>
          obtain ⟨j, hj, rfl, hQ⟩ := hrel
          clear hQ0
          by_cases hj6 : j < 6
          · have hjz : (j : Int) < 6 := by omega
            have xP := idxP P0 j hj6
            have xU := idxU U0 j hj6
            generalize (P6 P0).getD j ⟨#[]⟩ = PJ at xP
            generalize (U6 U0).getD j ⟨#[]⟩ = UJ at xU
            go_upto_region 17 with fail
            go_cut [13, 14] from 88 to 97 (fun a c wy => a = .string PJ ∧ c = .string UJ ∧ Below wr.heap.size wr wy)
            case first =>
              go_region
              all_goals
                go_wp2
                go_meet
                exact ⟨rfl, rfl, (((Below.refl _ _).alloc (Nat.le_refl _) _).alloc (by simp) _).drew⟩
            case rest =>
              obtain ⟨rfl, rfl, hby⟩ := hcut
              obtain ⟨hS3, hR3⟩ := hQ.out
              replace hS3 := hS3.below hby
              replace hR3 := hR3.below hby
              clear hQ hby xP xU
              obtain ⟨a, b1, hab⟩ : ∃ a b, uriR lv2 PJ = (a, b) := ⟨_, _, rfl⟩
              obtain ⟨c, d1, hcd⟩ : ∃ c d, prefixU lv2 UJ = (c, d) := ⟨_, _, rfl⟩
              have HAB := Lib.hid hab
              have HCD := Lib.hid hcd
              clear hab hcd
              have ea : (a.toList != a.toList) = false := by simp
              have ec : (c.toList != c.toList) = false := by simp
              have hU1 := hS3.uri PJ (by omega) (by omega) a b1 HAB.out
              go_wp2_with fail
              refine hU1.mono ?_
              clear hU1
              rintro e w3 ⟨rfl, hb3⟩
              replace hS3 := hS3.below hb3
              replace hR3 := hR3.below hb3
              clear hb3
              have hU2 := hR3.uri HI2.out PJ (by omega) (by omega) a b1 HAB.out
              go_wp2_with fail
              refine hU2.mono ?_
              clear hU2
              rintro e w4 ⟨rfl, hb4⟩
              replace hS3 := hS3.below hb4
              replace hR3 := hR3.below hb4
              clear hb4
              have hU3 := hS3.prefixes UJ (by omega) (by omega) c d1 HCD.out
              go_wp2_with fail
              refine hU3.mono ?_
              clear hU3
              rintro e w5 ⟨rfl, hb5⟩
              replace hS3 := hS3.below hb5
              replace hR3 := hR3.below hb5
              clear hb5
              have hU4 := hR3.prefixes HI2.out UJ (by omega) (by omega) c d1 HCD.out
              go_wp2_with fail
              refine hU4.mono ?_
              clear hU4
              rintro e w6 ⟨rfl, hb6⟩
              have hQ6 : Hid (PQ w p q lv2 w6) := ⟨hS3.below hb6, hR3.below hb6⟩
              clear hb6 hS3 hR3 HAB HCD
              cases b1 <;> cases d1
              all_goals
                go_wp2_with fail
                go_roundw
                case rel => exact ⟨j + 1, by omega, by go_num, hQ6⟩
                case measure => simp [intOf]; omega
          · obtain rfl : j = 6 := by omega
            obtain ⟨hS3, hR3⟩ := hQ.out
            clear hQ
            obtain ⟨ln, hln⟩ : ∃ ln, lv2.length = ln := ⟨_, rfl⟩
            obtain ⟨N, hN⟩ : ∃ N, (allU lv2).length = N := ⟨_, rfl⟩
            have hN9 : N ≤ 105 := by rw [← hN]; have := allU_len lv2; omega
            have hqc : ∃ A7 c7, wr.cell? ⟨q, 0, none⟩ = some (.slice A7 ln c7) ∧ q < wr.heap.size := by
              obtain ⟨v, hv, _⟩ := hR3
              obtain ⟨A7, c7, rfl⟩ := hv.shape
              rw [hln] at hv
              exact ⟨A7, c7, cell_of hv.cells 0, hv.lt⟩
            obtain ⟨A7, c7, hq0, hqz⟩ := hqc
            have hb0 : Below wr.heap.size wr wr.drew := (Below.refl _ _).drew
            have hS3d := hS3.below hb0
            have hR3d := hR3.below hb0
            have HDEP := hS3d.depth
            have HALL := hS3d.all (by omega) (by omega) _ rfl
            rw [hln] at HDEP
            rw [hN] at HALL
            have HBND := fun (W : World) (hW : Below wr.drew.heap.size wr.drew W) => (hR3d.below hW).bound HI2.out (by omega) (by omega) _ rfl
            simp only [hN] at HBND
            have HSAME := fun (A A' : Option Addr) (cap cap' : Nat) (W : World) (h : CellsAt W A (allU lv2)) (h' : CellsAt W A' (allU lv2)) => same_any A A' cap cap' (allU lv2) W h h' (by omega)
            simp only [hN] at HSAME
            have HSM := Lib.hid HSAME
            have HBN := Lib.hid HBND
            have HNN := Lib.hid hN
            have HLN := Lib.hid hln
            have HQ3 := Lib.hid (⟨hS3d, hR3d⟩ : SS w wr.drew p lv2 ∧ RS w wr.drew q lv2)
            clear HSAME HBND hN hln hS3 hR3 hS3d hR3d hb0
            go_wp2_with fail
            go_region_with (first | (refine HDEP.mono ?_; rintro e w' ⟨rfl, rfl⟩) | (refine HALL.mono ?_; rintro e wA ⟨AA, cA, rfl, hoA, hbA⟩) | (refine (HBN.out _ hbA).mono ?_; rintro e wB ⟨AB, cB, rfl, hoB, hbB⟩; have hoA2 := own_kept_below hoA hbB) | (refine (HSM.out _ _ _ _ _ (cells_own hoA2 HNN.out) (cells_own hoB HNN.out)).mono ?_; rintro e wC ⟨rfl, hbC⟩; have HFIN : Hid (PR w p q (k + 1) lv2 wC) := PR.fin HQ3.out.1 HQ3.out.2 HI2.out HB.out.1 HB.out.2 hbA hbB hbC; clear hoA2 hoA hoB hbA hbB hbC))
            all_goals
              clear HDEP HALL
              go_wp2_with fail
              go_roundw
              case rel => exact ⟨k + 1, lv2, by omega, by go_num, HFIN⟩
              case measure => simp [intOf]; omega
      · by_cases hz5' : z = 5
        · clear HD
          have HP := HS.out.pop (by omega) _ _ rfl rfl
          generalize hc : popC lv = c at HP
          go_wp2_with fail
          refine HP.mono ?_
          clear HP
          rintro e w4 ⟨rfl, hS4, hk4⟩
          have hR4 := HRS.out.keeps hk4 hS4.bel
          have HQ := hR4.pop (by omega) c _ hc rfl
          have HS4 := Lib.hid hS4
          clear hk4 hS4 hc
          go_wp2_with fail
          refine HQ.mono ?_
          clear HQ
          rintro e w5 ⟨rfl, hR5, hk5⟩
          have hPR : Hid (PR w p q (k + 1) lv.dropLast w5) := PR.popped HI.out hlv hcl HS4.out hR5 hk5
          clear hR4 HS4 hR5 hk5 HS HRS
          generalize lv.dropLast = lv2 at hPR
          obtain ⟨wx, rfl⟩ : ∃ wx : World, wx = w5 := ⟨_, rfl⟩
          clear hlv hcl HLD HI hA hz hz5 hz5'
          cases c
          all_goals
            obtain ⟨hS2, hRS2, hI2, hlv2, hcl2⟩ := hPR.out
            have hl25 : lv2.length ≤ 26 := by omega
            have hc25 : countL lv2 ≤ 104 := by omega
            have HI2 := Lib.hid hI2
            have hQ0 : Hid (PQ w p q lv2 wx) := ⟨hS2, hRS2⟩
            have HB := Lib.hid (⟨hlv2, hcl2⟩ : lv2.length ≤ k + 1 ∧ countL lv2 ≤ 4 * (k + 1))
            clear hPR hS2 hRS2 hI2 hlv2 hcl2
            go_wp2_with fail
            obtain ⟨wo, rfl⟩ : ∃ wo : World, wo = wx := ⟨_, rfl⟩
            go_loopw [12] (fun x wz => ∃ j : Nat, j ≤ 6 ∧ x = .int .i64 j ∧ Hid (PQ w p q lv2 wz)) (fun x _ => 6 - (intOf x).toNat)
            case atStart => exact ⟨0, by omega, rfl, hQ0⟩
            case round =>
              obtain ⟨j, hj, rfl, hQ⟩ := hrel
              clear hQ0
              by_cases hj6 : j < 6
              · have hjz : (j : Int) < 6 := by omega
                have xP := idxP P0 j hj6
                have xU := idxU U0 j hj6
                generalize (P6 P0).getD j ⟨#[]⟩ = PJ at xP
                generalize (U6 U0).getD j ⟨#[]⟩ = UJ at xU
                go_upto_region 17 with fail
                go_cut [13, 14] from 88 to 97 (fun a c wy => a = .string PJ ∧ c = .string UJ ∧ Below wr.heap.size wr wy)
                case first =>
                  go_region
                  all_goals
                    go_wp2
                    go_meet
                    exact ⟨rfl, rfl, (((Below.refl _ _).alloc (Nat.le_refl _) _).alloc (by simp) _).drew⟩
                case rest =>
                  obtain ⟨rfl, rfl, hby⟩ := hcut
                  obtain ⟨hS3, hR3⟩ := hQ.out
                  replace hS3 := hS3.below hby
                  replace hR3 := hR3.below hby
                  clear hQ hby xP xU
                  obtain ⟨a, b1, hab⟩ : ∃ a b, uriR lv2 PJ = (a, b) := ⟨_, _, rfl⟩
                  obtain ⟨c, d1, hcd⟩ : ∃ c d, prefixU lv2 UJ = (c, d) := ⟨_, _, rfl⟩
                  have HAB := Lib.hid hab
                  have HCD := Lib.hid hcd
                  clear hab hcd
                  have ea : (a.toList != a.toList) = false := by simp
                  have ec : (c.toList != c.toList) = false := by simp
                  have hU1 := hS3.uri PJ (by omega) (by omega) a b1 HAB.out
                  go_wp2_with fail
                  refine hU1.mono ?_
                  clear hU1
                  rintro e w3 ⟨rfl, hb3⟩
                  replace hS3 := hS3.below hb3
                  replace hR3 := hR3.below hb3
                  clear hb3
                  have hU2 := hR3.uri HI2.out PJ (by omega) (by omega) a b1 HAB.out
                  go_wp2_with fail
                  refine hU2.mono ?_
                  clear hU2
                  rintro e w4 ⟨rfl, hb4⟩
                  replace hS3 := hS3.below hb4
                  replace hR3 := hR3.below hb4
                  clear hb4
                  have hU3 := hS3.prefixes UJ (by omega) (by omega) c d1 HCD.out
                  go_wp2_with fail
                  refine hU3.mono ?_
                  clear hU3
                  rintro e w5 ⟨rfl, hb5⟩
                  replace hS3 := hS3.below hb5
                  replace hR3 := hR3.below hb5
                  clear hb5
                  have hU4 := hR3.prefixes HI2.out UJ (by omega) (by omega) c d1 HCD.out
                  go_wp2_with fail
                  refine hU4.mono ?_
                  clear hU4
                  rintro e w6 ⟨rfl, hb6⟩
                  have hQ6 : Hid (PQ w p q lv2 w6) := ⟨hS3.below hb6, hR3.below hb6⟩
                  clear hb6 hS3 hR3 HAB HCD
                  cases b1 <;> cases d1
                  all_goals
                    go_wp2_with fail
                    go_roundw
                    case rel => exact ⟨j + 1, by omega, by go_num, hQ6⟩
                    case measure => simp [intOf]; omega
              · obtain rfl : j = 6 := by omega
                obtain ⟨hS3, hR3⟩ := hQ.out
                clear hQ
                obtain ⟨ln, hln⟩ : ∃ ln, lv2.length = ln := ⟨_, rfl⟩
                obtain ⟨N, hN⟩ : ∃ N, (allU lv2).length = N := ⟨_, rfl⟩
                have hN9 : N ≤ 105 := by rw [← hN]; have := allU_len lv2; omega
                have hqc : ∃ A7 c7, wr.cell? ⟨q, 0, none⟩ = some (.slice A7 ln c7) ∧ q < wr.heap.size := by
                  obtain ⟨v, hv, _⟩ := hR3
                  obtain ⟨A7, c7, rfl⟩ := hv.shape
                  rw [hln] at hv
                  exact ⟨A7, c7, cell_of hv.cells 0, hv.lt⟩
                obtain ⟨A7, c7, hq0, hqz⟩ := hqc
                have hb0 : Below wr.heap.size wr wr.drew := (Below.refl _ _).drew
                have hS3d := hS3.below hb0
                have hR3d := hR3.below hb0
                have HDEP := hS3d.depth
                have HALL := hS3d.all (by omega) (by omega) _ rfl
                rw [hln] at HDEP
                rw [hN] at HALL
                have HBND := fun (W : World) (hW : Below wr.drew.heap.size wr.drew W) => (hR3d.below hW).bound HI2.out (by omega) (by omega) _ rfl
                simp only [hN] at HBND
                have HSAME := fun (A A' : Option Addr) (cap cap' : Nat) (W : World) (h : CellsAt W A (allU lv2)) (h' : CellsAt W A' (allU lv2)) => same_any A A' cap cap' (allU lv2) W h h' (by omega)
                simp only [hN] at HSAME
                have HSM := Lib.hid HSAME
                have HBN := Lib.hid HBND
                have HNN := Lib.hid hN
                have HLN := Lib.hid hln
                have HQ3 := Lib.hid (⟨hS3d, hR3d⟩ : SS w wr.drew p lv2 ∧ RS w wr.drew q lv2)
                clear HSAME HBND hN hln hS3 hR3 hS3d hR3d hb0
                go_wp2_with fail
                go_region_with (first | (refine HDEP.mono ?_; rintro e w' ⟨rfl, rfl⟩) | (refine HALL.mono ?_; rintro e wA ⟨AA, cA, rfl, hoA, hbA⟩) | (refine (HBN.out _ hbA).mono ?_; rintro e wB ⟨AB, cB, rfl, hoB, hbB⟩; have hoA2 := own_kept_below hoA hbB) | (refine (HSM.out _ _ _ _ _ (cells_own hoA2 HNN.out) (cells_own hoB HNN.out)).mono ?_; rintro e wC ⟨rfl, hbC⟩; have HFIN : Hid (PR w p q (k + 1) lv2 wC) := PR.fin HQ3.out.1 HQ3.out.2 HI2.out HB.out.1 HB.out.2 hbA hbB hbC; clear hoA2 hoA hoB hbA hbB hbC))
                all_goals
                  clear HDEP HALL
                  go_wp2_with fail
                  go_roundw
                  case rel => exact ⟨k + 1, lv2, by omega, by go_num, HFIN⟩
                  case measure => simp [intOf]; omega
        · clear HD
          have hPR : Hid (PR w p q (k + 1) lv wr) := ⟨HS.out, HRS.out, HI.out, by omega, by omega⟩
          go_wp2_with fail
          obtain ⟨wx, hwx⟩ : ∃ wx : World, wx = wr := ⟨_, rfl⟩
          rw [← hwx] at hPR ⊢
          clear hwx
          obtain ⟨lv2, hlv2⟩ : ∃ l2, l2 = lv := ⟨_, rfl⟩
          rw [← hlv2] at hPR
          clear HS HRS hlv2 hlv hcl HLD HI hA hz hz5 hz5'
          obtain ⟨hS2, hRS2, hI2, hlv2, hcl2⟩ := hPR.out
          have hl25 : lv2.length ≤ 26 := by omega
          have hc25 : countL lv2 ≤ 104 := by omega
          have HI2 := Lib.hid hI2
          have hQ0 : Hid (PQ w p q lv2 wx) := ⟨hS2, hRS2⟩
          have HB := Lib.hid (⟨hlv2, hcl2⟩ : lv2.length ≤ k + 1 ∧ countL lv2 ≤ 4 * (k + 1))
          clear hPR hS2 hRS2 hI2 hlv2 hcl2
          go_wp2_with fail
          obtain ⟨wo, rfl⟩ : ∃ wo : World, wo = wx := ⟨_, rfl⟩
          go_loopw [12] (fun x wz => ∃ j : Nat, j ≤ 6 ∧ x = .int .i64 j ∧ Hid (PQ w p q lv2 wz)) (fun x _ => 6 - (intOf x).toNat)
          case atStart => exact ⟨0, by omega, rfl, hQ0⟩
          case round =>
            obtain ⟨j, hj, rfl, hQ⟩ := hrel
            clear hQ0
            by_cases hj6 : j < 6
            · have hjz : (j : Int) < 6 := by omega
              have xP := idxP P0 j hj6
              have xU := idxU U0 j hj6
              generalize (P6 P0).getD j ⟨#[]⟩ = PJ at xP
              generalize (U6 U0).getD j ⟨#[]⟩ = UJ at xU
              go_upto_region 17 with fail
              go_cut [13, 14] from 88 to 97 (fun a c wy => a = .string PJ ∧ c = .string UJ ∧ Below wr.heap.size wr wy)
              case first =>
                go_region
                all_goals
                  go_wp2
                  go_meet
                  exact ⟨rfl, rfl, (((Below.refl _ _).alloc (Nat.le_refl _) _).alloc (by simp) _).drew⟩
              case rest =>
                obtain ⟨rfl, rfl, hby⟩ := hcut
                obtain ⟨hS3, hR3⟩ := hQ.out
                replace hS3 := hS3.below hby
                replace hR3 := hR3.below hby
                clear hQ hby xP xU
                obtain ⟨a, b1, hab⟩ : ∃ a b, uriR lv2 PJ = (a, b) := ⟨_, _, rfl⟩
                obtain ⟨c, d1, hcd⟩ : ∃ c d, prefixU lv2 UJ = (c, d) := ⟨_, _, rfl⟩
                have HAB := Lib.hid hab
                have HCD := Lib.hid hcd
                clear hab hcd
                have ea : (a.toList != a.toList) = false := by simp
                have ec : (c.toList != c.toList) = false := by simp
                have hU1 := hS3.uri PJ (by omega) (by omega) a b1 HAB.out
                go_wp2_with fail
                refine hU1.mono ?_
                clear hU1
                rintro e w3 ⟨rfl, hb3⟩
                replace hS3 := hS3.below hb3
                replace hR3 := hR3.below hb3
                clear hb3
                have hU2 := hR3.uri HI2.out PJ (by omega) (by omega) a b1 HAB.out
                go_wp2_with fail
                refine hU2.mono ?_
                clear hU2
                rintro e w4 ⟨rfl, hb4⟩
                replace hS3 := hS3.below hb4
                replace hR3 := hR3.below hb4
                clear hb4
                have hU3 := hS3.prefixes UJ (by omega) (by omega) c d1 HCD.out
                go_wp2_with fail
                refine hU3.mono ?_
                clear hU3
                rintro e w5 ⟨rfl, hb5⟩
                replace hS3 := hS3.below hb5
                replace hR3 := hR3.below hb5
                clear hb5
                have hU4 := hR3.prefixes HI2.out UJ (by omega) (by omega) c d1 HCD.out
                go_wp2_with fail
                refine hU4.mono ?_
                clear hU4
                rintro e w6 ⟨rfl, hb6⟩
                have hQ6 : Hid (PQ w p q lv2 w6) := ⟨hS3.below hb6, hR3.below hb6⟩
                clear hb6 hS3 hR3 HAB HCD
                cases b1 <;> cases d1
                all_goals
                  go_wp2_with fail
                  go_roundw
                  case rel => exact ⟨j + 1, by omega, by go_num, hQ6⟩
                  case measure => simp [intOf]; omega
            · obtain rfl : j = 6 := by omega
              obtain ⟨hS3, hR3⟩ := hQ.out
              clear hQ
              obtain ⟨ln, hln⟩ : ∃ ln, lv2.length = ln := ⟨_, rfl⟩
              obtain ⟨N, hN⟩ : ∃ N, (allU lv2).length = N := ⟨_, rfl⟩
              have hN9 : N ≤ 105 := by rw [← hN]; have := allU_len lv2; omega
              have hqc : ∃ A7 c7, wr.cell? ⟨q, 0, none⟩ = some (.slice A7 ln c7) ∧ q < wr.heap.size := by
                obtain ⟨v, hv, _⟩ := hR3
                obtain ⟨A7, c7, rfl⟩ := hv.shape
                rw [hln] at hv
                exact ⟨A7, c7, cell_of hv.cells 0, hv.lt⟩
              obtain ⟨A7, c7, hq0, hqz⟩ := hqc
              have hb0 : Below wr.heap.size wr wr.drew := (Below.refl _ _).drew
              have hS3d := hS3.below hb0
              have hR3d := hR3.below hb0
              have HDEP := hS3d.depth
              have HALL := hS3d.all (by omega) (by omega) _ rfl
              rw [hln] at HDEP
              rw [hN] at HALL
              have HBND := fun (W : World) (hW : Below wr.drew.heap.size wr.drew W) => (hR3d.below hW).bound HI2.out (by omega) (by omega) _ rfl
              simp only [hN] at HBND
              have HSAME := fun (A A' : Option Addr) (cap cap' : Nat) (W : World) (h : CellsAt W A (allU lv2)) (h' : CellsAt W A' (allU lv2)) => same_any A A' cap cap' (allU lv2) W h h' (by omega)
              simp only [hN] at HSAME
              have HSM := Lib.hid HSAME
              have HBN := Lib.hid HBND
              have HNN := Lib.hid hN
              have HLN := Lib.hid hln
              have HQ3 := Lib.hid (⟨hS3d, hR3d⟩ : SS w wr.drew p lv2 ∧ RS w wr.drew q lv2)
              clear HSAME HBND hN hln hS3 hR3 hS3d hR3d hb0
              go_wp2_with fail
              go_region_with (first | (refine HDEP.mono ?_; rintro e w' ⟨rfl, rfl⟩) | (refine HALL.mono ?_; rintro e wA ⟨AA, cA, rfl, hoA, hbA⟩) | (refine (HBN.out _ hbA).mono ?_; rintro e wB ⟨AB, cB, rfl, hoB, hbB⟩; have hoA2 := own_kept_below hoA hbB) | (refine (HSM.out _ _ _ _ _ (cells_own hoA2 HNN.out) (cells_own hoB HNN.out)).mono ?_; rintro e wC ⟨rfl, hbC⟩; have HFIN : Hid (PR w p q (k + 1) lv2 wC) := PR.fin HQ3.out.1 HQ3.out.2 HI2.out HB.out.1 HB.out.2 hbA hbB hbC; clear hoA2 hoA hoB hbA hbB hbC))
              all_goals
                clear HDEP HALL
                go_wp2_with fail
                go_roundw
                case rel => exact ⟨k + 1, lv2, by omega, by go_num, HFIN⟩
                case measure => simp [intOf]; omega
    · obtain rfl : k = n := by omega
      have hS := hR.out.1
      clear hR hA
      go_wp2_with fail
      refine (told_calls _).mono ?_
      rintro e w4 ⟨rfl, hb⟩
      have hB := hS.bel.trans (hb.mono hS.bel.size)
      go_wp2_with fail
      go_ret
      exact ⟨rfl, hB⟩
end Go.Proofs.Ytfohbgcpdpnndaa.Sc
