/- The walk of ScopeLevels. -/
import Derived.Test.YtfohbgcpdpnndaaScDecls
import Derived.Test.YtfohbgcpdpnndaaScRules
namespace Go.Proofs.Ytfohbgcpdpnndaa.Sc
open Go.RowKit Go.Proofs.Ytfohbgcpdpnndaa.Ow
set_option linter.unusedVariables false
/-- The steps that the argument shows. -/
def OpsAt (w : World) (A : Option Addr) (L : List (Int × List Int)) : Prop := ∀ i, i < L.length → ∃ b o, A = some ⟨b, o, none⟩ ∧ b < w.heap.size ∧ w.cell? ⟨b, o + i * 2, none⟩ = some (.int .i64 (L.getD i (0, [])).1) ∧
  ∃ A' n c, w.cell? ⟨b, o + i * 2 + 1, none⟩ = some (.slice A' n c) ∧ (L.getD i (0, [])).2.length = n ∧ n ≤ maxLen ∧ IntsAt w A' (L.getD i (0, [])).2
theorem OpsAt.below {w w' : World} {A : Option Addr} {L : List (Int × List Int)} (h : OpsAt w A L) (hb : Below w.heap.size w w') : OpsAt w' A L := by
  intro i hi
  obtain ⟨b, o, h1, h2, h3, A', n, c, h4, h5, h6, h7⟩ := h i hi
  exact ⟨b, o, h1, Nat.lt_of_lt_of_le h2 hb.size, (hb.cell (p := ⟨b, o + i * 2, none⟩) h2).trans h3, A', n, c, (hb.cell (p := ⟨b, o + i * 2 + 1, none⟩) h2).trans h4, h5, h6, h7.below hb⟩
def noneS : ByteArray := ⟨#[110, 111, 110, 101]⟩
def uS (lv : List (List At)) (P : ByteArray) : ByteArray := if (uriR lv P).2 = true then (uriR lv P).1 else noneS
def wasL (lv : List (List At)) (P : ByteArray) : List ByteArray := (List.range lv.length).map fun j => uS (lv.take j) P
theorem wasL_snoc (lv : List (List At)) (m : List At) (P : ByteArray) : wasL (lv ++ [m]) P = wasL lv P ++ [uS lv P] := by
  unfold wasL
  rw [List.length_append, List.length_singleton, List.range_succ, List.map_append]
  congr 1
  · apply List.map_congr_left
    intro j hj
    rw [List.take_append_of_le_length (by have := List.mem_range.1 hj; omega)]
  · simp
theorem wasL_len (lv : List (List At)) (P : ByteArray) : (wasL lv P).length = lv.length := by simp [wasL]
theorem wasL_at (lv : List (List At)) (P : ByteArray) (j : Nat) (h : j < lv.length) : (wasL lv P)[j]? = some (uS (lv.take j) P) := by simp [wasL, h]
theorem pushG_len : ∀ (l m m' : List At), pushG m l = some m' → m'.length ≤ m.length + l.length
  | [], m, m', h => by simp [pushG] at h; subst h; simp
  | a :: l, m, m', h => by
    unfold pushG at h
    split at h
    · split at h
      · cases h
      · have := pushG_len l _ _ h; simp at this ⊢; omega
    · have := pushG_len l _ _ h; simp at this ⊢; omega
theorem declsZ_len (zs : List Int) : (declsZ zs).length = zs.length := by simp [declsZ]
theorem countL_snoc (lv : List (List At)) (m : List At) : countL (lv ++ [m]) = countL lv + m.length := by simp [countL]
/-- Push, whatever it is given. -/
theorem SS.push_any {w0 w : World} {p : Nat} {lv : List (List At)} (h : SS w0 w p lv) (s : Value) (l : List At) (B n : Nat) (hs : w.ownsRow B 35 4 s n (cellsA l)) (hn : l.length = n) (hl : n ≤ 1000) (hlv : lv.length ≤ 1000) (c : Int) (lv' : List (List At)) (hc : pushC l = c) (hlv' : pushL lv l = lv') :
    Calls Try.prog 9 #[.pointer (some ⟨p, 0, none⟩), s] w fun e w' => e = .returned (.int .i64 c) ∧ SS w0 w' p lv' ∧ Keeps w w' := by
  obtain ⟨A, cap, rfl, hC, -⟩ := cellsAt_of_own hs hn
  exact h.push A cap l hC n hn hl hlv _ _ hc hlv'
theorem SS.uri_any {w0 w : World} {p : Nat} {lv : List (List At)} (h : SS w0 w p lv) (pre : ByteArray) (hlv : lv.length ≤ 1000) (hc : countL lv ≤ 100000) :
    Calls Try.prog 13 #[.pointer (some ⟨p, 0, none⟩), .string pre] w fun e w' => e = .returned (.tuple #[.string (uriR lv pre).1, .bool (uriR lv pre).2]) ∧ Below w.heap.size w w' :=
  h.uri pre hlv hc _ _ rfl
/-- A row that grows takes nothing of a Scope. -/
theorem SS.grown {w0 w w1 : World} {p : Nat} {lv : List (List At)} {B : Nat} {T : TypeId} {v : Value} {n : Nat} {xs : List Value} (h : SS w0 w p lv) (ho : w.ownsRow B T 1 v n xs) (hg : w.grownBy w1 v.ownBlock) (hB : w0.heap.size ≤ B) (t1 : 53 ≠ T) (t2 : T ≠ 20) (t3 : T ≠ 35) : SS w0 w1 p lv := by
  obtain ⟨v0, ⟨hc, ss, q1, q2, q3⟩, h2, h3, h4⟩ := h
  have hp : p < w.heap.size := (Array.getElem?_eq_some_iff.1 hc).1
  exact ⟨v0, ⟨(hg.block p hp (fun e => own_ne ho hc t1 e.symm)).trans hc, ss, q1, q2.kept hg (own_two q2 ho t2), fun i hi => (q3 i hi).kept hg (own_two (q3 i hi) ho t3)⟩, h2.grown hg h2.size (fun k hk => Nat.le_trans hB (ho.lt k hk).1), h3, h4⟩
def LvR (w : World) (p : Nat) (P : ByteArray) (k : Nat) (lv : List (List At)) (s : Value) (wr : World) : Prop :=
  SS w wr p lv ∧ lv.length ≤ k ∧ countL lv ≤ 3 * k ∧ wr.ownsRow w.heap.size 9 1 s lv.length ((wasL lv P).map Value.string)
theorem idx5 (i : Nat) (h : i < 5) : ∃ P : ByteArray, ([.string ⟨#[]⟩, .string ⟨#[112]⟩, .string ⟨#[113]⟩, .string ⟨#[97]⟩, .string ⟨#[98]⟩] : List Value)[i]'h = .string P := by
  match i, h with
  | 0, _ | 1, _ | 2, _ | 3, _ | 4, _ => exact ⟨_, rfl⟩
set_option maxRecDepth 100000 in
set_option maxHeartbeats 8000000 in
theorem levels_walk (A : Option Addr) (cap : Nat) (L : List (Int × List Int)) (n : Nat) (which : Int) (w : World) (hn : L.length = n) (hA : OpsAt w A L) (hl : n ≤ maxLen) (w1 : (Lit.int .i64 which).wf = true) :
    Calls Try.prog 5 #[.slice A n cap, .int .i64 which] w fun e w' => e = .returned (.bool true) ∧ Below w.heap.size w w' := by
  have HN := Lib.hid hn
  clear hn
  unfold maxLen at hl
  obtain ⟨r, hr5, hr⟩ := rem_cases which 5 (by decide)
  obtain ⟨P, hP⟩ := idx5 r hr5
  have hrz : (r : Int) < 5 := by omega
  have HP := Lib.hid hP
  clear hP
  go_enter Try.func5, Try.ntmps5
  go_wp2_with fail
  refine (SS.new _).mono ?_
  rintro e w1 ⟨p, rfl, hS⟩
  have hP := HP.out
  have hr' : (IntKind.u64.wrap which).tmod 5 = (r : Int) := hr
  obtain ⟨i0, hi, hz0, hz1, hz2⟩ := info_parts infoS
  clear hr HP
  go_wp2_with fail
  have hS0 := hS.below ((Below.refl _ _).alloc (Nat.le_refl _) (.cells #[.string ⟨#[]⟩, .string ⟨#[112]⟩, .string ⟨#[113]⟩, .string ⟨#[97]⟩, .string ⟨#[98]⟩] 9))
  clear hS hP hr'
  go_loopw [7, 8, 9] (fun s xn x wr => ∃ (k c : Nat) (lv : List (List At)), k ≤ n ∧ k ≤ 8 ∧ c ≤ k ∧ x = .int .i64 k ∧ xn = .int .i64 c ∧ Hid (LvR w p P k lv s wr)) (fun _ _ x _ => n - (intOf x).toNat)
  case atStart => exact ⟨0, 0, [], by omega, by omega, by omega, rfl, rfl, hS0, by simp, by simp [countL], World.ownsRow_nil _ _ _ _⟩
  case round =>
    obtain ⟨k, c, lv, hk, hk8, hck, rfl, rfl, hR⟩ := hrel
    clear hS0
    by_cases hlt : k < n ∧ k < 8
    · obtain ⟨hltn, hlt8⟩ := hlt
      obtain ⟨hS, hlv, hcl, hwas⟩ := hR.out
      have hkL : k < L.length := by rw [HN.out]; exact hltn
      have HU := hS.uri_any P (by omega) (by omega)
      obtain ⟨ln, hln⟩ : ∃ ln, lv.length = ln := ⟨_, rfl⟩
      rw [hln] at hwas hlv
      have HLN := Lib.hid hln
      have hlnv : lv.length ≤ k := by omega
      have HS := Lib.hid hS
      have HW := Lib.hid hwas
      clear hS hR hwas
      generalize hUU : uriR lv P = U at HU
      obtain ⟨u, ub⟩ := U
      simp only at HU
      have HUU := Lib.hid hUU
      clear hUU
      go_wp2_with fail
      refine HU.mono ?_
      clear HU
      rintro e w2 ⟨rfl, hb2⟩
      have hS2 := Lib.hid (HS.out.below hb2)
      have hw2 := Lib.hid (own_kept_below HW.out hb2)
      obtain ⟨b, o, hA0, hbl, _, A', n', c', hcell, hn', hnm, hI⟩ := (hA.below hS2.out.bel) k hkL
      subst hA0
      obtain ⟨ld, hld⟩ : ∃ ld, declsZ ((L.getD k (0, [])).2.take 3) = ld := ⟨_, rfl⟩
      have HD := decls_any A' c' _ n' 3 w2 hn' hI hnm (by omega)
      rw [hld] at HD
      obtain ⟨dn, hdn⟩ : ∃ dn, ((L.getD k (0, [])).2.take 3).length = dn := ⟨_, rfl⟩
      rw [hdn, show ((3 : Nat) : Int) = 3 from rfl] at HD
      have HLD : Hid (ld.length = dn) := by show _ = _; rw [← hld, declsZ_len, hdn]
      have hd3 : dn ≤ 3 := by rw [← hdn, List.length_take]; omega
      have hcl8 : countL lv ≤ 24 := by omega
      clear hld hdn hn' hI HS HW hln
      cases ub with
      | true =>
        go_wp2_with fail
        refine HD.mono ?_
        clear HD
        rintro e w3 ⟨s3, rfl, hown3, hb3⟩
        have hS3 := (hS2.out).below hb3
        have hw3 := own_kept_below hw2.out hb3
        have sz2 := hS2.out.bel.size
        cases hp : pushG [] ld with
        | none =>
          have HP := hS3.push_any s3 ld _ dn hown3 HLD.out (by omega) (by omega) 2 lv (by unfold pushC; rw [hp]) (by unfold pushL; rw [hp])
          clear hp hown3
          go_wp2_with fail
          refine HP.mono ?_
          rintro e w4 ⟨rfl, hS4, hk4⟩
          have hw4 := hk4.2 _ _ _ _ _ _ (by decide) (by decide) hw3
          clear hk4 hw3 HP
          go_wp2_with fail
          go_roundw
          case rel => exact ⟨k + 1, c, lv, by omega, by omega, by omega, by go_num, by go_num, hS4, by omega, by omega, by rw [HLN.out]; exact hw4⟩
          case measure => simp [intOf]; omega
        | some m =>
          have hml := pushG_len _ _ _ hp
          have HP := hS3.push_any s3 ld _ dn hown3 HLD.out (by omega) (by omega) 0 (lv ++ [m]) (by unfold pushC; rw [hp]) (by unfold pushL; rw [hp])
          have hm3 : m.length ≤ 3 := by have := HLD.out; simp at hml; omega
          clear hp hown3 hml
          go_wp2_with fail
          refine HP.mono ?_
          rintro e w4 ⟨rfl, hS4, hk4⟩
          have hw4 := hk4.2 _ _ _ _ _ _ (by decide) (by decide) hw3
          have sz4 := hS4.bel.size
          clear hk4 hw3 HP
          have hsn : Hid (wasL (lv ++ [m]) P = wasL lv P ++ [u]) := by show _ = _; rw [wasL_snoc]; unfold uS; rw [HUU.out, if_pos rfl]
          go_wp2_with (at_builtin; refine wpList_append_own _ rfl (.tmp 51) (.tmp 53) 37 rfl w.heap.size 9 i0 (.string ⟨#[]⟩) 1 16 Try.underlying37 hi hz0 hz1 hz2 rfl (by decide) u7 ln ((wasL lv P).map Value.string) rfl (hw4.alloc _) ⟨w4.heap.size, 0, none⟩ 1 1 [.string u] rfl rfl (cells_block _ _ _) (by intro u hu; simp at hu; subst hu; rfl) (by unfold maxLen; omega) (by omega) (by simp; omega) ?_; intro v' w5 hown5 hgrow _; obtain ⟨g', cap', rfl⟩ := own_shape3 hown5)
          go_roundw
          case rel =>
            refine ⟨k + 1, c + 1, lv ++ [m], by omega, by omega, by omega, by go_num, by go_num, (hS4.alloc _).grown (hw4.alloc _) hgrow (Nat.le_refl _) (by decide) (by decide) (by decide), by simp; omega, by rw [countL_snoc]; omega, ?_⟩
            rw [hsn.out, len_snoc, List.map_append, HLN.out]
            exact hown5
          case measure => simp [intOf]; omega
      | false =>
        go_wp2_with fail
        refine HD.mono ?_
        clear HD
        rintro e w3 ⟨s3, rfl, hown3, hb3⟩
        have hS3 := (hS2.out).below hb3
        have hw3 := own_kept_below hw2.out hb3
        have sz2 := hS2.out.bel.size
        cases hp : pushG [] ld with
        | none =>
          have HP := hS3.push_any s3 ld _ dn hown3 HLD.out (by omega) (by omega) 2 lv (by unfold pushC; rw [hp]) (by unfold pushL; rw [hp])
          clear hp hown3
          go_wp2_with fail
          refine HP.mono ?_
          rintro e w4 ⟨rfl, hS4, hk4⟩
          have hw4 := hk4.2 _ _ _ _ _ _ (by decide) (by decide) hw3
          clear hk4 hw3 HP
          go_wp2_with fail
          go_roundw
          case rel => exact ⟨k + 1, c, lv, by omega, by omega, by omega, by go_num, by go_num, hS4, by omega, by omega, by rw [HLN.out]; exact hw4⟩
          case measure => simp [intOf]; omega
        | some m =>
          have hml := pushG_len _ _ _ hp
          have HP := hS3.push_any s3 ld _ dn hown3 HLD.out (by omega) (by omega) 0 (lv ++ [m]) (by unfold pushC; rw [hp]) (by unfold pushL; rw [hp])
          have hm3 : m.length ≤ 3 := by have := HLD.out; simp at hml; omega
          clear hp hown3 hml
          go_wp2_with fail
          refine HP.mono ?_
          rintro e w4 ⟨rfl, hS4, hk4⟩
          have hw4 := hk4.2 _ _ _ _ _ _ (by decide) (by decide) hw3
          have sz4 := hS4.bel.size
          clear hk4 hw3 HP
          have hsn : Hid (wasL (lv ++ [m]) P = wasL lv P ++ [noneS]) := by show _ = _; rw [wasL_snoc]; unfold uS; rw [HUU.out, if_neg (by simp)]
          go_wp2_with (at_builtin; refine wpList_append_own _ rfl (.tmp 51) (.tmp 53) 37 rfl w.heap.size 9 i0 (.string ⟨#[]⟩) 1 16 Try.underlying37 hi hz0 hz1 hz2 rfl (by decide) u7 ln ((wasL lv P).map Value.string) rfl (hw4.alloc _) ⟨w4.heap.size, 0, none⟩ 1 1 [.string noneS] rfl rfl (cells_block _ _ _) (by intro u hu; simp at hu; subst hu; rfl) (by unfold maxLen; omega) (by omega) (by simp; omega) ?_; intro v' w5 hown5 hgrow _; obtain ⟨g', cap', rfl⟩ := own_shape3 hown5)
          go_roundw
          case rel =>
            refine ⟨k + 1, c + 1, lv ++ [m], by omega, by omega, by omega, by go_num, by go_num, (hS4.alloc _).grown (hw4.alloc _) hgrow (Nat.le_refl _) (by decide) (by decide) (by decide), by simp; omega, by rw [countL_snoc]; omega, ?_⟩
            rw [hsn.out, len_snoc, List.map_append, HLN.out]
            exact hown5
          case measure => simp [intOf]; omega
    · by_cases hkn : k < n
      · obtain rfl : k = 8 := by omega
        clear hA
        obtain ⟨hS, hlv, hcl, hwas⟩ := hR.out
        obtain ⟨ln, hln⟩ : ∃ ln, lv.length = ln := ⟨_, rfl⟩
        have hlnv : lv.length ≤ 8 := by omega
        have hcl8 : countL lv ≤ 24 := by omega
        have htk : lv.take ln = lv := by rw [← hln, List.take_length]
        rw [hln] at hwas hlv
        obtain ⟨A7, c7, rfl⟩ : ∃ A7 c7, u7 = .slice A7 ln c7 := by
          rcases hwas.2 with ⟨rfl, rfl⟩ | ⟨g, cap, _, rfl, _⟩
          · exact ⟨none, 0, rfl⟩
          · exact ⟨_, _, rfl⟩
        have HR2 : Hid (SS w wr p (lv.take ln) ∧ wr.ownsRow w.heap.size 9 1 (.slice A7 ln c7) ln ((wasL lv P).map Value.string)) := ⟨by rw [htk]; exact hS, hwas⟩
        have HLN := Lib.hid hln
        clear hln htk hS hwas hR
        go_wp2_with fail
        go_loopw [12] (fun x wz => ∃ (j : Nat) (z : Int), j ≤ ln ∧ z = (j : Int) - 1 ∧ x = .int .i64 z ∧ Hid (SS w wz p (lv.take j) ∧ wz.ownsRow w.heap.size 9 1 (.slice A7 ln c7) ln ((wasL lv P).map Value.string))) (fun x _ => (intOf x + 1).toNat)
        case atStart => exact ⟨ln, _, Nat.le_refl _, rfl, by go_num, HR2⟩
        case round =>
          obtain ⟨j, z, hj, hz, rfl, hR3⟩ := hrel
          clear HR2
          cases j with
          | zero =>
            obtain rfl : z = -1 := by omega
            have hS0 : SS w _ p [] := hR3.out.1
            clear hR3 hz
            go_wp2_with fail
            refine (told_calls _).mono ?_
            rintro e w4 ⟨rfl, hb⟩
            replace hS0 := hS0.below hb
            clear hb
            go_wp2_with fail
            refine hS0.depth.mono ?_
            rintro e w' ⟨rfl, rfl⟩
            go_wp2_with fail
            refine (hS0.all (by decide) (by decide) [⟨⟨#[120, 109, 108, 110, 115]⟩, ⟨#[120, 109, 108]⟩, ⟨#[104, 116, 116, 112, 58, 47, 47, 119, 119, 119, 46, 119, 51, 46, 111, 114, 103, 47, 50, 48, 48, 48, 47, 120, 109, 108, 110, 115, 47]⟩, ⟨#[104, 116, 116, 112, 58, 47, 47, 119, 119, 119, 46, 119, 51, 46, 111, 114, 103, 47, 88, 77, 76, 47, 49, 57, 57, 56, 47, 110, 97, 109, 101, 115, 112, 97, 99, 101]⟩⟩] (by decide +kernel)).mono ?_
            rintro e w5 ⟨A5, c5, rfl, -, hb⟩
            have hB := hS0.bel.trans (hb.mono hS0.bel.size)
            clear hb hS0
            go_wp2_with fail
            go_ret
            exact ⟨rfl, hB⟩
          | succ i =>
            obtain rfl : z = (i : Int) := by omega
            clear hz
            have hil : i < lv.length := by rw [HLN.out]; omega
            obtain ⟨hS, hw⟩ := hR3.out
            have hlen : (lv.take (i + 1)).length = i + 1 := by rw [List.length_take]; omega
            have hdl : (lv.take (i + 1)).dropLast = lv.take i := by rw [List.take_succ_eq_append_getElem hil, List.dropLast_concat]
            have HDp := hS.depth
            have HPop := hS.pop (by omega) true (lv.take i) (by unfold popC; cases h : lv.take (i + 1) with | nil => rw [h] at hlen; cases hlen | cons _ _ => rfl) hdl
            rw [hlen, show ((i + 1 : Nat) : Int) = (i : Int) + 1 from rfl] at HDp
            obtain ⟨g, rfl⟩ : ∃ g, A7 = some ⟨g, 0, none⟩ := by
              rcases hw.2 with ⟨h, h0⟩ | ⟨g, cap, _, h, _⟩
              · omega
              · simp only [Value.slice.injEq] at h; exact ⟨g, h.1⟩
            have hi8 : i < 8 := by omega
            have HW := Lib.hid hw
            clear hR3 hS hlen hdl hw
            go_wp2_with fail
            refine HDp.mono ?_
            rintro e w' ⟨rfl, rfl⟩
            clear HDp
            go_wp2_with fail
            refine HPop.mono ?_
            clear HPop
            rintro e w2 ⟨rfl, hS2, hk2⟩
            have hw2 := hk2.2 _ _ _ _ _ _ (by decide) (by decide) HW.out
            have HU := hS2.uri_any P (by rw [List.length_take]; omega) (by have := count_take lv i; omega)
            clear hk2 HW
            generalize hUU : uriR (lv.take i) P = U at HU
            obtain ⟨u, ub⟩ := U
            simp only at HU
            have HUU := Lib.hid hUU
            clear hUU
            go_wp2_with fail
            refine HU.mono ?_
            clear HU
            rintro e w3 ⟨rfl, hb3⟩
            have hS3 := hS2.below hb3
            have hw3 := own_kept_below hw2 hb3
            have hcw : w3.cell? ⟨g, i, none⟩ = some (.string (uS (lv.take i) P)) := by
              have := hw3.cells (g := g) rfl i (.string (uS (lv.take i) P)) (by rw [List.getElem?_map, wasL_at lv P i hil]; rfl)
              have ha : (⟨g, 0, none⟩ : Addr).add i = ⟨g, i, none⟩ := by unfold Addr.add; split <;> simp_all
              rw [ha] at this
              exact this
            have hgz := (hw3.lt g rfl).2
            clear hb3 hw2 hS2
            cases ub with
            | true =>
              have hb : (u.toList == u.toList) = true := by simp
              have hb2 : (u.toList != u.toList) = false := by simp
              have HCELL : Hid (uS (lv.take i) P = u) := by show _ = _; unfold uS; rw [HUU.out, if_pos rfl]; 
              rw [HCELL.out] at hcw
              go_wp2_with fail
              go_roundw
              case rel => exact ⟨i, (i : Int) - 1, by omega, rfl, by go_num, hS3, hw3⟩
              case measure => simp [intOf] <;> omega
            | false =>
              have HCELL : Hid (uS (lv.take i) P = ⟨#[110, 111, 110, 101]⟩) := by show _ = _; unfold uS; rw [HUU.out, if_neg (by simp)]; rfl
              rw [HCELL.out] at hcw
              go_wp2_with fail
              go_roundw
              case rel => exact ⟨i, (i : Int) - 1, by omega, rfl, by go_num, hS3, hw3⟩
              case measure => simp [intOf] <;> omega
      · obtain rfl : k = n := by omega
        clear hA
        obtain ⟨hS, hlv, hcl, hwas⟩ := hR.out
        obtain ⟨ln, hln⟩ : ∃ ln, lv.length = ln := ⟨_, rfl⟩
        have hlnv : lv.length ≤ 8 := by omega
        have hcl8 : countL lv ≤ 24 := by omega
        have htk : lv.take ln = lv := by rw [← hln, List.take_length]
        rw [hln] at hwas hlv
        obtain ⟨A7, c7, rfl⟩ : ∃ A7 c7, u7 = .slice A7 ln c7 := by
          rcases hwas.2 with ⟨rfl, rfl⟩ | ⟨g, cap, _, rfl, _⟩
          · exact ⟨none, 0, rfl⟩
          · exact ⟨_, _, rfl⟩
        have HR2 : Hid (SS w wr p (lv.take ln) ∧ wr.ownsRow w.heap.size 9 1 (.slice A7 ln c7) ln ((wasL lv P).map Value.string)) := ⟨by rw [htk]; exact hS, hwas⟩
        have HLN := Lib.hid hln
        clear hln htk hS hwas hR
        go_wp2_with fail
        go_loopw [12] (fun x wz => ∃ (j : Nat) (z : Int), j ≤ ln ∧ z = (j : Int) - 1 ∧ x = .int .i64 z ∧ Hid (SS w wz p (lv.take j) ∧ wz.ownsRow w.heap.size 9 1 (.slice A7 ln c7) ln ((wasL lv P).map Value.string))) (fun x _ => (intOf x + 1).toNat)
        case atStart => exact ⟨ln, _, Nat.le_refl _, rfl, by go_num, HR2⟩
        case round =>
          obtain ⟨j, z, hj, hz, rfl, hR3⟩ := hrel
          clear HR2
          cases j with
          | zero =>
            obtain rfl : z = -1 := by omega
            have hS0 : SS w _ p [] := hR3.out.1
            clear hR3 hz
            go_wp2_with fail
            refine (told_calls _).mono ?_
            rintro e w4 ⟨rfl, hb⟩
            replace hS0 := hS0.below hb
            clear hb
            go_wp2_with fail
            refine hS0.depth.mono ?_
            rintro e w' ⟨rfl, rfl⟩
            go_wp2_with fail
            refine (hS0.all (by decide) (by decide) [⟨⟨#[120, 109, 108, 110, 115]⟩, ⟨#[120, 109, 108]⟩, ⟨#[104, 116, 116, 112, 58, 47, 47, 119, 119, 119, 46, 119, 51, 46, 111, 114, 103, 47, 50, 48, 48, 48, 47, 120, 109, 108, 110, 115, 47]⟩, ⟨#[104, 116, 116, 112, 58, 47, 47, 119, 119, 119, 46, 119, 51, 46, 111, 114, 103, 47, 88, 77, 76, 47, 49, 57, 57, 56, 47, 110, 97, 109, 101, 115, 112, 97, 99, 101]⟩⟩] (by decide +kernel)).mono ?_
            rintro e w5 ⟨A5, c5, rfl, -, hb⟩
            have hB := hS0.bel.trans (hb.mono hS0.bel.size)
            clear hb hS0
            go_wp2_with fail
            go_ret
            exact ⟨rfl, hB⟩
          | succ i =>
            obtain rfl : z = (i : Int) := by omega
            clear hz
            have hil : i < lv.length := by rw [HLN.out]; omega
            obtain ⟨hS, hw⟩ := hR3.out
            have hlen : (lv.take (i + 1)).length = i + 1 := by rw [List.length_take]; omega
            have hdl : (lv.take (i + 1)).dropLast = lv.take i := by rw [List.take_succ_eq_append_getElem hil, List.dropLast_concat]
            have HDp := hS.depth
            have HPop := hS.pop (by omega) true (lv.take i) (by unfold popC; cases h : lv.take (i + 1) with | nil => rw [h] at hlen; cases hlen | cons _ _ => rfl) hdl
            rw [hlen, show ((i + 1 : Nat) : Int) = (i : Int) + 1 from rfl] at HDp
            obtain ⟨g, rfl⟩ : ∃ g, A7 = some ⟨g, 0, none⟩ := by
              rcases hw.2 with ⟨h, h0⟩ | ⟨g, cap, _, h, _⟩
              · omega
              · simp only [Value.slice.injEq] at h; exact ⟨g, h.1⟩
            have hi8 : i < 8 := by omega
            have HW := Lib.hid hw
            clear hR3 hS hlen hdl hw
            go_wp2_with fail
            refine HDp.mono ?_
            rintro e w' ⟨rfl, rfl⟩
            clear HDp
            go_wp2_with fail
            refine HPop.mono ?_
            clear HPop
            rintro e w2 ⟨rfl, hS2, hk2⟩
            have hw2 := hk2.2 _ _ _ _ _ _ (by decide) (by decide) HW.out
            have HU := hS2.uri_any P (by rw [List.length_take]; omega) (by have := count_take lv i; omega)
            clear hk2 HW
            generalize hUU : uriR (lv.take i) P = U at HU
            obtain ⟨u, ub⟩ := U
            simp only at HU
            have HUU := Lib.hid hUU
            clear hUU
            go_wp2_with fail
            refine HU.mono ?_
            clear HU
            rintro e w3 ⟨rfl, hb3⟩
            have hS3 := hS2.below hb3
            have hw3 := own_kept_below hw2 hb3
            have hcw : w3.cell? ⟨g, i, none⟩ = some (.string (uS (lv.take i) P)) := by
              have := hw3.cells (g := g) rfl i (.string (uS (lv.take i) P)) (by rw [List.getElem?_map, wasL_at lv P i hil]; rfl)
              have ha : (⟨g, 0, none⟩ : Addr).add i = ⟨g, i, none⟩ := by unfold Addr.add; split <;> simp_all
              rw [ha] at this
              exact this
            have hgz := (hw3.lt g rfl).2
            clear hb3 hw2 hS2
            cases ub with
            | true =>
              have hb : (u.toList == u.toList) = true := by simp
              have hb2 : (u.toList != u.toList) = false := by simp
              have HCELL : Hid (uS (lv.take i) P = u) := by show _ = _; unfold uS; rw [HUU.out, if_pos rfl]; 
              rw [HCELL.out] at hcw
              go_wp2_with fail
              go_roundw
              case rel => exact ⟨i, (i : Int) - 1, by omega, rfl, by go_num, hS3, hw3⟩
              case measure => simp [intOf] <;> omega
            | false =>
              have HCELL : Hid (uS (lv.take i) P = ⟨#[110, 111, 110, 101]⟩) := by show _ = _; unfold uS; rw [HUU.out, if_neg (by simp)]; rfl
              rw [HCELL.out] at hcw
              go_wp2_with fail
              go_roundw
              case rel => exact ⟨i, (i : Int) - 1, by omega, rfl, by go_num, hS3, hw3⟩
              case measure => simp [intOf] <;> omega
end Go.Proofs.Ytfohbgcpdpnndaa.Sc
