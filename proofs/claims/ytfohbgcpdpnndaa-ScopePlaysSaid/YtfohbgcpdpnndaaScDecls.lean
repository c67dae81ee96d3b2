/- Decls: declarations of numbers. -/
import Derived.Test.YtfohbgcpdpnndaaScTold
import Derived.Deep.CutRange
namespace Go.Proofs.Ytfohbgcpdpnndaa.Sc
open Go.RowKit Go.Proofs.Ytfohbgcpdpnndaa.Ow
set_option linter.unusedVariables false
def N9 : List ByteArray := [⟨#[112]⟩, ⟨#[113]⟩, ⟨#[97]⟩, ⟨#[120, 109, 108]⟩, ⟨#[120, 109, 108, 110, 115]⟩, ⟨#[98]⟩, ⟨#[112]⟩, ⟨#[113]⟩, ⟨#[114]⟩]
def xmlS : ByteArray := ⟨#[104, 116, 116, 112, 58, 47, 47, 119, 119, 119, 46, 119, 51, 46, 111, 114, 103, 47, 88, 77, 76, 47, 49, 57, 57, 56, 47, 110, 97, 109, 101, 115, 112, 97, 99, 101]⟩
def V11 : List ByteArray := [⟨#[117]⟩, ⟨#[118]⟩, ⟨#[119]⟩, ⟨#[]⟩, xmlS, nsS, ⟨#[117]⟩, ⟨#[118]⟩, ⟨#[117]⟩, ⟨#[118]⟩, ⟨#[119]⟩]
def d5 (n : Nat) : Bool := n / 99 % 5 == 0
def d11 (n : Nat) : Bool := n / 99 % 11 == 1
def declN (n : Nat) : At :=
  ⟨if d5 n = true then ⟨#[]⟩ else xmlnsS, if d5 n = true then xmlnsS else N9.getD (n % 9) ⟨#[]⟩, if d11 n = true then ⟨#[]⟩ else nsS, V11.getD (n / 9 % 11) ⟨#[]⟩⟩
def declZ (z : Int) : At := declN (IntKind.u64.wrap z).toNat
def declsZ (zs : List Int) : List At := zs.map declZ
/-- The row of numbers that a slice shows. -/
def IntsAt (w : World) (A : Option Addr) (zs : List Int) : Prop := ∀ i, i < zs.length → ∃ b o, A = some ⟨b, o, none⟩ ∧ b < w.heap.size ∧ w.cell? ⟨b, o + i, none⟩ = some (.int .i64 (zs.getD i 0))
theorem IntsAt.below {w w' : World} {A : Option Addr} {zs : List Int} (h : IntsAt w A zs) (hb : Below w.heap.size w w') : IntsAt w' A zs := by
  intro i hi
  obtain ⟨b, o, h1, h2, h3⟩ := h i hi
  exact ⟨b, o, h1, Nat.lt_of_lt_of_le h2 hb.size, (hb.cell (p := ⟨b, o + i, none⟩) h2).trans h3⟩
theorem idx9 (i : Nat) (h : i < 9) : ([Value.string ⟨#[112]⟩, .string ⟨#[113]⟩, .string ⟨#[97]⟩, .string ⟨#[120, 109, 108]⟩, .string ⟨#[120, 109, 108, 110, 115]⟩, .string ⟨#[98]⟩, .string ⟨#[112]⟩, .string ⟨#[113]⟩, .string ⟨#[114]⟩] : List Value)[i]'h = .string (N9.getD i ⟨#[]⟩) := by
  match i, h with
  | 0, _ | 1, _ | 2, _ | 3, _ | 4, _ | 5, _ | 6, _ | 7, _ | 8, _ => rfl
theorem idx11 (i : Nat) (h : i < 11) : ([Value.string ⟨#[117]⟩, .string ⟨#[118]⟩, .string ⟨#[119]⟩, .string ⟨#[]⟩, .string ⟨#[104, 116, 116, 112, 58, 47, 47, 119, 119, 119, 46, 119, 51, 46, 111, 114, 103, 47, 88, 77, 76, 47, 49, 57, 57, 56, 47, 110, 97, 109, 101, 115, 112, 97, 99, 101]⟩, .string ⟨#[104, 116, 116, 112, 58, 47, 47, 119, 119, 119, 46, 119, 51, 46, 111, 114, 103, 47, 50, 48, 48, 48, 47, 120, 109, 108, 110, 115, 47]⟩, .string ⟨#[117]⟩, .string ⟨#[118]⟩, .string ⟨#[117]⟩, .string ⟨#[118]⟩, .string ⟨#[119]⟩] : List Value)[i]'h = .string (V11.getD i ⟨#[]⟩) := by
  match i, h with
  | 0, _ | 1, _ | 2, _ | 3, _ | 4, _ | 5, _ | 6, _ | 7, _ | 8, _ | 9, _ | 10, _ => rfl
theorem u64_nat (z : Int) : ∃ n : Nat, IntKind.u64.wrap z = (n : Int) ∧ n < 18446744073709551616 ∧ (IntKind.u64.wrap z).toNat = n := by
  have hw : 0 ≤ IntKind.u64.wrap z := by unfold IntKind.wrap; simp [IntKind.bits, IntKind.signed]; omega
  have hl : IntKind.u64.wrap z < 18446744073709551616 := by unfold IntKind.wrap; simp [IntKind.bits, IntKind.signed]; omega
  exact ⟨(IntKind.u64.wrap z).toNat, by omega, by omega, rfl⟩
theorem box3_0 {W : World} {a b c : Obj} : (((W.alloc a).alloc b).alloc c).drew.heap[W.heap.size]? = some a := by
  show (((W.heap.push a).push b).push c)[W.heap.size]? = _
  rw [Array.getElem?_push, if_neg (by simp only [Array.size_push]; omega), Array.getElem?_push, if_neg (by simp), Array.getElem?_push, if_pos rfl]
theorem box3_1 {W : World} {a b c : Obj} : (((W.alloc a).alloc b).alloc c).drew.heap[W.heap.size + 1]? = some b := by
  show (((W.heap.push a).push b).push c)[W.heap.size + 1]? = _
  rw [Array.getElem?_push, if_neg (by simp), Array.getElem?_push, if_pos (by simp)]
theorem box3_2 {W : World} {a b c : Obj} : (((W.alloc a).alloc b).alloc c).drew.heap[W.heap.size + 1 + 1]? = some c := by
  show (((W.heap.push a).push b).push c)[W.heap.size + 1 + 1]? = _
  rw [Array.getElem?_push, if_pos (by simp)]
def DeclsR (w : World) (zs : List Int) (k : Nat) (s : Value) (wr : World) : Prop :=
  Below w.heap.size w wr ∧ wr.ownsRow w.heap.size 35 4 s k (cellsA (declsZ (zs.take k)))
set_option maxRecDepth 100000 in
set_option maxHeartbeats 4000000 in
theorem decls_any (A : Option Addr) (cap : Nat) (zs : List Int) (n most : Nat) (w : World) (hn : zs.length = n) (hI : IntsAt w A zs) (hl : n ≤ maxLen) (hm : most ≤ 10) :
    Calls Try.prog 10 #[.slice A n cap, .int .i64 most] w fun e w' => ∃ s, e = .returned s ∧ w'.ownsRow w.heap.size 35 4 s (zs.take most).length (cellsA (declsZ (zs.take most))) ∧ Below w.heap.size w w' := by
  have HN := Lib.hid hn
  clear hn
  unfold maxLen at hl
  obtain ⟨i1, hj, hy0, hy1, hy2⟩ := info_parts infoA
  go_enter Try.func10, Try.ntmps10
  go_wp2_with fail
  go_loopw [5, 6] (fun s x wr => ∃ k : Nat, k ≤ n ∧ k ≤ most ∧ x = .int .i64 k ∧ Hid (DeclsR w zs k s wr)) (fun _ x _ => n - (intOf x).toNat)
  case atStart => exact ⟨0, by omega, by omega, rfl, Below.refl _ _, World.ownsRow_nil _ _ _ _⟩
  case round =>
    obtain ⟨k, hk, hk2, rfl, hR⟩ := hrel
    by_cases hlt : k < n
    · by_cases hlm : k < most
      · have hkz : k < zs.length := by rw [HN.out]; exact hlt
        obtain ⟨z, hz⟩ : ∃ z, zs.getD k 0 = z := ⟨_, rfl⟩
        obtain ⟨hB, hout⟩ := hR.out
        obtain ⟨b, o, rfl, hb1, hc⟩ := (hI.below hB) k hkz
        rw [hz] at hc
        obtain ⟨m, hm0, hm1, hm2⟩ := u64_nat z
        obtain ⟨i, hi⟩ : ∃ i, m % 9 = i := ⟨_, rfl⟩
        obtain ⟨q, hq⟩ : ∃ q, m / 9 = q := ⟨_, rfl⟩
        obtain ⟨j, hj⟩ : ∃ j, q % 11 = j := ⟨_, rfl⟩
        obtain ⟨q9, hq9⟩ : ∃ q9, m / 99 = q9 := ⟨_, rfl⟩
        have hi9 : i < 9 := by omega
        have hj11 : j < 11 := by omega
        have t1 : (m : Int).tmod 9 = (i : Int) := by subst hi; rfl
        have t2 : (m : Int).tdiv 9 = (q : Int) := by subst hq; rfl
        have t3 : (q : Int).tmod 11 = (j : Int) := by subst hj; rfl
        have z9 : (i : Int) < 9 := by omega
        have z11 : (j : Int) < 11 := by omega
        have hwq : IntKind.u64.wrap (q : Int) = (q : Int) := by unfold IntKind.wrap; simp [IntKind.bits, IntKind.signed]; omega
        have hwq9 : IntKind.u64.wrap (q9 : Int) = (q9 : Int) := by unfold IntKind.wrap; simp [IntKind.bits, IntKind.signed]; omega
        have t4 : (m : Int).tdiv 99 = (q9 : Int) := by subst hq9; rfl
        have x9 := idx9 i hi9
        have x11 := idx11 j hj11
        dsimp only at x11
        have D : Hid (declZ z = ⟨if d5 m = true then ⟨#[]⟩ else xmlnsS, if d5 m = true then xmlnsS else N9.getD i ⟨#[]⟩, if d11 m = true then ⟨#[]⟩ else nsS, V11.getD j ⟨#[]⟩⟩) := by
          show _ = _; unfold declZ; rw [hm2]; subst hj; subst hq; subst hi; rfl
        generalize N9.getD i ⟨#[]⟩ = L at x9 D
        generalize V11.getD j ⟨#[]⟩ = V at x11 D
        have HZ := Lib.hid hz
        have HM := Lib.hid hm2
        have H1 := Lib.hid hi; have H2 := Lib.hid hq; have H3 := Lib.hid hj; have H4 := Lib.hid hq9
        clear hz hm2 hi hq hj hq9
        go_upto_region 6 with fail
        go_cut [8] from 25 to 36 (fun p wx => ∃ g, p = .pointer (some ⟨g, 0, none⟩) ∧ wr.heap.size ≤ g ∧ wx.heap[g]? = some (.cells #[.string xmlnsS, .string L, .string nsS, .string V] 35) ∧ Below wr.heap.size wr wx)
        case first =>
          go_region
          all_goals
            go_wp2
            go_meet
            refine ⟨_, rfl, ?_, ?_, ((((Below.refl _ _).alloc (Nat.le_refl _) _).alloc (by simp) _).alloc (by simp; omega) _).drew⟩
            · omega
            · first | exact box3_0 | exact box3_1 | exact box3_2
        case rest =>
          obtain ⟨g, rfl, hg, hgc, hbx⟩ := hcut
          have hgl := (Array.getElem?_eq_some_iff.1 hgc).1
          have k0 : wc.cell? ⟨g, 0, none⟩ = some (.string xmlnsS) := cell_of hgc 0
          have k1 : wc.cell? ⟨g, 1, none⟩ = some (.string L) := cell_of hgc 1
          have k2 : wc.cell? ⟨g, 2, none⟩ = some (.string nsS) := cell_of hgc 2
          have k3 : wc.cell? ⟨g, 3, none⟩ = some (.string V) := cell_of hgc 3
          have f0 := frozen_of hgc 0
          have f1 := frozen_of hgc 1
          have f2 := frozen_of hgc 2
          have f3 := frozen_of hgc 3
          have hout2 := own_kept_below hout hbx
          have hB2 := hB.trans (hbx.mono hB.size)
          have hBs := hB.size
          have hgn : u5.ownBlock ≠ some g := fun e => by have := (hout.lt g e).2; omega
          have hlx : wr.heap.size ≤ wc.heap.size := hbx.size
          have HC := Lib.hid hc
          have hnext : Hid ((zs.take (k + 1)) = zs.take k ++ [z]) := by
            show _ = _
            rw [List.take_succ_eq_append_getElem hkz, ← HZ.out]; simp [List.getD, hkz]
          have hk10 : k < 10 := by omega
          obtain ⟨r5, hr5⟩ : ∃ r5, q9 % 5 = r5 := ⟨_, rfl⟩
          obtain ⟨r11, hr11⟩ : ∃ r11, q9 % 11 = r11 := ⟨_, rfl⟩
          have t5 : (q9 : Int).tmod 5 = (r5 : Int) := by subst hr5; rfl
          have t6 : (q9 : Int).tmod 11 = (r11 : Int) := by subst hr11; rfl
          have e5 : d5 m = (r5 == 0) := by unfold d5; rw [H4.out, hr5]
          have e11 : d11 m = (r11 == 1) := by unfold d11; rw [H4.out, hr11]
          clear hc hgc hr5 hr11 hR hbx hout hB x9 x11 t1 t2 t3
          have DD : Hid (cellsA [declZ z] = [.string (if (r5 == 0) = true then ⟨#[]⟩ else xmlnsS), .string (if (r5 == 0) = true then xmlnsS else L), .string (if (r11 == 1) = true then ⟨#[]⟩ else nsS), .string V]) := by
            show _ = _
            rw [D.out, e5, e11]; rfl
          clear e5 e11 D
          by_cases h5 : r5 = 0
          · subst h5
            by_cases h11 : r11 = 1
            · subst h11
              have hcb := cells_block (((wc.setCell ⟨g, 0, none⟩ (.string ⟨#[]⟩)).setCell ⟨g, 1, none⟩ (.string ⟨#[120, 109, 108, 110, 115]⟩)).setCell ⟨g, 2, none⟩ (.string ⟨#[]⟩)) #[.string ⟨#[]⟩, .string ⟨#[120, 109, 108, 110, 115]⟩, .string ⟨#[]⟩, .string V] 35
              have HO : ((((wc.setCell ⟨g, 0, none⟩ (.string ⟨#[]⟩)).setCell ⟨g, 1, none⟩ (.string ⟨#[120, 109, 108, 110, 115]⟩)).setCell ⟨g, 2, none⟩ (.string ⟨#[]⟩)).alloc (.cells #[.string ⟨#[]⟩, .string ⟨#[120, 109, 108, 110, 115]⟩, .string ⟨#[]⟩, .string V] 35)).ownsRow w.heap.size 35 4 u5 k (cellsA (declsZ (zs.take k))) := World.ownsRow.alloc (own_setCell (own_setCell (own_setCell hout2 hgn) hgn) hgn) _
              have HW : Below w.heap.size w ((((wc.setCell ⟨g, 0, none⟩ (.string ⟨#[]⟩)).setCell ⟨g, 1, none⟩ (.string ⟨#[120, 109, 108, 110, 115]⟩)).setCell ⟨g, 2, none⟩ (.string ⟨#[]⟩)).alloc (.cells #[.string ⟨#[]⟩, .string ⟨#[120, 109, 108, 110, 115]⟩, .string ⟨#[]⟩, .string V] 35)) := (((hB2.setCell (by simp; omega) _).setCell (by simp; omega) _).setCell (by simp; omega) _).alloc (by first | omega | (simp; omega)) _
              have hcb2 := Lib.hid hcb
              have HO2 := Lib.hid HO
              have HW2 := Lib.hid HW
              clear hcb HO HW hout2 hB2
              go_wp2_with (at_builtin; refine wpList_append_own _ rfl (.tmp 48) (.tmp 50) 26 rfl w.heap.size 35 i1 (.agg #[.string ⟨#[]⟩, .string ⟨#[]⟩, .string ⟨#[]⟩, .string ⟨#[]⟩]) 4 64 Try.underlying26 hj hy0 hy1 hy2 rfl (by decide) u5 k (cellsA (declsZ (zs.take k))) rfl HO2.out ⟨wc.heap.size, 0, none⟩ 1 1 [.string ⟨#[]⟩, .string ⟨#[120, 109, 108, 110, 115]⟩, .string ⟨#[]⟩, .string V] rfl rfl (by simpa using hcb2.out) (by intro u hu; simp at hu; rcases hu with rfl | rfl | rfl | rfl <;> rfl) (by unfold maxLen; omega) (by omega) (by simp; omega) ?_; intro v' w5 hown5 hgrow _; obtain ⟨g', cap', rfl⟩ := own_shape3 hown5)
              go_roundw
              case rel =>
                refine ⟨k + 1, by omega, by omega, by go_num, HW2.out.grown hgrow (by simp; omega) (fun k hk => (HO2.out.lt k hk).1), ?_⟩
                unfold declsZ
                rw [hnext.out, List.map_append, cellsA_app]
                show World.ownsRow _ _ _ _ _ _ (_ ++ cellsA [declZ z])
                rw [DD.out]
                simp only [beq_self_eq_true, if_true]
                exact hown5
              case measure => simp [intOf]; omega
            · have hb11 : ((r11 : Int) == 1) = false := by rw [beq_eq_false_iff_ne]; omega
              have n11 : (r11 == 1) = false := by rw [beq_eq_false_iff_ne]; omega
              have hcb := cells_block ((wc.setCell ⟨g, 0, none⟩ (.string ⟨#[]⟩)).setCell ⟨g, 1, none⟩ (.string ⟨#[120, 109, 108, 110, 115]⟩)) #[.string ⟨#[]⟩, .string ⟨#[120, 109, 108, 110, 115]⟩, .string ⟨#[104, 116, 116, 112, 58, 47, 47, 119, 119, 119, 46, 119, 51, 46, 111, 114, 103, 47, 50, 48, 48, 48, 47, 120, 109, 108, 110, 115, 47]⟩, .string V] 35
              have HO : (((wc.setCell ⟨g, 0, none⟩ (.string ⟨#[]⟩)).setCell ⟨g, 1, none⟩ (.string ⟨#[120, 109, 108, 110, 115]⟩)).alloc (.cells #[.string ⟨#[]⟩, .string ⟨#[120, 109, 108, 110, 115]⟩, .string ⟨#[104, 116, 116, 112, 58, 47, 47, 119, 119, 119, 46, 119, 51, 46, 111, 114, 103, 47, 50, 48, 48, 48, 47, 120, 109, 108, 110, 115, 47]⟩, .string V] 35)).ownsRow w.heap.size 35 4 u5 k (cellsA (declsZ (zs.take k))) := World.ownsRow.alloc (own_setCell (own_setCell hout2 hgn) hgn) _
              have HW : Below w.heap.size w (((wc.setCell ⟨g, 0, none⟩ (.string ⟨#[]⟩)).setCell ⟨g, 1, none⟩ (.string ⟨#[120, 109, 108, 110, 115]⟩)).alloc (.cells #[.string ⟨#[]⟩, .string ⟨#[120, 109, 108, 110, 115]⟩, .string ⟨#[104, 116, 116, 112, 58, 47, 47, 119, 119, 119, 46, 119, 51, 46, 111, 114, 103, 47, 50, 48, 48, 48, 47, 120, 109, 108, 110, 115, 47]⟩, .string V] 35)) := ((hB2.setCell (by simp; omega) _).setCell (by simp; omega) _).alloc (by first | omega | (simp; omega)) _
              have hcb2 := Lib.hid hcb
              have HO2 := Lib.hid HO
              have HW2 := Lib.hid HW
              clear hcb HO HW hout2 hB2
              go_wp2_with (at_builtin; refine wpList_append_own _ rfl (.tmp 48) (.tmp 50) 26 rfl w.heap.size 35 i1 (.agg #[.string ⟨#[]⟩, .string ⟨#[]⟩, .string ⟨#[]⟩, .string ⟨#[]⟩]) 4 64 Try.underlying26 hj hy0 hy1 hy2 rfl (by decide) u5 k (cellsA (declsZ (zs.take k))) rfl HO2.out ⟨wc.heap.size, 0, none⟩ 1 1 [.string ⟨#[]⟩, .string ⟨#[120, 109, 108, 110, 115]⟩, .string ⟨#[104, 116, 116, 112, 58, 47, 47, 119, 119, 119, 46, 119, 51, 46, 111, 114, 103, 47, 50, 48, 48, 48, 47, 120, 109, 108, 110, 115, 47]⟩, .string V] rfl rfl (by simpa using hcb2.out) (by intro u hu; simp at hu; rcases hu with rfl | rfl | rfl | rfl <;> rfl) (by unfold maxLen; omega) (by omega) (by simp; omega) ?_; intro v' w5 hown5 hgrow _; obtain ⟨g', cap', rfl⟩ := own_shape3 hown5)
              go_roundw
              case rel =>
                refine ⟨k + 1, by omega, by omega, by go_num, HW2.out.grown hgrow (by simp; omega) (fun k hk => (HO2.out.lt k hk).1), ?_⟩
                unfold declsZ
                rw [hnext.out, List.map_append, cellsA_app]
                show World.ownsRow _ _ _ _ _ _ (_ ++ cellsA [declZ z])
                rw [DD.out]
                simp only [beq_self_eq_true, if_true, n11, if_false, Bool.false_eq_true]
                exact hown5
              case measure => simp [intOf]; omega
          · have hb5 : ((r5 : Int) == 0) = false := by rw [beq_eq_false_iff_ne]; omega
            have n5 : (r5 == 0) = false := by rw [beq_eq_false_iff_ne]; omega
            by_cases h11 : r11 = 1
            · subst h11
              have hcb := cells_block (wc.setCell ⟨g, 2, none⟩ (.string ⟨#[]⟩)) #[.string ⟨#[120, 109, 108, 110, 115]⟩, .string L, .string ⟨#[]⟩, .string V] 35
              have HO : ((wc.setCell ⟨g, 2, none⟩ (.string ⟨#[]⟩)).alloc (.cells #[.string ⟨#[120, 109, 108, 110, 115]⟩, .string L, .string ⟨#[]⟩, .string V] 35)).ownsRow w.heap.size 35 4 u5 k (cellsA (declsZ (zs.take k))) := World.ownsRow.alloc (own_setCell hout2 hgn) _
              have HW : Below w.heap.size w ((wc.setCell ⟨g, 2, none⟩ (.string ⟨#[]⟩)).alloc (.cells #[.string ⟨#[120, 109, 108, 110, 115]⟩, .string L, .string ⟨#[]⟩, .string V] 35)) := (hB2.setCell (by simp; omega) _).alloc (by first | omega | (simp; omega)) _
              have hcb2 := Lib.hid hcb
              have HO2 := Lib.hid HO
              have HW2 := Lib.hid HW
              clear hcb HO HW hout2 hB2
              go_wp2_with (at_builtin; refine wpList_append_own _ rfl (.tmp 48) (.tmp 50) 26 rfl w.heap.size 35 i1 (.agg #[.string ⟨#[]⟩, .string ⟨#[]⟩, .string ⟨#[]⟩, .string ⟨#[]⟩]) 4 64 Try.underlying26 hj hy0 hy1 hy2 rfl (by decide) u5 k (cellsA (declsZ (zs.take k))) rfl HO2.out ⟨wc.heap.size, 0, none⟩ 1 1 [.string ⟨#[120, 109, 108, 110, 115]⟩, .string L, .string ⟨#[]⟩, .string V] rfl rfl (by simpa using hcb2.out) (by intro u hu; simp at hu; rcases hu with rfl | rfl | rfl | rfl <;> rfl) (by unfold maxLen; omega) (by omega) (by simp; omega) ?_; intro v' w5 hown5 hgrow _; obtain ⟨g', cap', rfl⟩ := own_shape3 hown5)
              go_roundw
              case rel =>
                refine ⟨k + 1, by omega, by omega, by go_num, HW2.out.grown hgrow (by simp; omega) (fun k hk => (HO2.out.lt k hk).1), ?_⟩
                unfold declsZ
                rw [hnext.out, List.map_append, cellsA_app]
                show World.ownsRow _ _ _ _ _ _ (_ ++ cellsA [declZ z])
                rw [DD.out]
                simp only [beq_self_eq_true, if_true, n5, if_false, Bool.false_eq_true]
                exact hown5
              case measure => simp [intOf]; omega
            · have hb11 : ((r11 : Int) == 1) = false := by rw [beq_eq_false_iff_ne]; omega
              have n11 : (r11 == 1) = false := by rw [beq_eq_false_iff_ne]; omega
              have hcb := cells_block wc #[.string ⟨#[120, 109, 108, 110, 115]⟩, .string L, .string ⟨#[104, 116, 116, 112, 58, 47, 47, 119, 119, 119, 46, 119, 51, 46, 111, 114, 103, 47, 50, 48, 48, 48, 47, 120, 109, 108, 110, 115, 47]⟩, .string V] 35
              have HO : (wc.alloc (.cells #[.string ⟨#[120, 109, 108, 110, 115]⟩, .string L, .string ⟨#[104, 116, 116, 112, 58, 47, 47, 119, 119, 119, 46, 119, 51, 46, 111, 114, 103, 47, 50, 48, 48, 48, 47, 120, 109, 108, 110, 115, 47]⟩, .string V] 35)).ownsRow w.heap.size 35 4 u5 k (cellsA (declsZ (zs.take k))) := World.ownsRow.alloc hout2 _
              have HW : Below w.heap.size w (wc.alloc (.cells #[.string ⟨#[120, 109, 108, 110, 115]⟩, .string L, .string ⟨#[104, 116, 116, 112, 58, 47, 47, 119, 119, 119, 46, 119, 51, 46, 111, 114, 103, 47, 50, 48, 48, 48, 47, 120, 109, 108, 110, 115, 47]⟩, .string V] 35)) := hB2.alloc (by first | omega | (simp; omega)) _
              have hcb2 := Lib.hid hcb
              have HO2 := Lib.hid HO
              have HW2 := Lib.hid HW
              clear hcb HO HW hout2 hB2
              go_wp2_with (at_builtin; refine wpList_append_own _ rfl (.tmp 48) (.tmp 50) 26 rfl w.heap.size 35 i1 (.agg #[.string ⟨#[]⟩, .string ⟨#[]⟩, .string ⟨#[]⟩, .string ⟨#[]⟩]) 4 64 Try.underlying26 hj hy0 hy1 hy2 rfl (by decide) u5 k (cellsA (declsZ (zs.take k))) rfl HO2.out ⟨wc.heap.size, 0, none⟩ 1 1 [.string ⟨#[120, 109, 108, 110, 115]⟩, .string L, .string ⟨#[104, 116, 116, 112, 58, 47, 47, 119, 119, 119, 46, 119, 51, 46, 111, 114, 103, 47, 50, 48, 48, 48, 47, 120, 109, 108, 110, 115, 47]⟩, .string V] rfl rfl (by simpa using hcb2.out) (by intro u hu; simp at hu; rcases hu with rfl | rfl | rfl | rfl <;> rfl) (by unfold maxLen; omega) (by omega) (by simp; omega) ?_; intro v' w5 hown5 hgrow _; obtain ⟨g', cap', rfl⟩ := own_shape3 hown5)
              go_roundw
              case rel =>
                refine ⟨k + 1, by omega, by omega, by go_num, HW2.out.grown hgrow (by simp; omega) (fun k hk => (HO2.out.lt k hk).1), ?_⟩
                unfold declsZ
                rw [hnext.out, List.map_append, cellsA_app]
                show World.ownsRow _ _ _ _ _ _ (_ ++ cellsA [declZ z])
                rw [DD.out]
                simp only [n5, n11, if_false, Bool.false_eq_true]
                exact hown5
              case measure => simp [intOf]; omega
      · obtain rfl : k = most := by omega
        have hR2 := hR.out
        clear hR
        go_wp2_with fail
        go_ret
        obtain ⟨hB, hout⟩ := hR2
        have hlen : (zs.take k).length = k := by rw [List.length_take, HN.out]; omega
        exact ⟨_, rfl, by rw [hlen]; exact hout, hB⟩
    · obtain rfl : k = n := by omega
      have hR2 := hR.out
      clear hR
      have hle : zs.take most = zs.take k := by rw [List.take_of_length_le (by rw [HN.out]; omega), List.take_of_length_le (by rw [HN.out]; omega)]
      have hlen : (zs.take k).length = k := by rw [List.length_take, HN.out]; omega
      have HL := Lib.hid hlen
      have HE := Lib.hid hle
      clear hle hlen
      go_wp2_with fail
      go_ret
      obtain ⟨hB, hout⟩ := hR2
      exact ⟨_, rfl, by rw [HE.out, HL.out]; exact hout, hB⟩
end Go.Proofs.Ytfohbgcpdpnndaa.Sc
