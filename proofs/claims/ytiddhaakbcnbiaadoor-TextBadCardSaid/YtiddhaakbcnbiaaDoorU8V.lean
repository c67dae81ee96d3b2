/- utf8.Valid over bytes in cells: 'Lib.validD' of them. -/
import Derived.Test.YtiddhaakbcnbiaaDoorU8W
namespace Go.Proofs.YtiddhaakbcnbiaaDoor.U8
open Go.RowKit Go.Lib Go.Shelf Go.Proofs.YtiddhaakbcnbiaaDoorW.PrintWords Go.Proofs.YtiddhaakbcnbiaaDoor.Giv
set_option linter.unusedVariables false

theorem word_at (A : Option Addr) (t : ByteArray) (w : World) (hs : 8 ≤ t.size) (hA : At w A t) :
    Calls Tryd.prog 58 #[.slice A t.size t.size] w fun e w' => e = .returned (.int .u64 (Lib.leNat [t.get! 0, t.get! 1, t.get! 2, t.get! 3, t.get! 4, t.get! 5, t.get! 6, t.get! 7])) ∧ ∃ q, w' = w.drewN q := by
  obtain ⟨b, off, sp, rfl⟩ := hA.some_ (by omega)
  exact word_bytes b off sp _ _ t w hs rfl hA
/-- One word: its number, its call at every world of the same cells, its mask. -/
theorem word_mask (A : Option Addr) (t : ByteArray) (w : World) (hs : 8 ≤ t.size) (hA : At w A t) : ∃ X : Nat, X < 18446744073709551616 ∧
    (∀ W : World, W.heap = w.heap → Calls Tryd.prog 58 #[.slice A t.size t.size] W fun e w' => e = .returned (.int .u64 (X : Int)) ∧ ∃ q, w' = W.drewN q) ∧
    (∀ n : Nat, Calls Tryd.prog 58 #[.slice A t.size t.size] (w.drewN n) fun e w' => e = .returned (.int .u64 (X : Int)) ∧ ∃ q, w' = (w.drewN n).drewN q) ∧
    (X &&& 9259542123273814144 = 0 → Lib.Asc t 8) :=
  ⟨_, Lib.word_lt t, fun W hW => word_at A t W hs (hA.heap hW), fun n => word_at A t (w.drewN n) hs (hA.heap rfl), (Lib.word_asc t hs).1⟩
theorem cell_alloc_old {W : World} {a : Addr} {v : Value} (o : Obj) (h : W.cell? a = some v) : (W.alloc o).cell? a = some v := (World.cell?_alloc_lt _ _ _ (World.block_lt_of_cell? W a h)).trans h
theorem int_ne {Z : Nat} (h : ¬ Z = 0) : ((Z : Int) == 0) = false := by simp; omega
theorem bool_of {p q : Prop} [Decidable p] [Decidable q] (h : p ↔ q) : Value.bool (decide p) = Value.bool (decide q) := by rw [decide_eq_decide.2 h]

set_option maxHeartbeats 16000000 in
set_option maxRecDepth 1000000 in
theorem valid_at (A0 : Option Addr) (s : ByteArray) (n c : Nat) (w : World) (hn : n = s.size) (hs : s.size ≤ 9223372036854775807) (hc : n ≤ c) (hA0 : At w A0 s) (hT : Lib.Utf8Tabs 0 1 w) :
    Calls Tryd.prog 50 #[.slice A0 n c] w fun e w' => e = .returned (.bool (Lib.validD s.data.toList)) ∧ Below w.heap.size w w' := by
  have mixed : Tryd.prog.follows .mixedOrders = true := by kernel_rfl
  obtain ⟨ANS, hANS⟩ : ∃ ANS, Lib.validD s.data.toList = ANS := ⟨_, rfl⟩
  rw [hANS]
  subst hn
  go_enter Tryd.func50, Tryd.ntmps50
  go_wp2
  go_loopg [0] (s.size + 1) (fun gk s0 wx => Below w.heap.size w wx ∧ ∃ (A : Option Addr) (t : ByteArray), s0 = .slice A t.size t.size ∧ At w A t ∧ Lib.validD t.data.toList = ANS ∧ t.size < gk ∧ t.size ≤ 9223372036854775807)
  case atStart => exact ⟨Below.refl _ _, A0, s, rfl, hA0, hANS, by omega, hs⟩
  case round =>
    obtain ⟨hbw, A, t, rfl, hAw, hv, hg, hts⟩ := hrel
    clear hANS hA0 hc
    have hA := hAw.below hbw
    have hTr := Utf8Tabs_below hT hbw
    by_cases h0 : 0 < t.size
    · obtain ⟨g', rfl⟩ : ∃ g', gk = g' + 1 := ⟨gk - 1, by omega⟩
      have h0z : (0 : Int) < (t.size : Int) := by omega
      obtain ⟨b, off, sp, rfl⟩ := hA.some_ h0
      obtain ⟨x0, hx0⟩ : ∃ x0, t.get! 0 = x0 := ⟨_, rfl⟩
      have c0 : wr.cell? ⟨b, off, sp⟩ = some (.int .u8 (x0.toNat : Int)) := by rw [← hx0]; exact hA.zero h0
      have hx0lt : x0.toNat < 256 := x0.toNat_lt
      by_cases hasc : x0.toNat < 128
      · as_aux_lemma =>
        have hascz : (x0.toNat : Int) < 128 := by omega
        have a1 : Lib.Asc t 1 := Lib.asc_one t h0 (by rw [hx0]; exact hasc)
        obtain ⟨t1, ht1⟩ : ∃ t1, t.extract 1 t.size = t1 := ⟨_, rfl⟩
        have z1 : t1.size + 1 = t.size := by rw [← ht1, Lib.ext_size]; omega
        obtain ⟨A1, cut1, hA1⟩ := At.cut (some ⟨b, off, sp⟩) t t1 1 1 rfl (by omega) ht1
        have hA1w := hA1 _ hAw
        have v1 : Lib.validD t1.data.toList = ANS := by rw [← ht1, Lib.valid_skip t 1 a1]; exact hv
        clear hTr hT hv a1 hA1 ht1
        by_cases c8 : 8 < t1.size
        · have c8z : (8 : Int) < (t1.size : Int) := by omega
          obtain ⟨X1, lX1, cW1, _, kX1⟩ := word_mask A1 t1 wr (by omega) (hA1w.below hbw)
          have hand1 : bits .and .u64 (X1 : Int) 9259542123273814144 = ((X1 &&& 9259542123273814144 : Nat) : Int) := u64_and_nat X1 9259542123273814144 lX1 (by omega)
          obtain ⟨Z1, hZ1⟩ : ∃ Z1, X1 &&& 9259542123273814144 = Z1 := ⟨_, rfl⟩
          rw [hZ1] at hand1 kX1
          by_cases hz1 : Z1 = 0
          · have hz1b : ((Z1 : Int) == 0) = true := by simp [hz1]
            have a8 : Lib.Asc t1 8 := kX1 hz1
            obtain ⟨t2, ht2⟩ : ∃ t2, t1.extract 8 t1.size = t2 := ⟨_, rfl⟩
            have z2 : t2.size + 8 = t1.size := by rw [← ht2, Lib.ext_size]; omega
            obtain ⟨A2, cut2, hA2⟩ := At.cut A1 t1 t2 8 8 rfl (by omega) ht2
            have hA2w := hA2 _ hA1w
            have v2 : Lib.validD t2.data.toList = ANS := by rw [← ht2, Lib.valid_skip t1 8 a8]; exact v1
            clear kX1 a8 v1 hA2 ht2
            go_wp2_with (go_at_call 58; go_must (refine (cW1 _ (by rfl)).mono ?_; rintro e W1 ⟨rfl, q1, rfl⟩))
            have hb1 : Below w.heap.size w (wr.drewN q1) := below_drewNv hbw q1
            generalize wr.drewN q1 = wq at hb1 ⊢
            clear cW1 hbw
            by_cases c16 : 16 < t2.size
            · have c16z : (16 : Int) < (t2.size : Int) := by omega
              have s8z : (8 : Int) ≤ (t2.size : Int) := by omega
              obtain ⟨t2b, ht2b⟩ : ∃ t2b, t2.extract 8 t2.size = t2b := ⟨_, rfl⟩
              have z2b : t2b.size + 8 = t2.size := by rw [← ht2b, Lib.ext_size]; omega
              obtain ⟨A2b, cut2b, hA2b⟩ := At.cut A2 t2 t2b 8 8 rfl (by omega) ht2b
              obtain ⟨X2, lX2, _, cW2, kX2⟩ := word_mask A2 t2 wq (by omega) (hA2w.below hb1)
              obtain ⟨X3, lX3, _, cW3, kX3⟩ := word_mask A2b t2b wq (by omega) ((hA2b _ hA2w).below hb1)
              have hor2 : bits .or .u64 (X2 : Int) (X3 : Int) = ((X2 ||| X3 : Nat) : Int) := u64_or_nat X2 X3 lX2 lX3
              have lor2 : X2 ||| X3 < 18446744073709551616 := Nat.or_lt_two_pow (n := 64) lX2 lX3
              have hand2 : bits .and .u64 ((X2 ||| X3 : Nat) : Int) 9259542123273814144 = (((X2 ||| X3) &&& 9259542123273814144 : Nat) : Int) := u64_and_nat _ 9259542123273814144 lor2 (by omega)
              have k2 : (X2 ||| X3) &&& 9259542123273814144 = 0 → Lib.Asc t2 16 := fun h0' => by
                obtain ⟨e1, e2⟩ := (Lib.or_mask X2 X3 _).1 h0'
                exact Lib.asc_add t2 8 8 (kX2 e1) (by rw [ht2b]; exact kX3 e2)
              obtain ⟨O2, hO2⟩ : ∃ O2, X2 ||| X3 = O2 := ⟨_, rfl⟩
              rw [hO2] at hor2 hand2 k2
              obtain ⟨Z2, hZ2⟩ : ∃ Z2, O2 &&& 9259542123273814144 = Z2 := ⟨_, rfl⟩
              rw [hZ2] at hand2 k2
              clear kX2 kX3 lor2 hO2 hZ2 hA2b ht2b
              by_cases hz2 : Z2 = 0
              · have hz2b : ((Z2 : Int) == 0) = true := by simp [hz2]
                have a16 := k2 hz2
                obtain ⟨t3, ht3⟩ : ∃ t3, t2.extract 16 t2.size = t3 := ⟨_, rfl⟩
                have z3 : t3.size + 16 = t2.size := by rw [← ht3, Lib.ext_size]; omega
                obtain ⟨A3, cut3, hA3⟩ := At.cut A2 t2 t3 16 16 rfl (by omega) ht3
                have hA3w := hA3 _ hA2w
                have v3 : Lib.validD t3.data.toList = ANS := by rw [← ht3, Lib.valid_skip t2 16 a16]; exact v2
                clear k2 a16 v2 hA3 ht3
                go_big_quiet_o (first | (go_at_call_of 58 A2; refine Calls.quiet_of (cW2 _)) | (go_at_call_of 58 A2b; refine Calls.quiet_of (cW3 _)))
                have hb2 : Below w.heap.size w (wq.drewN nq) := below_drewNv hb1 nq
                generalize wq.drewN nq = wq2 at hb2 ⊢
                clear cW2 cW3 hb1
                go_wp2
                go_loopg [0] (t3.size + 1) (fun g2 s0 wx => Below w.heap.size w wx ∧ ∃ (B : Option Addr) (u : ByteArray), s0 = .slice B u.size u.size ∧ At w B u ∧ Lib.validD u.data.toList = ANS ∧ u.size < g2 ∧ u.size ≤ t3.size)
                case atStart => exact ⟨hb2, A3, t3, rfl, hA3w, v3, by omega, Nat.le_refl _⟩
                case round =>
                  obtain ⟨hbu, B, u, rfl, hBw, vu, hgu, hut⟩ := hrel
                  clear cut1 cut2 cut2b cut3 hA3w hA2w hA1w hA hAw
                  by_cases c32 : 32 < u.size
                  · obtain ⟨g3, rfl⟩ : ∃ g3, gk = g3 + 1 := ⟨gk - 1, by omega⟩
                    have c32z : (32 : Int) < (u.size : Int) := by omega
                    have s8u : (8 : Int) ≤ (u.size : Int) := by omega
                    have s16u : (16 : Int) ≤ (u.size : Int) := by omega
                    have s24u : (24 : Int) ≤ (u.size : Int) := by omega
                    obtain ⟨ub, hub⟩ : ∃ ub, u.extract 8 u.size = ub := ⟨_, rfl⟩
                    have zub : ub.size + 8 = u.size := by rw [← hub, Lib.ext_size]; omega
                    obtain ⟨uc, huc⟩ : ∃ uc, u.extract 16 u.size = uc := ⟨_, rfl⟩
                    have zuc : uc.size + 16 = u.size := by rw [← huc, Lib.ext_size]; omega
                    obtain ⟨ud, hud⟩ : ∃ ud, u.extract 24 u.size = ud := ⟨_, rfl⟩
                    have zud : ud.size + 24 = u.size := by rw [← hud, Lib.ext_size]; omega
                    obtain ⟨Bb, cutb, hBb⟩ := At.cut B u ub 8 8 rfl (by omega) hub
                    obtain ⟨Bc, cutc, hBc⟩ := At.cut B u uc 16 16 rfl (by omega) huc
                    obtain ⟨Bd, cutd, hBd⟩ := At.cut B u ud 24 24 rfl (by omega) hud
                    obtain ⟨Y0, lY0, _, cB0, kY0⟩ := word_mask B u wr (by omega) (hBw.below hbu)
                    obtain ⟨Y1, lY1, _, cB1, kY1⟩ := word_mask Bb ub wr (by omega) ((hBb _ hBw).below hbu)
                    obtain ⟨Y2, lY2, _, cB2, kY2⟩ := word_mask Bc uc wr (by omega) ((hBc _ hBw).below hbu)
                    obtain ⟨Y3, lY3, _, cB3, kY3⟩ := word_mask Bd ud wr (by omega) ((hBd _ hBw).below hbu)
                    have ho1 : bits .or .u64 (Y0 : Int) (Y1 : Int) = ((Y0 ||| Y1 : Nat) : Int) := u64_or_nat Y0 Y1 lY0 lY1
                    have ho2 : bits .or .u64 (Y2 : Int) (Y3 : Int) = ((Y2 ||| Y3 : Nat) : Int) := u64_or_nat Y2 Y3 lY2 lY3
                    have lo1 : Y0 ||| Y1 < 18446744073709551616 := Nat.or_lt_two_pow (n := 64) lY0 lY1
                    have lo2 : Y2 ||| Y3 < 18446744073709551616 := Nat.or_lt_two_pow (n := 64) lY2 lY3
                    have ho3 : bits .or .u64 ((Y0 ||| Y1 : Nat) : Int) ((Y2 ||| Y3 : Nat) : Int) = (((Y0 ||| Y1) ||| (Y2 ||| Y3) : Nat) : Int) := u64_or_nat _ _ lo1 lo2
                    have lo3 : (Y0 ||| Y1) ||| (Y2 ||| Y3) < 18446744073709551616 := Nat.or_lt_two_pow (n := 64) lo1 lo2
                    have hand3 : bits .and .u64 (((Y0 ||| Y1) ||| (Y2 ||| Y3) : Nat) : Int) 9259542123273814144 = ((((Y0 ||| Y1) ||| (Y2 ||| Y3)) &&& 9259542123273814144 : Nat) : Int) := u64_and_nat _ 9259542123273814144 lo3 (by omega)
                    have k3 : ((Y0 ||| Y1) ||| (Y2 ||| Y3)) &&& 9259542123273814144 = 0 → Lib.Asc u 32 := fun h0' => by
                      obtain ⟨e01, e23⟩ := (Lib.or_mask _ _ _).1 h0'
                      obtain ⟨e0, e1⟩ := (Lib.or_mask _ _ _).1 e01
                      obtain ⟨e2, e3⟩ := (Lib.or_mask _ _ _).1 e23
                      have s16 : Lib.Asc u 16 := Lib.asc_add u 8 8 (kY0 e0) (by rw [hub]; exact kY1 e1)
                      have s24 : Lib.Asc u 24 := Lib.asc_add u 16 8 s16 (by rw [huc]; exact kY2 e2)
                      exact Lib.asc_add u 24 8 s24 (by rw [hud]; exact kY3 e3)
                    obtain ⟨P1, hP1⟩ : ∃ P1, Y0 ||| Y1 = P1 := ⟨_, rfl⟩
                    obtain ⟨P2, hP2⟩ : ∃ P2, Y2 ||| Y3 = P2 := ⟨_, rfl⟩
                    rw [hP1, hP2] at ho3 hand3 k3
                    rw [hP1] at ho1
                    rw [hP2] at ho2
                    obtain ⟨P3, hP3⟩ : ∃ P3, P1 ||| P2 = P3 := ⟨_, rfl⟩
                    rw [hP3] at ho3 hand3 k3
                    obtain ⟨Z3, hZ3⟩ : ∃ Z3, P3 &&& 9259542123273814144 = Z3 := ⟨_, rfl⟩
                    rw [hZ3] at hand3 k3
                    clear kY0 kY1 kY2 kY3 lo1 lo2 lo3 hP1 hP2 hP3 hZ3 hBb hBc hBd hub huc hud
                    by_cases hz3 : Z3 = 0
                    · have hz3b : ((Z3 : Int) == 0) = true := by simp [hz3]
                      have a32 := k3 hz3
                      obtain ⟨u2, hu2⟩ : ∃ u2, u.extract 32 u.size = u2 := ⟨_, rfl⟩
                      have zu2 : u2.size + 32 = u.size := by rw [← hu2, Lib.ext_size]; omega
                      obtain ⟨B2, cute, hB2⟩ := At.cut B u u2 32 32 rfl (by omega) hu2
                      have hB2w := hB2 _ hBw
                      have vu2 : Lib.validD u2.data.toList = ANS := by rw [← hu2, Lib.valid_skip u 32 a32]; exact vu
                      clear hB2 hu2
                      go_wp2_with fail
                      go_big_quiet_o (first | (go_at_call_of 58 B; refine Calls.quiet_of (cB0 _)) | (go_at_call_of 58 Bb; refine Calls.quiet_of (cB1 _)) | (go_at_call_of 58 Bc; refine Calls.quiet_of (cB2 _)) | (go_at_call_of 58 Bd; refine Calls.quiet_of (cB3 _)))
                      go_wp2
                      go_roundg g3
                      case measure => omega
                      case rel => exact ⟨below_drewNv hbu nq, B2, u2, rfl, hB2w, vu2, by omega, by omega⟩
                    · have hz3b : ((Z3 : Int) == 0) = false := int_ne hz3
                      go_wp2_with fail
                      go_big_quiet_o (first | (go_at_call_of 58 B; refine Calls.quiet_of (cB0 _)) | (go_at_call_of 58 Bb; refine Calls.quiet_of (cB1 _)) | (go_at_call_of 58 Bc; refine Calls.quiet_of (cB2 _)) | (go_at_call_of 58 Bd; refine Calls.quiet_of (cB3 _)))
                      go_wp2
                      go_roundg g'
                      case measure => omega
                      case rel => exact ⟨below_drewNv hbu nq, B, u, rfl, hBw, vu, by omega, by omega⟩
                  · have c32z : ¬ ((32 : Int) < (u.size : Int)) := by omega
                    have c32b : decide ((32 : Int) < (u.size : Int)) = false := decide_eq_false c32z
                    go_wp2_with fail
                    go_big_quiet_o (fail)
                    go_wp2
                    go_roundg g'
                    case measure => omega
                    case rel => exact ⟨below_drewNv hbu nq, B, u, rfl, hBw, vu, by omega, by omega⟩
              · have hz2b : ((Z2 : Int) == 0) = false := int_ne hz2
                go_big_quiet_o (first | (go_at_call_of 58 A2; refine Calls.quiet_of (cW2 _)) | (go_at_call_of 58 A2b; refine Calls.quiet_of (cW3 _)))
                go_wp2
                go_roundg g'
                case measure => omega
                case rel => exact ⟨below_drewNv hb1 nq, A2, t2, rfl, hA2w, v2, by omega, by omega⟩
            · have c16z : ¬ ((16 : Int) < (t2.size : Int)) := by omega
              have c16b : decide ((16 : Int) < (t2.size : Int)) = false := decide_eq_false c16z
              go_big_quiet_o (fail)
              go_wp2
              go_roundg g'
              case measure => omega
              case rel => exact ⟨below_drewNv hb1 nq, A2, t2, rfl, hA2w, v2, by omega, by omega⟩
          · have hz1b : ((Z1 : Int) == 0) = false := int_ne hz1
            go_wp2_with (go_at_call 58; go_must (refine (cW1 _ (by rfl)).mono ?_; rintro e W1 ⟨rfl, q1, rfl⟩))
            go_roundg g'
            case measure => omega
            case rel => exact ⟨below_drewNv hbw q1, A1, t1, rfl, hA1w, v1, by omega, by omega⟩
        · have c8z : ¬ ((8 : Int) < (t1.size : Int)) := by omega
          go_wp2
          go_roundg g'
          case measure => omega
          case rel => exact ⟨hbw, A1, t1, rfl, hA1w, v1, by omega, by omega⟩
      · have hge : 128 ≤ x0.toNat := by omega
        have hascz : ¬ ((x0.toNat : Int) < 128) := by omega
        obtain ⟨x1, hx1⟩ : ∃ x1, t.get! 1 = x1 := ⟨_, rfl⟩
        obtain ⟨x2, hx2⟩ : ∃ x2, t.get! 2 = x2 := ⟨_, rfl⟩
        obtain ⟨x3, hx3⟩ : ∃ x3, t.get! 3 = x3 := ⟨_, rfl⟩
        have l1 := x1.toNat_lt; have l2 := x2.toNat_lt; have l3 := x3.toNat_lt
        have hne : t.data.toList ≠ [] := fun h => by rw [Lib.size_eq, h] at h0; simp at h0
        have hlead := Lib.validD_lead t.data.toList hne (by rw [Lib.getD_get!', hx0]; exact hge)
        rw [Lib.getD_get!', Lib.getD_get!', Lib.getD_get!', Lib.getD_get!', hx0, hx1, hx2, hx3, ← Lib.size_eq, hv] at hlead
        have hc0 := hTr.1 x0.toNat hx0lt
        have hXlt : Lib.firstT x0.toNat < 256 := by rcases Lib.firstT_cases x0.toNat with h | h | h | h | h | h | h | h | h <;> omega
        obtain ⟨X, hX⟩ : ∃ X, Lib.firstT x0.toNat = X := ⟨_, rfl⟩
        rw [hX] at hc0 hXlt hlead
        have h7 := and7 ⟨X, hXlt⟩
        simp only at h7
        have ha0 : wr.cell? ⟨1, X / 16 * 2, none⟩ = some (.int .u8 (Lib.accLo (X / 16))) := by rw [Nat.mul_comm]; exact (hTr.2 (X / 16) (by omega)).1
        have ha1 : wr.cell? ⟨1, X / 16 * 2 + 1, none⟩ = some (.int .u8 (Lib.accHi (X / 16))) := by rw [Nat.mul_comm]; exact (hTr.2 (X / 16) (by omega)).2
        obtain ⟨LO, hLO⟩ : ∃ LO, Lib.accLo (X / 16) = LO := ⟨_, rfl⟩
        obtain ⟨HI, hHI⟩ : ∃ HI, Lib.accHi (X / 16) = HI := ⟨_, rfl⟩
        rw [hLO] at ha0 hlead
        rw [hHI] at ha1 hlead
        obtain ⟨SZ, hSZ⟩ : ∃ SZ, X % 8 = SZ := ⟨_, rfl⟩
        rw [hSZ] at hlead
        clear hTr hT hX hv hLO hHI hne
        by_cases s2 : SZ = 2
        · as_aux_lemma =>
          subst s2
          have hSZz : (X : Int) % 8 = 2 := by omega
          simp only [Lib.checkN, Nat.reduceEqDiff, if_true, if_false] at hlead
          obtain ⟨tn, htn⟩ : ∃ tn, t.extract 2 t.size = tn := ⟨_, rfl⟩
          have hcutn : 2 ≤ t.size → ∃ A' : Option Addr, (∀ W : World, (Instr.slice 34 (.slice (some ⟨b, off, sp⟩) t.size t.size) (some (.int .i64 (2 : Int))) none none).run Tryd.prog W = .ok (.slice A' tn.size tn.size) W) ∧ At w A' tn := fun hm => by
            obtain ⟨A', q, hq⟩ := At.cut (some ⟨b, off, sp⟩) t tn 2 2 rfl hm htn
            exact ⟨A', q, hq _ hAw⟩
          go_upto_region 18 with fail
          go_cut [103] from 85 to 103 (fun c wx => c = .bool (decide (t.size < 2 ∨ x1.toNat < LO ∨ HI < x1.toNat)) ∧ Below w.heap.size w wx)
          case first =>
            by_cases q0 : t.size < 2
            · have q0z : (t.size : Int) < 2 := by omega
              go_big_quiet_o (fail)
              go_wp2
              go_meet
              exact ⟨congrArg Value.bool (decide_eq_true (p := t.size < 2 ∨ x1.toNat < LO ∨ HI < x1.toNat) (by omega)).symm, below_drewNv (hbw.alloc hbw.size _) _⟩
            · have q0z : ¬ ((t.size : Int) < 2) := by omega
              have hz1 : (1 : Int) < (t.size : Int) := by omega
              have hp1 : 1 < t.size := by omega
              have d1 : ∀ ob, (wr.alloc ob).cell? ⟨b, off + 1, none⟩ = some (.int .u8 (x1.toNat : Int)) := fun ob => by rw [← hx1]; exact U8.cell_alloc_old ob (hA.succ 1 (by omega) (by omega))
              by_cases q1 : x1.toNat < LO
              · have q1z : (x1.toNat : Int) < (LO : Int) := by omega
                go_big_quiet_o (fail)
                go_wp2
                go_meet
                exact ⟨congrArg Value.bool (decide_eq_true (p := t.size < 2 ∨ x1.toNat < LO ∨ HI < x1.toNat) (by omega)).symm, below_drewNv (hbw.alloc hbw.size _) _⟩
              · have q1z : ¬ ((x1.toNat : Int) < (LO : Int)) := by omega
                by_cases q2 : HI < x1.toNat
                · have q2z : (HI : Int) < (x1.toNat : Int) := by omega
                  go_big_quiet_o (fail)
                  go_wp2
                  go_meet
                  exact ⟨congrArg Value.bool (decide_eq_true (p := t.size < 2 ∨ x1.toNat < LO ∨ HI < x1.toNat) (by omega)).symm, below_drewNv (hbw.alloc hbw.size _) _⟩
                · have q2z : ¬ ((HI : Int) < (x1.toNat : Int)) := by omega
                  go_big_quiet_o (fail)
                  go_wp2
                  go_meet
                  exact ⟨congrArg Value.bool (decide_eq_false (p := t.size < 2 ∨ x1.toNat < LO ∨ HI < x1.toNat) (by omega)).symm, below_drewNv (hbw.alloc hbw.size _) _⟩
          case rest =>
            obtain ⟨rfl, hbc⟩ := hcut
            by_cases hb : t.size < 2 ∨ x1.toNat < LO ∨ HI < x1.toNat
            · have hbd : decide (t.size < 2 ∨ x1.toNat < LO ∨ HI < x1.toNat) = true := decide_eq_true hb
              rw [if_pos hb] at hlead
              go_wp2
              all_goals (go_ret; exact ⟨by first | rfl | rw [hlead], hbc⟩)
            · have hbd : decide (t.size < 2 ∨ x1.toNat < LO ∨ HI < x1.toNat) = false := decide_eq_false hb
              rw [if_neg hb] at hlead
              obtain ⟨An, cutn, hAn⟩ := hcutn (by omega)
              go_wp2
              go_roundg g'
              case measure => omega
              case rel => exact ⟨hbc, An, tn, rfl, hAn, by rw [← htn, Lib.ext_list, hlead], by rw [← htn, Lib.ext_size]; omega, by rw [← htn, Lib.ext_size]; omega⟩
        by_cases s3 : SZ = 3
        · as_aux_lemma =>
          subst s3
          have hSZz : (X : Int) % 8 = 3 := by omega
          simp only [Lib.checkN, Nat.reduceEqDiff, if_true, if_false] at hlead
          obtain ⟨tn, htn⟩ : ∃ tn, t.extract 3 t.size = tn := ⟨_, rfl⟩
          have hcutn : 3 ≤ t.size → ∃ A' : Option Addr, (∀ W : World, (Instr.slice 34 (.slice (some ⟨b, off, sp⟩) t.size t.size) (some (.int .i64 (3 : Int))) none none).run Tryd.prog W = .ok (.slice A' tn.size tn.size) W) ∧ At w A' tn := fun hm => by
            obtain ⟨A', q, hq⟩ := At.cut (some ⟨b, off, sp⟩) t tn 3 3 rfl hm htn
            exact ⟨A', q, hq _ hAw⟩
          go_upto_region 22 with fail
          go_cut [138] from 108 to 138 (fun c wx => c = .bool (decide (t.size < 3 ∨ x1.toNat < LO ∨ HI < x1.toNat ∨ x2.toNat < 128 ∨ 191 < x2.toNat)) ∧ Below w.heap.size w wx)
          case first =>
            by_cases q0 : t.size < 3
            · have q0z : (t.size : Int) < 3 := by omega
              go_big_quiet_o (fail)
              go_wp2
              go_meet
              exact ⟨congrArg Value.bool (decide_eq_true (p := t.size < 3 ∨ x1.toNat < LO ∨ HI < x1.toNat ∨ x2.toNat < 128 ∨ 191 < x2.toNat) (by omega)).symm, below_drewNv (hbw.alloc hbw.size _) _⟩
            · have q0z : ¬ ((t.size : Int) < 3) := by omega
              have hz1 : (1 : Int) < (t.size : Int) := by omega
              have hp1 : 1 < t.size := by omega
              have d1 : ∀ ob, (wr.alloc ob).cell? ⟨b, off + 1, none⟩ = some (.int .u8 (x1.toNat : Int)) := fun ob => by rw [← hx1]; exact U8.cell_alloc_old ob (hA.succ 1 (by omega) (by omega))
              have hz2 : (2 : Int) < (t.size : Int) := by omega
              have hp2 : 2 < t.size := by omega
              have d2 : ∀ ob, (wr.alloc ob).cell? ⟨b, off + 2, none⟩ = some (.int .u8 (x2.toNat : Int)) := fun ob => by rw [← hx2]; exact U8.cell_alloc_old ob (hA.succ 2 (by omega) (by omega))
              by_cases q1 : x1.toNat < LO
              · have q1z : (x1.toNat : Int) < (LO : Int) := by omega
                go_big_quiet_o (fail)
                go_wp2
                go_meet
                exact ⟨congrArg Value.bool (decide_eq_true (p := t.size < 3 ∨ x1.toNat < LO ∨ HI < x1.toNat ∨ x2.toNat < 128 ∨ 191 < x2.toNat) (by omega)).symm, below_drewNv (hbw.alloc hbw.size _) _⟩
              · have q1z : ¬ ((x1.toNat : Int) < (LO : Int)) := by omega
                by_cases q2 : HI < x1.toNat
                · have q2z : (HI : Int) < (x1.toNat : Int) := by omega
                  go_big_quiet_o (fail)
                  go_wp2
                  go_meet
                  exact ⟨congrArg Value.bool (decide_eq_true (p := t.size < 3 ∨ x1.toNat < LO ∨ HI < x1.toNat ∨ x2.toNat < 128 ∨ 191 < x2.toNat) (by omega)).symm, below_drewNv (hbw.alloc hbw.size _) _⟩
                · have q2z : ¬ ((HI : Int) < (x1.toNat : Int)) := by omega
                  by_cases q3 : x2.toNat < 128
                  · have q3z : (x2.toNat : Int) < 128 := by omega
                    go_big_quiet_o (fail)
                    go_wp2
                    go_meet
                    exact ⟨congrArg Value.bool (decide_eq_true (p := t.size < 3 ∨ x1.toNat < LO ∨ HI < x1.toNat ∨ x2.toNat < 128 ∨ 191 < x2.toNat) (by omega)).symm, below_drewNv (hbw.alloc hbw.size _) _⟩
                  · have q3z : ¬ ((x2.toNat : Int) < 128) := by omega
                    by_cases q4 : 191 < x2.toNat
                    · have q4z : (191 : Int) < (x2.toNat : Int) := by omega
                      go_big_quiet_o (fail)
                      go_wp2
                      go_meet
                      exact ⟨congrArg Value.bool (decide_eq_true (p := t.size < 3 ∨ x1.toNat < LO ∨ HI < x1.toNat ∨ x2.toNat < 128 ∨ 191 < x2.toNat) (by omega)).symm, below_drewNv (hbw.alloc hbw.size _) _⟩
                    · have q4z : ¬ ((191 : Int) < (x2.toNat : Int)) := by omega
                      go_big_quiet_o (fail)
                      go_wp2
                      go_meet
                      exact ⟨congrArg Value.bool (decide_eq_false (p := t.size < 3 ∨ x1.toNat < LO ∨ HI < x1.toNat ∨ x2.toNat < 128 ∨ 191 < x2.toNat) (by omega)).symm, below_drewNv (hbw.alloc hbw.size _) _⟩
          case rest =>
            obtain ⟨rfl, hbc⟩ := hcut
            by_cases hb : t.size < 3 ∨ x1.toNat < LO ∨ HI < x1.toNat ∨ x2.toNat < 128 ∨ 191 < x2.toNat
            · have hbd : decide (t.size < 3 ∨ x1.toNat < LO ∨ HI < x1.toNat ∨ x2.toNat < 128 ∨ 191 < x2.toNat) = true := decide_eq_true hb
              rw [if_pos hb] at hlead
              go_wp2
              all_goals (go_ret; exact ⟨by first | rfl | rw [hlead], hbc⟩)
            · have hbd : decide (t.size < 3 ∨ x1.toNat < LO ∨ HI < x1.toNat ∨ x2.toNat < 128 ∨ 191 < x2.toNat) = false := decide_eq_false hb
              rw [if_neg hb] at hlead
              obtain ⟨An, cutn, hAn⟩ := hcutn (by omega)
              go_wp2
              go_roundg g'
              case measure => omega
              case rel => exact ⟨hbc, An, tn, rfl, hAn, by rw [← htn, Lib.ext_list, hlead], by rw [← htn, Lib.ext_size]; omega, by rw [← htn, Lib.ext_size]; omega⟩
        by_cases s4 : SZ = 4
        · as_aux_lemma =>
          subst s4
          have hSZz : (X : Int) % 8 = 4 := by omega
          simp only [Lib.checkN, Nat.reduceEqDiff, if_true, if_false] at hlead
          obtain ⟨tn, htn⟩ : ∃ tn, t.extract 4 t.size = tn := ⟨_, rfl⟩
          have hcutn : 4 ≤ t.size → ∃ A' : Option Addr, (∀ W : World, (Instr.slice 34 (.slice (some ⟨b, off, sp⟩) t.size t.size) (some (.int .i64 (4 : Int))) none none).run Tryd.prog W = .ok (.slice A' tn.size tn.size) W) ∧ At w A' tn := fun hm => by
            obtain ⟨A', q, hq⟩ := At.cut (some ⟨b, off, sp⟩) t tn 4 4 rfl hm htn
            exact ⟨A', q, hq _ hAw⟩
          go_upto_region 26 with fail
          go_cut [185] from 143 to 185 (fun c wx => c = .bool (decide (t.size < 4 ∨ x1.toNat < LO ∨ HI < x1.toNat ∨ x2.toNat < 128 ∨ 191 < x2.toNat ∨ x3.toNat < 128 ∨ 191 < x3.toNat)) ∧ Below w.heap.size w wx)
          case first =>
            by_cases q0 : t.size < 4
            · have q0z : (t.size : Int) < 4 := by omega
              go_big_quiet_o (fail)
              go_wp2
              go_meet
              exact ⟨congrArg Value.bool (decide_eq_true (p := t.size < 4 ∨ x1.toNat < LO ∨ HI < x1.toNat ∨ x2.toNat < 128 ∨ 191 < x2.toNat ∨ x3.toNat < 128 ∨ 191 < x3.toNat) (by omega)).symm, below_drewNv (hbw.alloc hbw.size _) _⟩
            · have q0z : ¬ ((t.size : Int) < 4) := by omega
              have hz1 : (1 : Int) < (t.size : Int) := by omega
              have hp1 : 1 < t.size := by omega
              have d1 : ∀ ob, (wr.alloc ob).cell? ⟨b, off + 1, none⟩ = some (.int .u8 (x1.toNat : Int)) := fun ob => by rw [← hx1]; exact U8.cell_alloc_old ob (hA.succ 1 (by omega) (by omega))
              have hz2 : (2 : Int) < (t.size : Int) := by omega
              have hp2 : 2 < t.size := by omega
              have d2 : ∀ ob, (wr.alloc ob).cell? ⟨b, off + 2, none⟩ = some (.int .u8 (x2.toNat : Int)) := fun ob => by rw [← hx2]; exact U8.cell_alloc_old ob (hA.succ 2 (by omega) (by omega))
              have hz3 : (3 : Int) < (t.size : Int) := by omega
              have hp3 : 3 < t.size := by omega
              have d3 : ∀ ob, (wr.alloc ob).cell? ⟨b, off + 3, none⟩ = some (.int .u8 (x3.toNat : Int)) := fun ob => by rw [← hx3]; exact U8.cell_alloc_old ob (hA.succ 3 (by omega) (by omega))
              by_cases q1 : x1.toNat < LO
              · have q1z : (x1.toNat : Int) < (LO : Int) := by omega
                go_big_quiet_o (fail)
                go_wp2
                go_meet
                exact ⟨congrArg Value.bool (decide_eq_true (p := t.size < 4 ∨ x1.toNat < LO ∨ HI < x1.toNat ∨ x2.toNat < 128 ∨ 191 < x2.toNat ∨ x3.toNat < 128 ∨ 191 < x3.toNat) (by omega)).symm, below_drewNv (hbw.alloc hbw.size _) _⟩
              · have q1z : ¬ ((x1.toNat : Int) < (LO : Int)) := by omega
                by_cases q2 : HI < x1.toNat
                · have q2z : (HI : Int) < (x1.toNat : Int) := by omega
                  go_big_quiet_o (fail)
                  go_wp2
                  go_meet
                  exact ⟨congrArg Value.bool (decide_eq_true (p := t.size < 4 ∨ x1.toNat < LO ∨ HI < x1.toNat ∨ x2.toNat < 128 ∨ 191 < x2.toNat ∨ x3.toNat < 128 ∨ 191 < x3.toNat) (by omega)).symm, below_drewNv (hbw.alloc hbw.size _) _⟩
                · have q2z : ¬ ((HI : Int) < (x1.toNat : Int)) := by omega
                  by_cases q3 : x2.toNat < 128
                  · have q3z : (x2.toNat : Int) < 128 := by omega
                    go_big_quiet_o (fail)
                    go_wp2
                    go_meet
                    exact ⟨congrArg Value.bool (decide_eq_true (p := t.size < 4 ∨ x1.toNat < LO ∨ HI < x1.toNat ∨ x2.toNat < 128 ∨ 191 < x2.toNat ∨ x3.toNat < 128 ∨ 191 < x3.toNat) (by omega)).symm, below_drewNv (hbw.alloc hbw.size _) _⟩
                  · have q3z : ¬ ((x2.toNat : Int) < 128) := by omega
                    by_cases q4 : 191 < x2.toNat
                    · have q4z : (191 : Int) < (x2.toNat : Int) := by omega
                      go_big_quiet_o (fail)
                      go_wp2
                      go_meet
                      exact ⟨congrArg Value.bool (decide_eq_true (p := t.size < 4 ∨ x1.toNat < LO ∨ HI < x1.toNat ∨ x2.toNat < 128 ∨ 191 < x2.toNat ∨ x3.toNat < 128 ∨ 191 < x3.toNat) (by omega)).symm, below_drewNv (hbw.alloc hbw.size _) _⟩
                    · have q4z : ¬ ((191 : Int) < (x2.toNat : Int)) := by omega
                      by_cases q5 : x3.toNat < 128
                      · have q5z : (x3.toNat : Int) < 128 := by omega
                        go_big_quiet_o (fail)
                        go_wp2
                        go_meet
                        exact ⟨congrArg Value.bool (decide_eq_true (p := t.size < 4 ∨ x1.toNat < LO ∨ HI < x1.toNat ∨ x2.toNat < 128 ∨ 191 < x2.toNat ∨ x3.toNat < 128 ∨ 191 < x3.toNat) (by omega)).symm, below_drewNv (hbw.alloc hbw.size _) _⟩
                      · have q5z : ¬ ((x3.toNat : Int) < 128) := by omega
                        by_cases q6 : 191 < x3.toNat
                        · have q6z : (191 : Int) < (x3.toNat : Int) := by omega
                          go_big_quiet_o (fail)
                          go_wp2
                          go_meet
                          exact ⟨congrArg Value.bool (decide_eq_true (p := t.size < 4 ∨ x1.toNat < LO ∨ HI < x1.toNat ∨ x2.toNat < 128 ∨ 191 < x2.toNat ∨ x3.toNat < 128 ∨ 191 < x3.toNat) (by omega)).symm, below_drewNv (hbw.alloc hbw.size _) _⟩
                        · have q6z : ¬ ((191 : Int) < (x3.toNat : Int)) := by omega
                          go_big_quiet_o (fail)
                          go_wp2
                          go_meet
                          exact ⟨congrArg Value.bool (decide_eq_false (p := t.size < 4 ∨ x1.toNat < LO ∨ HI < x1.toNat ∨ x2.toNat < 128 ∨ 191 < x2.toNat ∨ x3.toNat < 128 ∨ 191 < x3.toNat) (by omega)).symm, below_drewNv (hbw.alloc hbw.size _) _⟩
          case rest =>
            obtain ⟨rfl, hbc⟩ := hcut
            by_cases hb : t.size < 4 ∨ x1.toNat < LO ∨ HI < x1.toNat ∨ x2.toNat < 128 ∨ 191 < x2.toNat ∨ x3.toNat < 128 ∨ 191 < x3.toNat
            · have hbd : decide (t.size < 4 ∨ x1.toNat < LO ∨ HI < x1.toNat ∨ x2.toNat < 128 ∨ 191 < x2.toNat ∨ x3.toNat < 128 ∨ 191 < x3.toNat) = true := decide_eq_true hb
              rw [if_pos hb] at hlead
              go_wp2
              all_goals (go_ret; exact ⟨by first | rfl | rw [hlead], hbc⟩)
            · have hbd : decide (t.size < 4 ∨ x1.toNat < LO ∨ HI < x1.toNat ∨ x2.toNat < 128 ∨ 191 < x2.toNat ∨ x3.toNat < 128 ∨ 191 < x3.toNat) = false := decide_eq_false hb
              rw [if_neg hb] at hlead
              obtain ⟨An, cutn, hAn⟩ := hcutn (by omega)
              go_wp2
              go_roundg g'
              case measure => omega
              case rel => exact ⟨hbc, An, tn, rfl, hAn, by rw [← htn, Lib.ext_list, hlead], by rw [← htn, Lib.ext_size]; omega, by rw [← htn, Lib.ext_size]; omega⟩
        · have e2 : ¬ ((X : Int) % 8 = 2) := by omega
          have e3 : ¬ ((X : Int) % 8 = 3) := by omega
          have e4 : ¬ ((X : Int) % 8 = 4) := by omega
          have e2b : (((X : Int) % 8) == 2) = false := by simp; omega
          have e3b : (((X : Int) % 8) == 3) = false := by simp; omega
          have e4b : (((X : Int) % 8) == 4) = false := by simp; omega
          simp only [Lib.checkN, s2, s3, s4, if_false] at hlead
          go_wp2
          all_goals (go_ret; exact ⟨by first | rfl | rw [hlead], hbw.alloc hbw.size _⟩)
    · have h0z : ¬ ((0 : Int) < (t.size : Int)) := by omega
      have ht0 : t.data.toList = [] := List.eq_nil_of_length_eq_zero (by rw [← Lib.size_eq]; omega)
      rw [ht0, Lib.validD_nil] at hv
      subst hv
      go_wp2
      go_ret
      exact ⟨rfl, hbw⟩

end Go.Proofs.YtiddhaakbcnbiaaDoor.U8
