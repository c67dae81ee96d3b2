/- References to characters. -/
import Derived.Test.YtmjdjpelhhibgaaGreatDoorVFold
namespace Go.Proofs.YtmjdjpelhhibgaaGreatDoor.Giv
open Go.RowKit Go.Proofs.YtmjdjpelhhibgaaGreatDoorW.PrintWords Go.Proofs.YtmjdjpelhhibgaaGreatDoorW.PrintLast Go.Proofs.YtmjdjpelhhibgaaGreatDoor.R0 Go.Proofs.YtmjdjpelhhibgaaGreatDoor.Spec
set_option linter.unusedVariables false
theorem decodeN_cont (n b0 b1 b2 b3 : Nat) : (Lib.decodeN n b0 b1 b2 b3).2 ≤ 4 ∧ (1 < (Lib.decodeN n b0 b1 b2 b3).2 → 1 < n ∧ b1 / 64 = 2) ∧ (2 < (Lib.decodeN n b0 b1 b2 b3).2 → 2 < n ∧ b2 / 64 = 2) ∧ (3 < (Lib.decodeN n b0 b1 b2 b3).2 → 3 < n ∧ b3 / 64 = 2) := by
  unfold Lib.decodeN
  repeat' split
  all_goals simp
  all_goals omega
theorem dec_le (s : ByteArray) (i : Nat) : (Utf8.decode s i).1 ≤ 1114111 := by
  rw [Lib.decode_at]
  unfold Lib.decodeN
  repeat' split
  all_goals simp
  all_goals omega
theorem get_bang (s : ByteArray) (i : Nat) (h : i < s.size) : s.get! i = s[i]'h := by
  simp only [ByteArray.get!]
  exact getElem!_pos s.data i h
theorem hi_bytes (s : ByteArray) (i : Nat) (hi : i < s.size) (hb : 128 ≤ (s[i]'hi).toNat) (j : Nat) (hj : j < (Utf8.decode s i).2) : ∃ h : i + j < s.size, 128 ≤ (s[i + j]'h).toNat := by
  rw [Lib.decode_at] at hj
  obtain ⟨h4, c1, c2, c3⟩ := decodeN_cont (s.size - i) (s.get! i).toNat (s.get! (i + 1)).toNat (s.get! (i + 2)).toNat (s.get! (i + 3)).toNat
  generalize (Lib.decodeN (s.size - i) (s.get! i).toNat (s.get! (i + 1)).toNat (s.get! (i + 2)).toNat (s.get! (i + 3)).toNat).2 = W at *
  match j, hj with
  | 0, _ => exact ⟨hi, hb⟩
  | 1, hj =>
    obtain ⟨h, hc⟩ := c1 hj
    refine ⟨by omega, ?_⟩
    rw [get_bang s (i + 1) (by omega)] at hc
    omega
  | 2, hj =>
    obtain ⟨h, hc⟩ := c2 hj
    refine ⟨by omega, ?_⟩
    rw [get_bang s (i + 2) (by omega)] at hc
    omega
  | 3, hj =>
    obtain ⟨h, hc⟩ := c3 hj
    refine ⟨by omega, ?_⟩
    rw [get_bang s (i + 3) (by omega)] at hc
    omega
  | j + 4, hj => omega
def hexS : ByteArray := ⟨#[48, 49, 50, 51, 52, 53, 54, 55, 56, 57, 97, 98, 99, 100, 101, 102]⟩
def d0 (r : Nat) : Int := if 48 ≤ r ∧ r ≤ 57 then (r : Int) - 48 else if 97 ≤ r ∧ r ≤ 102 then (r : Int) - 87 else -1
set_option maxRecDepth 100000 in
theorem d0_all : ∀ x : Fin 128, Lib.indexByte hexS.data.toList x.val.toUInt8 = d0 x.val := by decide +kernel
theorem idx_hex (r : Nat) (w : World) (h : r ≤ 1114111) :
    Calls Tryz.prog 54 #[.string ⟨#[48, 49, 50, 51, 52, 53, 54, 55, 56, 57, 97, 98, 99, 100, 101, 102]⟩, .int .i32 (r : Int)] w fun e w' => e = .returned (.int .i64 (d0 r)) ∧ Below w.heap.size w w' := by
  by_cases hr : r < 128
  · refine (Tryz.strings_IndexRune_ascii hexS (r : Int) w (by omega) (by omega)).mono ?_
    rintro e w' ⟨rfl, rfl⟩
    refine ⟨ret_int ?_, Below.refl _ _⟩
    have := d0_all ⟨r, hr⟩
    simpa using this
  · refine (indexRune_far hexS (r : Int) w (by decide) (by decide) (by omega) (by omega)).mono ?_
    rintro e w' ⟨rfl, hb⟩
    refine ⟨ret_int ?_, hb⟩
    unfold d0
    rw [if_neg (by omega), if_neg (by omega)]
theorem dig_of (r : Nat) : digitV (r : Int) = if 65 ≤ r ∧ r ≤ 70 then (r : Int) - 55 else d0 r := by
  unfold digitV d0
  by_cases h1 : 48 ≤ r ∧ r ≤ 57
  · rw [if_pos (by omega), if_neg (by omega), if_pos h1]
  · rw [if_neg (by omega)]
    by_cases h2 : 97 ≤ r ∧ r ≤ 102
    · rw [if_pos (by omega), if_neg (by omega), if_neg h1, if_pos h2]
    · rw [if_neg (by omega)]
      by_cases h3 : 65 ≤ r ∧ r ≤ 70
      · rw [if_pos (by omega), if_pos h3]
      · rw [if_neg (by omega), if_neg h3, if_neg h1, if_neg h2]
theorem d0_bd (r : Nat) : -1 ≤ d0 r ∧ d0 r ≤ 15 := by
  unfold d0
  split
  · omega
  · split <;> omega
theorem trimP_len (l p : List UInt8) : (Lib.trimPrefix l p).length ≤ l.length := by unfold Lib.trimPrefix; split <;> simp
theorem trimS_len (l p : List UInt8) : (Lib.trimSuffix l p).length ≤ l.length := by unfold Lib.trimSuffix; split <;> simp <;> omega
def CRPost (s : ByteArray) (w : World) (e : Ending) (w' : World) : Prop := e = .returned (.tuple #[.int .i32 (charRefV s).1, .bool (charRefV s).2]) ∧ Below w.heap.size w w'
theorem cr_none {s : ByteArray} (h : crNum s = none) : charRefV s = (0, false) := by unfold charRefV; rw [h]
theorem cr_some {s : ByteArray} {r : Int} (h : crNum s = some r) : charRefV s = if (crGood s && charB r) = true then (r, true) else (0, false) := by unfold charRefV; rw [h]
set_option maxRecDepth 1000000 in
set_option maxHeartbeats 8000000 in
theorem charRef_any (s : ByteArray) (w : World) (hs : s.size < 4294967281) :
    Calls Tryz.prog 36 #[.string s] w (CRPost s w) := by
  obtain ⟨B1, hB1⟩ : ∃ B : ByteArray, B = ⟨(Lib.trimPrefix s.data.toList [38, 35]).toArray⟩ := ⟨_, rfl⟩
  obtain ⟨B2, hB2⟩ : ∃ B : ByteArray, B = ⟨(Lib.trimSuffix B1.data.toList [59]).toArray⟩ := ⟨_, rfl⟩
  obtain ⟨T, hT⟩ : ∃ B : ByteArray, B = ⟨(Lib.trimPrefix B2.data.toList [120]).toArray⟩ := ⟨_, rfl⟩
  have l1 : B1.data.toList = Lib.trimPrefix s.data.toList [38, 35] := by rw [hB1]
  have l2 : B2.data.toList = crBody s := by rw [hB2]; unfold crBody; rw [← l1]
  have hTT : T = crText s := by rw [hT, l2]; rfl
  have z1 : B1.size ≤ 9223372036854775807 := by
    have : B1.size = B1.data.toList.length := by simp
    rw [this, l1]
    have h1 : (Lib.trimPrefix s.data.toList [38, 35]).length ≤ s.data.toList.length := by unfold Lib.trimPrefix; split <;> simp
    have h2 : s.data.toList.length = s.size := by simp
    omega
  have zT : T.size < 4294967281 := by
    have e1 := trimP_len B2.data.toList [120]
    have e2 := trimS_len B1.data.toList [59]
    have e3 := trimP_len s.data.toList [38, 35]
    have f1 : T.size = (Lib.trimPrefix B2.data.toList [120]).length := by rw [hT]; exact List.size_toArray
    have f2 : B2.data.toList.length = (Lib.trimSuffix B1.data.toList [59]).length := by rw [hB2]
    have f3 : B1.data.toList.length = (Lib.trimPrefix s.data.toList [38, 35]).length := by rw [hB1]
    have f4 : s.data.toList.length = s.size := by simp
    omega
  obtain ⟨g, hg⟩ : ∃ g, Lib.hasPrefix s.data.toList [38, 35] = g := ⟨_, rfl⟩
  obtain ⟨en, hen⟩ : ∃ g, Lib.hasSuffix B1.data.toList [59] = g := ⟨_, rfl⟩
  obtain ⟨hx, hhx⟩ : ∃ g, Lib.hasPrefix B2.data.toList [120] = g := ⟨_, rfl⟩
  have c1 : ∀ W, Calls Tryz.prog 52 #[.string s, .string ⟨#[38, 35]⟩] W fun e w' => e = .returned (.tuple #[.string B1, .bool g]) ∧ W = w' := fun W => by
    refine (Tryz.strings_CutPrefix s ⟨#[38, 35]⟩ W).mono ?_
    rintro e w' ⟨rfl, rfl⟩
    exact ⟨by rw [hB1, ← hg], rfl⟩
  have c2 : ∀ W, Calls Tryz.prog 53 #[.string B1, .string ⟨#[59]⟩] W fun e w' => e = .returned (.tuple #[.string B2, .bool en]) ∧ W = w' := fun W => by
    refine (Tryz.strings_CutSuffix B1 ⟨#[59]⟩ W z1).mono ?_
    rintro e w' ⟨rfl, rfl⟩
    exact ⟨by rw [hB2, ← hen], rfl⟩
  have c3 : ∀ W, Calls Tryz.prog 52 #[.string B2, .string ⟨#[120]⟩] W fun e w' => e = .returned (.tuple #[.string T, .bool hx]) ∧ W = w' := fun W => by
    refine (Tryz.strings_CutPrefix B2 ⟨#[120]⟩ W).mono ?_
    rintro e w' ⟨rfl, rfl⟩
    exact ⟨by rw [hT, ← hhx], rfl⟩
  have hgood : crGood s = (g && (en && !(T.toList == []))) := by unfold crGood; rw [hg, ← l1, hen, hTT]
  have hbase : crBase s = if hx = true then 16 else 10 := by unfold crBase crHex; rw [← l2, hhx]
  obtain ⟨R, hR⟩ : ∃ R, crNum s = R := ⟨_, rfl⟩
  have hR0 : crAll (crBase s) T T.size 0 0 = R := by rw [← hR, hTT]; rfl
  have HG := Lib.hid hgood
  have HR := Lib.hid hR
  clear l1 l2 hT hTT z1 hB1 hB2 hg hen hhx hgood hR
  cases hx
  · rw [hbase] at hR0
    simp only [if_false, Bool.false_eq_true] at hR0
    have HR0 := Lib.hid hR0
    clear hR0 hbase
    go_enter Tryz.func36, Tryz.ntmps36
    go_wp2_with (first | ((with_reducible refine (c1 _).mono ?_); rintro e w' ⟨rfl, rfl⟩) | ((with_reducible refine (c2 _).mono ?_); rintro e w' ⟨rfl, rfl⟩) | ((with_reducible refine (c3 _).mono ?_); rintro e w' ⟨rfl, rfl⟩))
    clear c1 c2 c3
    go_loopw [8, 10, 11] (fun rr u v wr => ∃ (pos b : Nat) (rv : Int), wr.heap[w.heap.size]? = some (.stringIter T pos) ∧ Below w.heap.size w wr ∧ rr = .int .i32 rv ∧ 0 ≤ rv ∧ rv ≤ 1114112 ∧ Hid (crAll 10 T b pos rv = R) ∧ T.size ≤ pos + b) (fun _ _ _ wr => T.size - wr.iterPos w.heap.size)
    case atStart => exact ⟨0, T.size, 0, World.iter_heap w T 0, (Below.refl _ _).alloc (Nat.le_refl _) _, rfl, by omega, by omega, HR0.out, by omega⟩
    case round =>
      obtain ⟨pos, b, rv, hit, hbw, rfl, hrv0, hrv1, HS, hb⟩ := hrel
      clear HR0
      have hpos0 := iterPos_of hit
      by_cases hp : pos < T.size
      · have hnx : ∀ ty, (Instr.next (.pointer (some ⟨w.heap.size, 0, none⟩)) true ty).run Tryz.prog wr = _ := fun ty => Lib.run_next_any_at wr w.heap.size T pos ty hit hp
        have hwd := width_pos T pos hp
        have hit2 := Lib.iterAt_heap wr w.heap.size T pos (pos + (Utf8.decode T pos).2) hit
        have hbw2 := Lib.below_iterAt hbw (k := w.heap.size) (Nat.le_refl _) T (pos + (Utf8.decode T pos).2)
        obtain ⟨W1, hW1⟩ : ∃ W1, W1 = wr.iterAt w.heap.size T (pos + (Utf8.decode T pos).2) := ⟨_, rfl⟩
        rw [← hW1] at hnx hit2 hbw2
        obtain ⟨hst, hb2⟩ := crAll_step 10 T b pos rv hb hp
        have hle := dec_le T pos
        have hBlt := lt_of_block hit2
        have cI := fun W => idx_hex (Utf8.decode T pos).1 W hle
        have hdo := dig_of (Utf8.decode T pos).1
        generalize Utf8.decode T pos = D at *
        obtain ⟨r0, wd⟩ := D
        simp only at *
        rw [HS.out] at hst
        clear hW1 hit hbw HS
        by_cases k3 : 65 ≤ r0 ∧ r0 ≤ 70
        · rw [if_pos k3] at hdo
          rw [hdo] at hst
          obtain ⟨k31, k32⟩ := k3
          by_cases kb : (10 : Int) ≤ (r0 : Int) - 55
          · have HN : Hid (R = none) := by show _ = _; rw [hst, if_pos (.inr kb)]
            clear hst hdo
            have kb' : (10 : Int) ≤ (r0 : Int) - 65 + 10 := by omega
            try (exfalso; omega)
            all_goals
              go_wp2_with (go_at_call 54; refine (cI _).mono ?_; rintro e w2 ⟨rfl, hb2⟩)
              go_ret2
              exact ⟨by rw [cr_none (HR.out.trans HN.out)]; rfl, hbw2.trans (hb2.mono (by omega))⟩
          · have HN : Hid (crAll 10 T (b - 1) (pos + wd) (min (rv * 10 + ((r0 : Int) - 55)) 1114112) = R) := by show _ = _; rw [hst, if_neg (by omega)]
            clear hst hdo
            have kb' : ¬ (10 : Int) ≤ (r0 : Int) - 65 + 10 := by omega
            have kb2 : ¬ (r0 : Int) - 65 + 10 < 0 := by omega
            try (exfalso; omega)
            all_goals
              go_wp2_with (go_at_call 54; refine (cI _).mono ?_; rintro e w2 ⟨rfl, hb2⟩)
              have hit4 : w2.heap[w.heap.size]? = _ := (hb2.block _ hBlt).trans hit2
              go_roundw
              case rel => exact ⟨_, b - 1, _, hit4, hbw2.trans (hb2.mono (by omega)), rfl, by omega, by omega, (by first | exact HN.out | (have := HN.out; rwa [show (r0 : Int) - 55 = (r0 : Int) - 65 + 10 by omega] at this)), by omega⟩
              case measure => rw [iterPos_of hit4, hpos0]; omega
        · rw [if_neg k3] at hdo
          rw [hdo] at hst
          obtain ⟨dd, hdd⟩ : ∃ dd, d0 r0 = dd := ⟨_, rfl⟩
          have hd1 : -1 ≤ dd ∧ dd ≤ 15 := by rw [← hdd]; exact d0_bd r0
          rw [hdd] at hst cI
          clear hdd hdo
          have k4 : r0 < 65 ∨ 70 < r0 := by omega
          clear k3
          by_cases kn : dd < 0
          · have HN : Hid (R = none) := by show _ = _; rw [hst, if_pos (.inl kn)]
            clear hst
            rcases k4 with k4 | k4
            all_goals
              try (exfalso; omega)
              all_goals
                go_wp2_with (go_at_call 54; refine (cI _).mono ?_; rintro e w2 ⟨rfl, hb2⟩)
                go_ret2
                exact ⟨by rw [cr_none (HR.out.trans HN.out)]; rfl, hbw2.trans (hb2.mono (by omega))⟩
          · by_cases kb : (10 : Int) ≤ dd
            · have HN : Hid (R = none) := by show _ = _; rw [hst, if_pos (.inr kb)]
              clear hst
              rcases k4 with k4 | k4
              all_goals
                try (exfalso; omega)
                all_goals
                  go_wp2_with (go_at_call 54; refine (cI _).mono ?_; rintro e w2 ⟨rfl, hb2⟩)
                  go_ret2
                  exact ⟨by rw [cr_none (HR.out.trans HN.out)]; rfl, hbw2.trans (hb2.mono (by omega))⟩
            · have HN : Hid (crAll 10 T (b - 1) (pos + wd) (min (rv * 10 + dd) 1114112) = R) := by show _ = _; rw [hst, if_neg (by omega)]
              clear hst
              rcases k4 with k4 | k4
              all_goals
                try (exfalso; omega)
                all_goals
                  go_wp2_with (go_at_call 54; refine (cI _).mono ?_; rintro e w2 ⟨rfl, hb2⟩)
                  have hit4 : w2.heap[w.heap.size]? = _ := (hb2.block _ hBlt).trans hit2
                  go_roundw
                  case rel => exact ⟨_, b - 1, _, hit4, hbw2.trans (hb2.mono (by omega)), rfl, by omega, by omega, (by first | exact HN.out | (have := HN.out; rwa [show (r0 : Int) - 55 = (r0 : Int) - 65 + 10 by omega] at this)), by omega⟩
                  case measure => rw [iterPos_of hit4, hpos0]; omega
      · have hnx : ∀ ty, (Instr.next (.pointer (some ⟨w.heap.size, 0, none⟩)) true ty).run Tryz.prog wr = _ := fun ty => Lib.run_next_end_at wr w.heap.size T pos ty hit hp
        have HF : Hid (crNum s = some rv) := by
          have := HS.out; rw [crAll_end _ T b pos rv hp] at this; exact HR.out.trans this.symm
        obtain ⟨cb, hcb⟩ : ∃ c, charB rv = c := ⟨_, rfl⟩
        have cC : ∀ W, Calls Tryz.prog 55 #[.int .i32 rv] W fun e w' => e = .returned (.bool cb) ∧ Below W.heap.size W w' := fun W => runes_Char.calls rv cb W (by rw [← hcb]; rfl)
        have HCB := Lib.hid hcb
        clear hcb
        cases g <;> cases en <;> cases he : (T.toList == []) <;> cases cb
        all_goals
          go_wp2_with (go_at_call 55; refine (cC _).mono ?_; rintro e w2 ⟨rfl, hb2⟩)
          go_ret2
          first | exact ⟨by rw [cr_some HF.out, HG.out, he, HCB.out]; rfl, hbw.trans (hb2.mono hbw.size)⟩ | exact ⟨by rw [cr_some HF.out, HG.out, he, HCB.out]; rfl, hbw⟩
  · rw [hbase] at hR0
    simp only [if_true] at hR0
    have HR0 := Lib.hid hR0
    clear hR0 hbase
    go_enter Tryz.func36, Tryz.ntmps36
    go_wp2_with (first | ((with_reducible refine (c1 _).mono ?_); rintro e w' ⟨rfl, rfl⟩) | ((with_reducible refine (c2 _).mono ?_); rintro e w' ⟨rfl, rfl⟩) | ((with_reducible refine (c3 _).mono ?_); rintro e w' ⟨rfl, rfl⟩))
    clear c1 c2 c3
    go_loopw [8, 10, 11] (fun rr u v wr => ∃ (pos b : Nat) (rv : Int), wr.heap[w.heap.size]? = some (.stringIter T pos) ∧ Below w.heap.size w wr ∧ rr = .int .i32 rv ∧ 0 ≤ rv ∧ rv ≤ 1114112 ∧ Hid (crAll 16 T b pos rv = R) ∧ T.size ≤ pos + b) (fun _ _ _ wr => T.size - wr.iterPos w.heap.size)
    case atStart => exact ⟨0, T.size, 0, World.iter_heap w T 0, (Below.refl _ _).alloc (Nat.le_refl _) _, rfl, by omega, by omega, HR0.out, by omega⟩
    case round =>
      obtain ⟨pos, b, rv, hit, hbw, rfl, hrv0, hrv1, HS, hb⟩ := hrel
      clear HR0
      have hpos0 := iterPos_of hit
      by_cases hp : pos < T.size
      · have hnx : ∀ ty, (Instr.next (.pointer (some ⟨w.heap.size, 0, none⟩)) true ty).run Tryz.prog wr = _ := fun ty => Lib.run_next_any_at wr w.heap.size T pos ty hit hp
        have hwd := width_pos T pos hp
        have hit2 := Lib.iterAt_heap wr w.heap.size T pos (pos + (Utf8.decode T pos).2) hit
        have hbw2 := Lib.below_iterAt hbw (k := w.heap.size) (Nat.le_refl _) T (pos + (Utf8.decode T pos).2)
        obtain ⟨W1, hW1⟩ : ∃ W1, W1 = wr.iterAt w.heap.size T (pos + (Utf8.decode T pos).2) := ⟨_, rfl⟩
        rw [← hW1] at hnx hit2 hbw2
        obtain ⟨hst, hb2⟩ := crAll_step 16 T b pos rv hb hp
        have hle := dec_le T pos
        have hBlt := lt_of_block hit2
        have cI := fun W => idx_hex (Utf8.decode T pos).1 W hle
        have hdo := dig_of (Utf8.decode T pos).1
        generalize Utf8.decode T pos = D at *
        obtain ⟨r0, wd⟩ := D
        simp only at *
        rw [HS.out] at hst
        clear hW1 hit hbw HS
        by_cases k3 : 65 ≤ r0 ∧ r0 ≤ 70
        · rw [if_pos k3] at hdo
          rw [hdo] at hst
          obtain ⟨k31, k32⟩ := k3
          by_cases kb : (16 : Int) ≤ (r0 : Int) - 55
          · have HN : Hid (R = none) := by show _ = _; rw [hst, if_pos (.inr kb)]
            clear hst hdo
            have kb' : (16 : Int) ≤ (r0 : Int) - 65 + 10 := by omega
            try (exfalso; omega)
            all_goals
              go_wp2_with (go_at_call 54; refine (cI _).mono ?_; rintro e w2 ⟨rfl, hb2⟩)
              go_ret2
              exact ⟨by rw [cr_none (HR.out.trans HN.out)]; rfl, hbw2.trans (hb2.mono (by omega))⟩
          · have HN : Hid (crAll 16 T (b - 1) (pos + wd) (min (rv * 16 + ((r0 : Int) - 55)) 1114112) = R) := by show _ = _; rw [hst, if_neg (by omega)]
            clear hst hdo
            have kb' : ¬ (16 : Int) ≤ (r0 : Int) - 65 + 10 := by omega
            have kb2 : ¬ (r0 : Int) - 65 + 10 < 0 := by omega
            try (exfalso; omega)
            all_goals
              go_wp2_with (go_at_call 54; refine (cI _).mono ?_; rintro e w2 ⟨rfl, hb2⟩)
              have hit4 : w2.heap[w.heap.size]? = _ := (hb2.block _ hBlt).trans hit2
              go_roundw
              case rel => exact ⟨_, b - 1, _, hit4, hbw2.trans (hb2.mono (by omega)), rfl, by omega, by omega, (by first | exact HN.out | (have := HN.out; rwa [show (r0 : Int) - 55 = (r0 : Int) - 65 + 10 by omega] at this)), by omega⟩
              case measure => rw [iterPos_of hit4, hpos0]; omega
        · rw [if_neg k3] at hdo
          rw [hdo] at hst
          obtain ⟨dd, hdd⟩ : ∃ dd, d0 r0 = dd := ⟨_, rfl⟩
          have hd1 : -1 ≤ dd ∧ dd ≤ 15 := by rw [← hdd]; exact d0_bd r0
          rw [hdd] at hst cI
          clear hdd hdo
          have k4 : r0 < 65 ∨ 70 < r0 := by omega
          clear k3
          by_cases kn : dd < 0
          · have HN : Hid (R = none) := by show _ = _; rw [hst, if_pos (.inl kn)]
            clear hst
            rcases k4 with k4 | k4
            all_goals
              try (exfalso; omega)
              all_goals
                go_wp2_with (go_at_call 54; refine (cI _).mono ?_; rintro e w2 ⟨rfl, hb2⟩)
                go_ret2
                exact ⟨by rw [cr_none (HR.out.trans HN.out)]; rfl, hbw2.trans (hb2.mono (by omega))⟩
          · by_cases kb : (16 : Int) ≤ dd
            · have HN : Hid (R = none) := by show _ = _; rw [hst, if_pos (.inr kb)]
              clear hst
              rcases k4 with k4 | k4
              all_goals
                try (exfalso; omega)
                all_goals
                  go_wp2_with (go_at_call 54; refine (cI _).mono ?_; rintro e w2 ⟨rfl, hb2⟩)
                  go_ret2
                  exact ⟨by rw [cr_none (HR.out.trans HN.out)]; rfl, hbw2.trans (hb2.mono (by omega))⟩
            · have HN : Hid (crAll 16 T (b - 1) (pos + wd) (min (rv * 16 + dd) 1114112) = R) := by show _ = _; rw [hst, if_neg (by omega)]
              clear hst
              rcases k4 with k4 | k4
              all_goals
                try (exfalso; omega)
                all_goals
                  go_wp2_with (go_at_call 54; refine (cI _).mono ?_; rintro e w2 ⟨rfl, hb2⟩)
                  have hit4 : w2.heap[w.heap.size]? = _ := (hb2.block _ hBlt).trans hit2
                  go_roundw
                  case rel => exact ⟨_, b - 1, _, hit4, hbw2.trans (hb2.mono (by omega)), rfl, by omega, by omega, (by first | exact HN.out | (have := HN.out; rwa [show (r0 : Int) - 55 = (r0 : Int) - 65 + 10 by omega] at this)), by omega⟩
                  case measure => rw [iterPos_of hit4, hpos0]; omega
      · have hnx : ∀ ty, (Instr.next (.pointer (some ⟨w.heap.size, 0, none⟩)) true ty).run Tryz.prog wr = _ := fun ty => Lib.run_next_end_at wr w.heap.size T pos ty hit hp
        have HF : Hid (crNum s = some rv) := by
          have := HS.out; rw [crAll_end _ T b pos rv hp] at this; exact HR.out.trans this.symm
        obtain ⟨cb, hcb⟩ : ∃ c, charB rv = c := ⟨_, rfl⟩
        have cC : ∀ W, Calls Tryz.prog 55 #[.int .i32 rv] W fun e w' => e = .returned (.bool cb) ∧ Below W.heap.size W w' := fun W => runes_Char.calls rv cb W (by rw [← hcb]; rfl)
        have HCB := Lib.hid hcb
        clear hcb
        cases g <;> cases en <;> cases he : (T.toList == []) <;> cases cb
        all_goals
          go_wp2_with (go_at_call 55; refine (cC _).mono ?_; rintro e w2 ⟨rfl, hb2⟩)
          go_ret2
          first | exact ⟨by rw [cr_some HF.out, HG.out, he, HCB.out]; rfl, hbw.trans (hb2.mono hbw.size)⟩ | exact ⟨by rw [cr_some HF.out, HG.out, he, HCB.out]; rfl, hbw⟩
def token_CharRef.f (a0 : ByteArray) : Option (Int × Bool) := if a0.size < 4294967281 then some (charRefV a0) else none
theorem token_CharRef.calls (a0 : ByteArray) (r1 : Int) (r2 : Bool) (w : World) (hE : Env w) (h : token_CharRef.f a0 = some (r1, r2)) :
    Calls Tryz.prog 36 #[.string a0] w fun e w' => e = .returned (.tuple #[.int .i32 r1, .bool r2]) ∧ Below w.heap.size w w' := by
  unfold token_CharRef.f at h
  split at h
  · rename_i hs
    have h := Option.some.inj h
    refine (charRef_any a0 w hs).mono ?_
    rintro e w' ⟨rfl, hb⟩
    rw [h]
    exact ⟨rfl, hb⟩
  · cases h
end Go.Proofs.YtmjdjpelhhibgaaGreatDoor.Giv
