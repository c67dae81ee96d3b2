/- The library's search for one of two signs in whatever text. -/
import Derived.Test.YtmjdjpelhhibgaaDoorKFold
namespace Go.Proofs.YtmjdjpelhhibgaaDoor.Giv
open Go.RowKit Go.Proofs.YtmjdjpelhhibgaaDoorW.PrintWords Go.Proofs.YtmjdjpelhhibgaaDoorW.PrintLast Go.Proofs.YtmjdjpelhhibgaaDoor.R0 Go.Proofs.YtmjdjpelhhibgaaDoor.Spec
set_option linter.unusedVariables false
theorem decodeN_cont (n b0 b1 b2 b3 : Nat) : (Lib.decodeN n b0 b1 b2 b3).2 ≤ 4 ∧ (1 < (Lib.decodeN n b0 b1 b2 b3).2 → 1 < n ∧ b1 / 64 = 2) ∧ (2 < (Lib.decodeN n b0 b1 b2 b3).2 → 2 < n ∧ b2 / 64 = 2) ∧ (3 < (Lib.decodeN n b0 b1 b2 b3).2 → 3 < n ∧ b3 / 64 = 2) := by
  unfold Lib.decodeN
  repeat' split
  all_goals simp
  all_goals omega
theorem dec_le (s : ByteArray) (i : Nat) : (Utf8.decode s i).1 ≤ 1114111 := by
  rw [Lib.decode_at]
  unfold Lib.decodeN
  repeat' split
  all_goals simp
  all_goals omega
theorem get_bang (s : ByteArray) (i : Nat) (h : i < s.size) : s.get! i = s[i]'h := by
  simp only [ByteArray.get!]
  exact getElem!_pos s.data i h
theorem hi_bytes (s : ByteArray) (i : Nat) (hi : i < s.size) (hb : 128 ≤ (s[i]'hi).toNat) (j : Nat) (hj : j < (Utf8.decode s i).2) : ∃ h : i + j < s.size, 128 ≤ (s[i + j]'h).toNat := by
  rw [Lib.decode_at] at hj
  obtain ⟨h4, c1, c2, c3⟩ := decodeN_cont (s.size - i) (s.get! i).toNat (s.get! (i + 1)).toNat (s.get! (i + 2)).toNat (s.get! (i + 3)).toNat
  generalize (Lib.decodeN (s.size - i) (s.get! i).toNat (s.get! (i + 1)).toNat (s.get! (i + 2)).toNat (s.get! (i + 3)).toNat).2 = W at *
  match j, hj with
  | 0, _ => exact ⟨hi, hb⟩
  | 1, hj =>
    obtain ⟨h, hc⟩ := c1 hj
    refine ⟨by omega, ?_⟩
    rw [get_bang s (i + 1) (by omega)] at hc
    omega
  | 2, hj =>
    obtain ⟨h, hc⟩ := c2 hj
    refine ⟨by omega, ?_⟩
    rw [get_bang s (i + 2) (by omega)] at hc
    omega
  | 3, hj =>
    obtain ⟨h, hc⟩ := c3 hj
    refine ⟨by omega, ?_⟩
    rw [get_bang s (i + 3) (by omega)] at hc
    omega
  | j + 4, hj => omega
theorem noAny_high {s : ByteArray} {chars : List UInt8} {i : Nat} (h : Lib.NoAny s.data.toList chars i) (hi : i < s.size) (hb : 128 ≤ (s[i]'hi).toNat) (hc : ∀ b ∈ chars, b.toNat < 128) : Lib.NoAny s.data.toList chars (i + (Utf8.decode s i).2) := by
  intro k b hk hkb
  by_cases hlt : k < i
  · exact h k b hlt hkb
  · obtain ⟨hz, h128⟩ := hi_bytes s i hi hb (k - i) (by omega)
    have e : i + (k - i) = k := by omega
    have hz' : k < s.size := by omega
    have hv : s[k]'hz' = b := by
      have : s.data.toList[k]? = some (s[k]'hz') := Lib.data_getElem? s k hz'
      rw [hkb] at this; exact (Option.some.inj this).symm
    have h128' : 128 ≤ b.toNat := by rw [← hv]; simpa [e] using h128
    cases hcon : chars.contains b with
    | false => rfl
    | true =>
      have := hc b (by simpa using hcon)
      omega
def amp2 : ByteArray := ⟨#[60, 38]⟩
theorem amp_asc : ∀ b ∈ amp2.data.toList, b.toNat < 128 := by decide
set_option maxRecDepth 1000000 in
set_option maxHeartbeats 4000000 in
theorem indexAny_short (s : ByteArray) (w : World) (h8 : s.size ≤ 8) :
    Calls Tryd.prog 85 #[.string s, .string ⟨#[60, 38]⟩] w fun e w' => e = .returned (.int .i64 (Lib.indexAny s.data.toList [60, 38])) ∧ Below w.heap.size w w' := by
  have cU : ∀ W, Calls Tryd.prog 105 #[.int .i64 (s.size : Int)] W fun e w' => e = .returned (.bool false) ∧ W = w' := fun W => by
    refine (Tryd.strings_shouldUseASCIISet (s.size : Int) W).mono ?_
    rintro e w' ⟨rfl, rfl⟩
    exact ⟨by rw [decide_eq_false (by omega)], rfl⟩
  go_enter Tryd.func85, Tryd.ntmps85
  go_wp2_with (go_at_call 105; refine (cU _).mono ?_; rintro e w' ⟨rfl, rfl⟩)
  go_loopw [9, 10] (fun u v wr => ∃ pos : Nat, wr.heap[w.heap.size]? = some (.stringIter s pos) ∧ Below w.heap.size w wr ∧ Hid (Lib.NoAny s.data.toList [60, 38] pos) ∧ pos ≤ s.size) (fun _ _ wr => s.size - wr.iterPos w.heap.size)
  case atStart => exact ⟨0, World.iter_heap w s 0, (Below.refl _ _).alloc (Nat.le_refl _) _, Lib.NoAny.zero _ _, by omega⟩
  case round =>
    obtain ⟨pos, hit, hbw, HNO, hpl⟩ := hrel
    have hpos0 := iterPos_of hit
    by_cases hp : pos < s.size
    · have hnx : ∀ ty, (Instr.next (.pointer (some ⟨w.heap.size, 0, none⟩)) true ty).run Tryd.prog wr = _ := fun ty => Lib.run_next_any_at wr w.heap.size s pos ty hit hp
      have hit2 := Lib.iterAt_heap wr w.heap.size s pos (pos + (Utf8.decode s pos).2) hit
      have hbw2 := Lib.below_iterAt hbw (k := w.heap.size) (Nat.le_refl _) s (pos + (Utf8.decode s pos).2)
      have hwd := width_pos s pos hp
      have hwl := width_le s pos hp
      obtain ⟨W1, hW1⟩ : ∃ W1, W1 = wr.iterAt w.heap.size s (pos + (Utf8.decode s pos).2) := ⟨_, rfl⟩
      rw [← hW1] at hnx hit2 hbw2
      have hBlt := lt_of_block hit2
      by_cases hlo : (s[pos]'hp).toNat < 128
      · have hd := decode_ascii s pos hp hlo
        obtain ⟨x, hx⟩ : ∃ x, s[pos]'hp = x := ⟨_, rfl⟩
        have hxl : s.data.toList[pos]? = some x := by rw [← hx]; exact Lib.data_getElem? s pos hp
        rw [hx] at hd hlo
        rw [hd] at hnx hit2
        simp only at hnx hit2
        have cI : ∀ W, Calls Tryd.prog 32 #[.string ⟨#[60, 38]⟩, .int .i32 (x.toNat : Int)] W fun e w' => e = .returned (.int .i64 (Lib.indexByte [60, 38] x)) ∧ W = w' := fun W => by
          refine (Tryd.strings_IndexRune_ascii ⟨#[60, 38]⟩ (x.toNat : Int) W (by omega) (by omega)).mono ?_
          rintro e w' ⟨rfl, rfl⟩
          exact ⟨by simp, rfl⟩
        have hcon := Lib.contains_iff_indexByte [60, 38] x
        have HX := Lib.hid hxl
        clear hW1 hd hx hxl hit hbw
        cases hin : ([60, 38] : List UInt8).contains x
        · rw [hin] at hcon
          have hlt : ¬ ((0 : Int) ≤ Lib.indexByte [60, 38] x) := of_decide_eq_false hcon.symm
          have hN2 : Hid (Lib.NoAny s.data.toList [60, 38] (pos + 1)) := HNO.out.succ HX.out hin
          clear hcon hin
          generalize Lib.indexByte [60, 38] x = q at cI hlt
          go_wp2_with (go_at_call 32; refine (cI _).mono ?_; rintro e w' ⟨rfl, rfl⟩)
          go_roundw
          case rel => exact ⟨_, hit2, hbw2, hN2, by omega⟩
          case measure => rw [iterPos_of hit2, hpos0]; omega
        · rw [hin] at hcon
          have hge : (0 : Int) ≤ Lib.indexByte [60, 38] x := of_decide_eq_true hcon.symm
          have hR : Hid (Lib.indexAny s.data.toList [60, 38] = (pos : Int)) := Lib.indexAny_hit HNO.out HX.out hin
          clear hcon hin
          generalize Lib.indexByte [60, 38] x = q at cI hge
          go_wp2_with (go_at_call 32; refine (cI _).mono ?_; rintro e w' ⟨rfl, rfl⟩)
          go_ret
          exact ⟨ret_int hR.out.symm, hbw2⟩
      · have hhi : 128 ≤ (s[pos]'hp).toNat := by omega
        obtain ⟨h128, -⟩ := decode_high s pos hp hhi
        have hle : (Utf8.decode s pos).1 ≤ 1114111 := dec_le s pos
        have hN2 : Hid (Lib.NoAny s.data.toList [60, 38] (pos + (Utf8.decode s pos).2)) := noAny_high HNO.out hp hhi (by decide)
        generalize Utf8.decode s pos = D at *
        obtain ⟨r0, wd⟩ := D
        simp only at *
        have cI := fun W => indexRune_far ⟨#[60, 38]⟩ (r0 : Int) W (by decide) (by decide) (by omega) (by omega)
        clear hW1 hit hbw hlo hhi
        go_wp2_with (go_at_call 32; refine (cI _).mono ?_; rintro e w2 ⟨rfl, hb2⟩)
        have hit4 : w2.heap[w.heap.size]? = _ := (hb2.block _ hBlt).trans hit2
        go_roundw
        case rel => exact ⟨_, hit4, hbw2.trans (hb2.mono (by omega)), hN2, by omega⟩
        case measure => rw [iterPos_of hit4, hpos0]; omega
    · have hnx : ∀ ty, (Instr.next (.pointer (some ⟨w.heap.size, 0, none⟩)) true ty).run Tryd.prog wr = _ := fun ty => Lib.run_next_end_at wr w.heap.size s pos ty hit hp
      have hR : Hid (Lib.indexAny s.data.toList [60, 38] = -1) := Lib.indexAny_none (by rw [← Lib.size_eq]; have := HNO.out; rwa [show pos = s.size by omega] at this)
      go_wp2
      go_ret
      exact ⟨ret_int hR.out.symm, hbw⟩
def strings_IndexAny.f (a0 a1 : ByteArray) : Option Int := if a1 = ⟨#[60, 38]⟩ ∧ a0.size < 4294967281 then some (Lib.indexAny a0.data.toList [60, 38]) else none
theorem strings_IndexAny.calls (a0 a1 : ByteArray) (r : Int) (w : World) (hE : Env w) (h : strings_IndexAny.f a0 a1 = some r) :
    Calls Tryd.prog 85 #[.string a0, .string a1] w fun e w' => e = .returned (.int .i64 r) ∧ Below w.heap.size w w' := by
  unfold strings_IndexAny.f at h
  split at h
  · rename_i hc
    obtain ⟨rfl, hs⟩ := hc
    obtain rfl := Option.some.inj h
    by_cases h8 : a0.size ≤ 8
    · exact indexAny_short a0 w h8
    · refine (Tryd.strings_IndexAny_long (by intro W; kernel_rfl) a0 ⟨#[60, 38]⟩ w (by decide) (by omega) hs (by decide) ?_).mono ?_
      · intro j b hj
        exact amp_asc b (List.mem_of_getElem? hj)
      · rintro e w' ⟨rfl, rfl⟩
        exact ⟨rfl, ((Below.refl _ _).alloc (Nat.le_refl _) _).alloc (by simp) _⟩
  · cases h
end Go.Proofs.YtmjdjpelhhibgaaDoor.Giv
