/- A character that is encoded is read as itself. Plain facts on bytes; no program here. -/
import Derived.Test.YtmjdjpelhhibgaaGreatDoorSpec3
namespace Go.Proofs.YtmjdjpelhhibgaaGreatDoor.Spec
open Go

theorem ofNat_get (n : Nat) (h : n < 256) : (UInt8.ofNat n).toNat = n := by rw [UInt8.toNat_ofNat']; omega
set_option maxRecDepth 100000 in
/-- A valid code point's bytes are read as it. -/
theorem enc_dec (r : Int) (hv : Utf8.valid r = true) : Utf8.decode (Utf8.encode r) 0 = (r.toNat, (Utf8.encode r).size) ∧ 1 ≤ (Utf8.encode r).size := by
  have hr : 0 ≤ r ∧ (r < 55296 ∨ (57344 ≤ r ∧ r ≤ 1114111)) := by
    unfold Utf8.valid at hv
    simp at hv
    omega
  rw [Lib.decode_at]
  unfold Utf8.encode
  simp only [hv, if_true]
  obtain ⟨c, hc⟩ : ∃ c, r.toNat = c := ⟨_, rfl⟩
  have hcl : c < 55296 ∨ (57344 ≤ c ∧ c ≤ 1114111) := by omega
  rw [hc]
  by_cases c1 : c < 128
  · rw [if_pos c1]
    refine ⟨?_, Nat.le_refl _⟩
    show Lib.decodeN 1 (UInt8.ofNat c).toNat _ _ _ = (c, 1)
    rw [ofNat_get c (by omega)]
    unfold Lib.decodeN
    rw [if_pos c1]
  rw [if_neg c1]
  by_cases c2 : c < 2048
  · rw [if_pos c2]
    refine ⟨?_, by show 1 ≤ 2; omega⟩
    show Lib.decodeN 2 (UInt8.ofNat (0xC0 + c / 64)).toNat (UInt8.ofNat (0x80 + c % 64)).toNat _ _ = (c, 2)
    rw [ofNat_get _ (by omega), ofNat_get _ (by omega)]
    unfold Lib.decodeN
    rw [if_neg (by omega), if_pos (by omega), if_pos (by omega)]
    congr 1
    omega
  rw [if_neg c2]
  by_cases c3 : c < 65536
  · rw [if_pos c3]
    refine ⟨?_, by show 1 ≤ 3; omega⟩
    show Lib.decodeN 3 (UInt8.ofNat (0xE0 + c / 4096)).toNat (UInt8.ofNat (0x80 + c / 64 % 64)).toNat (UInt8.ofNat (0x80 + c % 64)).toNat _ = (c, 3)
    rw [ofNat_get _ (by omega), ofNat_get _ (by omega), ofNat_get _ (by omega)]
    unfold Lib.decodeN
    rw [if_neg (by omega), if_neg (by omega), if_pos (by omega)]
    have e : (0xE0 + c / 4096) % 16 * 4096 + (0x80 + c / 64 % 64) % 64 * 64 + (0x80 + c % 64) % 64 = c := by omega
    rw [e, if_pos (by omega)]
  · rw [if_neg c3]
    refine ⟨?_, by show 1 ≤ 4; omega⟩
    show Lib.decodeN 4 (UInt8.ofNat (0xF0 + c / 262144)).toNat (UInt8.ofNat (0x80 + c / 4096 % 64)).toNat (UInt8.ofNat (0x80 + c / 64 % 64)).toNat (UInt8.ofNat (0x80 + c % 64)).toNat = (c, 4)
    rw [ofNat_get _ (by omega), ofNat_get _ (by omega), ofNat_get _ (by omega), ofNat_get _ (by omega)]
    unfold Lib.decodeN
    rw [if_neg (by omega), if_neg (by omega), if_neg (by omega), if_pos (by omega)]
    have e : (0xF0 + c / 262144) % 8 * 262144 + (0x80 + c / 4096 % 64) % 64 * 4096 + (0x80 + c / 64 % 64) % 64 * 64 + (0x80 + c % 64) % 64 = c := by omega
    rw [e, if_pos (by omega)]
theorem char_valid (r : Int) (h : charB r = true) : Utf8.valid r = true ∧ 0 ≤ r := by
  unfold charB at h
  simp only [decide_eq_true_eq] at h
  unfold Utf8.valid
  simp
  omega
theorem enc_ok (r : Int) (hv : Utf8.valid r = true) : okAt (Utf8.encode r) 0 = true := by
  rw [okAt_iff, (enc_dec r hv).1]
  rintro ⟨h1, h2⟩
  simp only at h1 h2
  have : r = 65533 := by omega
  subst this
  exact absurd h2 (by decide)
/-- One character: all of the encoded text. -/
theorem enc_all (q : Nat → Bool) (r : Int) (hv : Utf8.valid r = true) : goAll q (Utf8.encode r) (Utf8.encode r).size 0 = q 0 := by
  obtain ⟨h1, h2⟩ := enc_dec r hv
  obtain ⟨n, hn⟩ : ∃ n, (Utf8.encode r).size = n + 1 := ⟨(Utf8.encode r).size - 1, by omega⟩
  rw [hn, goAll_succ _ _ _ _ (by omega), h1, goAll_end _ _ _ _ (by simp), Bool.and_true]
theorem enc_validB (r : Int) (hv : Utf8.valid r = true) : validB (Utf8.encode r) = true := by
  unfold validB
  rw [enc_all _ r hv, enc_ok r hv]
theorem enc_parts (r : Int) (hv : Utf8.valid r = true) (h0 : 0 ≤ r) : partsB (Utf8.encode r) = partB r := by
  unfold partsB
  rw [enc_all _ r hv, enc_ok r hv, (enc_dec r hv).1, Bool.true_and]
  simp only []
  rw [Int.toNat_of_nonneg h0]
theorem validB_two (a t : ByteArray) (hv : validB a = true) : validB (a ++ t) = validB t := by
  have h := go_two (fun _ => true) a t hv
  simp only [Bool.and_true] at h
  unfold validB at hv ⊢
  rw [h, hv, Bool.true_and]
theorem enc_size (r : Int) : (Utf8.encode r).size ≤ 4 := by
  unfold Utf8.encode
  simp only []
  repeat' split
  all_goals simp [ByteArray.size]
theorem ok0_of_valid {a : ByteArray} (h : validB a = true) (h0 : 0 < a.size) : okAt a 0 = true := by
  obtain ⟨n, hn⟩ : ∃ n, a.size = n + 1 := ⟨a.size - 1, by omega⟩
  unfold validB at h
  rw [hn, goAll_succ _ _ _ _ h0, Bool.and_eq_true] at h
  exact h.1
/-- A name one character longer. -/
theorem nameB_enc (a : ByteArray) (r : Int) (hv : validB a = true) (h0 : 0 < a.size) (hr : Utf8.valid r = true) (hr0 : 0 ≤ r) : nameB (a ++ Utf8.encode r) = (nameB a && partB r) := by
  rw [nameB_parts, nameB_parts, partsB_two a _ hv, enc_parts r hr hr0, dec_app a _ 0 h0 (ok0_of_valid hv h0), app_size]
  have e1 : decide (0 < a.size + (Utf8.encode r).size) = true := decide_eq_true (by omega)
  have e2 : decide (0 < a.size) = true := decide_eq_true h0
  rw [e1, e2]
  simp [Bool.and_assoc]
theorem nameB_one (r : Int) (hr : Utf8.valid r = true) (hr0 : 0 ≤ r) : nameB (Utf8.encode r) = (startB r && partB r) := by
  rw [nameB_parts, enc_parts r hr hr0, (enc_dec r hr).1]
  have e1 : decide (0 < (Utf8.encode r).size) = true := decide_eq_true (enc_dec r hr).2
  rw [e1, Bool.true_and]
  simp only []
  rw [Int.toNat_of_nonneg hr0]
end Go.Proofs.YtmjdjpelhhibgaaGreatDoor.Spec
