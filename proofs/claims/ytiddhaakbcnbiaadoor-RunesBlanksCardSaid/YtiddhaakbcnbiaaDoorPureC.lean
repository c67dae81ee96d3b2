/- The pure statement of the law on blank texts: spaces alone are blank. -/
import Derived.Test.YtiddhaakbcnbiaaDoorR2x3
import Derived.Test.YtiddhaakbcnbiaaDoorPureA
import Derived.Test.YtiddhaakbcnbiaaDoorSpec3
namespace Go.Proofs.YtiddhaakbcnbiaaDoor.Pure
open Go.RowKit Go.Proofs.YtiddhaakbcnbiaaDoorW.PrintWords Go.Proofs.YtiddhaakbcnbiaaDoorW.PrintLast Go.Proofs.YtiddhaakbcnbiaaDoor.Spec Go.Proofs.YtiddhaakbcnbiaaDoor.Giv Go.Proofs.YtiddhaakbcnbiaaDoor.Ref Go.Proofs.YtiddhaakbcnbiaaDoor.Names Go.Proofs.YtiddhaakbcnbiaaDoor.R2
set_option linter.unusedVariables false

def spU (c : UInt8) : Bool := spaceB (c.toNat : Int)
theorem spU_no (n : Nat) (h : 128 ≤ n) (h2 : n < 256) : spU (UInt8.ofNat n) = false := by
  unfold spU spaceB
  rw [decide_eq_false]
  rw [UInt8.toNat_ofNat']
  omega
theorem enc_space (r : Int) (h0 : 0 ≤ r) (h1 : r ≤ 1114111) : (Utf8.encode r).data.toList.all spU = spaceB r := by
  unfold Utf8.encode
  obtain ⟨c, hc⟩ : ∃ c, (if Utf8.valid r then r.toNat else Utf8.runeError) = c := ⟨_, rfl⟩
  have hcl : c ≤ 1114111 := by rw [← hc]; unfold Utf8.runeError; split <;> omega
  have hcr : c < 128 → (c : Int) = r := by
    intro h
    rw [← hc] at h ⊢
    by_cases hv : Utf8.valid r = true
    · rw [if_pos hv] at h ⊢; omega
    · rw [if_neg hv] at h; unfold Utf8.runeError at h; omega
  have hrc : 128 ≤ c → 128 ≤ r := by
    intro h
    by_cases hv : Utf8.valid r = true
    · rw [← hc, if_pos hv] at h; omega
    · unfold Utf8.valid at hv
      simp at hv
      omega
  simp only [hc]
  have hs : 128 ≤ c → spaceB r = false := fun h => by have := hrc h; unfold spaceB; rw [decide_eq_false]; omega
  by_cases c1 : c < 128
  · rw [if_pos c1]
    simp only [List.all_cons, List.all_nil, Bool.and_true]
    unfold spU
    rw [UInt8.toNat_ofNat', Nat.mod_eq_of_lt (by omega), hcr c1]
  · rw [if_neg c1, hs (by omega)]
    by_cases c2 : c < 2048
    · rw [if_pos c2]
      simp only [List.all_cons, spU_no (0xC0 + c / 64) (by omega) (by omega), Bool.false_and]
    · rw [if_neg c2]
      by_cases c3 : c < 65536
      · rw [if_pos c3]
        simp only [List.all_cons, spU_no (0xE0 + c / 4096) (by omega) (by omega), Bool.false_and]
      · rw [if_neg c3]
        simp only [List.all_cons, spU_no (0xF0 + c / 262144) (by omega) (by omega), Bool.false_and]
theorem blank_enc (r : Int) (h0 : 0 ≤ r) (h1 : r ≤ 1114111) : blankB ((⟨#[32, 10]⟩ : ByteArray) ++ Utf8.encode r) = spaceB r := by
  rw [blankB_bytes, app_list, List.all_append]
  rw [show ((⟨#[32, 10]⟩ : ByteArray).data.toList.all fun c => spaceB (c.toNat : Int)) = true by decide, Bool.true_and]
  exact enc_space r h0 h1
def fin (x0 : ByteArray) (x1 x5 : Int) : Option Bool := (brackenlaw1_told.f).bind fun t191 => (if t191 = true then ((runes_Blank.f x0).bind fun t192 => (if (t192 == (x5 == (x0.size : Int))) = true then (if 2 + (Utf8.encode x1).size ≤ 9223372036854775807 then ((runes_Blank.f ((⟨#[32, 10]⟩ : ByteArray) ++ (Utf8.encode x1))).bind fun t193 => ((runes_Space.f x1).bind fun t194 => (some (t193 == t194)))) else (none)) else (some false))) else (some false))
theorem count_loop (s : ByteArray) (r : Int) (hs : s.size ≤ 30) : ∀ (d i n k : Nat), s.size - i = d → i ≤ s.size → n ≤ i → d < k →
    brackenlaw1_RunesBlanks.l0 k s r (n : Int) (i : Int) = fin s r ((n + (s.data.toList.drop i).countP spU : Nat) : Int) := by
  intro d
  induction d with
  | zero =>
    intro i n k h1 h2 h3 hk
    obtain ⟨k, rfl⟩ : ∃ m, k = m + 1 := ⟨k - 1, by omega⟩
    rw [brackenlaw1_RunesBlanks.l0, if_neg (by omega), List.drop_eq_nil_of_le (show s.size ≤ i by omega)]
    rfl
  | succ d ih =>
    intro i n k h1 h2 h3 hk
    obtain ⟨k, rfl⟩ : ∃ m, k = m + 1 := ⟨k - 1, by omega⟩
    have hi : i < s.size := by omega
    have hl : i < s.data.toList.length := hi
    have e : wrap64 ((i : Int) + 1) = ((i + 1 : Nat) : Int) := by rw [wrap64_small] <;> omega
    have e2 : wrap64 ((n : Int) + 1) = ((n + 1 : Nat) : Int) := by rw [wrap64_small] <;> omega
    rw [brackenlaw1_RunesBlanks.l0, if_pos (by omega), if_pos (by omega), bt_B s i hi, e, e2, List.drop_eq_getElem_cons hl, List.countP_cons]
    have hb : spU (s.data.toList[i]) = decide ((B s i : Int) = 32 ∨ (B s i : Int) = 9 ∨ (B s i : Int) = 13 ∨ (B s i : Int) = 10) := by
      unfold spU spaceB B
      rw [get_B s i hi]
    rw [hb, ih (i + 1) (n + 1) k (by omega) (by omega) (by omega) (by omega), ih (i + 1) n k (by omega) (by omega) (by omega) (by omega)]
    by_cases g : (B s i : Int) = 32 ∨ (B s i : Int) = 9 ∨ (B s i : Int) = 13 ∨ (B s i : Int) = 10
    · rw [show n + (List.countP spU (s.data.toList.drop (i + 1)) + if decide ((B s i : Int) = 32 ∨ (B s i : Int) = 9 ∨ (B s i : Int) = 13 ∨ (B s i : Int) = 10) = true then 1 else 0) = n + 1 + List.countP spU (s.data.toList.drop (i + 1)) by rw [if_pos (by simpa using g)]; omega]
      by_cases g1 : (B s i : Int) = 32
      · rw [if_pos g1]
      rw [if_neg g1]
      by_cases g2 : (B s i : Int) = 9
      · rw [if_pos g2]
      rw [if_neg g2]
      by_cases g3 : (B s i : Int) = 10
      · rw [if_pos g3]
      rw [if_neg g3, if_pos (by omega)]
    · rw [show n + (List.countP spU (s.data.toList.drop (i + 1)) + if decide ((B s i : Int) = 32 ∨ (B s i : Int) = 9 ∨ (B s i : Int) = 13 ∨ (B s i : Int) = 10) = true then 1 else 0) = n + List.countP spU (s.data.toList.drop (i + 1)) by rw [if_neg (by simpa using g)]; omega]
      rw [if_neg (by omega), if_neg (by omega), if_neg (by omega), if_neg (by omega)]
theorem enc_len (r : Int) : (Utf8.encode r).size ≤ 4 := by
  unfold Utf8.encode
  simp only []
  repeat' split
  all_goals simp [ByteArray.size]
theorem fin_true (s : ByteArray) (r : Int) (h0 : 0 ≤ r) (h1 : r ≤ 1114111) : fin s r ((s.data.toList.countP spU : Nat) : Int) = some true := by
  have hl : s.data.toList.length = s.size := rfl
  unfold fin runes_Blank.f runes_Space.f
  rw [told_true]
  simp only [Option.bind_some, if_true]
  have hc : (blankB s == (((s.data.toList.countP spU : Nat) : Int) == (s.size : Int))) = true := by
    rw [blankB_bytes, beq_iff_eq, Bool.eq_iff_iff, beq_iff_eq, List.all_eq_true]
    have h2 : (((s.data.toList.countP spU : Nat) : Int) = (s.size : Int)) ↔ s.data.toList.countP spU = s.data.toList.length := by omega
    rw [h2, List.countP_eq_length]
    rfl
  have he := enc_len r
  rw [hc, if_pos rfl, if_pos (by omega), blank_enc r h0 h1]
  simp
theorem RunesBlanks : brackenlaw1_RunesBlanks.Pure := by
  intro a r wa wr
  refine ⟨a.size + 10, ?_⟩
  unfold brackenlaw1_RunesBlanks.f
  by_cases h : (a.size : Int) > 30
  · rw [if_pos h, brackenlaw1_RunesBlanks.j0, if_pos rfl, told_true]; rfl
  rw [if_neg h]
  by_cases h2 : r < 0
  · rw [if_pos h2, brackenlaw1_RunesBlanks.j0, if_pos rfl, told_true]; rfl
  rw [if_neg h2]
  by_cases h3 : r > 1114111
  · rw [brackenlaw1_RunesBlanks.j0, if_pos (decide_eq_true h3), told_true]; rfl
  rw [brackenlaw1_RunesBlanks.j0, if_neg (by rw [decide_eq_true_eq]; exact h3)]
  have := count_loop a r (by omega) a.size 0 0 (a.size + 9) (by omega) (by omega) (by omega) (by omega)
  rw [List.drop_zero, Nat.zero_add] at this
  rw [show brackenlaw1_RunesBlanks.l0 (a.size + 9) a r 0 0 = _ from this]
  exact fin_true a r (by omega) (by omega)

end Go.Proofs.YtiddhaakbcnbiaaDoor.Pure
