/- The pure statement of the law on names: a name goes on as long as parts do, and begins with a start. -/
import Derived.Test.YtiddhaakbcnbiaaDoorR2x3
import Derived.Test.YtiddhaakbcnbiaaDoorPureA
import Derived.Test.YtiddhaakbcnbiaaDoorEnc
namespace Go.Proofs.YtiddhaakbcnbiaaDoor.Pure
open Go.RowKit Go.Proofs.YtiddhaakbcnbiaaDoorW.PrintWords Go.Proofs.YtiddhaakbcnbiaaDoorW.PrintLast Go.Proofs.YtiddhaakbcnbiaaDoor.Spec Go.Proofs.YtiddhaakbcnbiaaDoor.Giv Go.Proofs.YtiddhaakbcnbiaaDoor.Ref Go.Proofs.YtiddhaakbcnbiaaDoor.Names Go.Proofs.YtiddhaakbcnbiaaDoor.R2
set_option linter.unusedVariables false

theorem empty_app (a : ByteArray) : (⟨#[]⟩ : ByteArray) ++ a = a := by
  apply ByteArray.ext
  apply Array.ext'
  rw [app_list]
  rfl
theorem name_a : nameB ⟨#[97]⟩ = true := by decide +kernel
theorem name_u : nameB ⟨#[95]⟩ = true := by decide +kernel
theorem part_m : partsB ⟨#[45]⟩ = true := by decide +kernel
theorem names_end (s : ByteArray) (ok : Bool) (hs : s.size ≤ 100) (h : nameB s = ok) :
    ((brackenlaw1_told.f).bind fun t186 => (if t186 = true then ((runes_Name.f s).bind fun t187 => (if (t187 == ok) = true then (if ok = true then (if 1 + s.size ≤ 9223372036854775807 then ((runes_Name.f ((⟨#[97]⟩ : ByteArray) ++ s)).bind fun t188 => (if t188 = true then (if 1 + s.size + 1 ≤ 9223372036854775807 then ((runes_Name.f (((⟨#[95]⟩ : ByteArray) ++ s) ++ (⟨#[45]⟩ : ByteArray))).bind fun t189 => (some t189)) else (none)) else (some false))) else (none)) else (some true)) else (some false))) else (some false))) = some true := by
  have z1 : ((⟨#[97]⟩ : ByteArray) ++ s).size = 1 + s.size := by rw [app_size]; rfl
  have z2 : (((⟨#[95]⟩ : ByteArray) ++ s) ++ (⟨#[45]⟩ : ByteArray)).size = 1 + s.size + 1 := by rw [app_size, app_size]; rfl
  unfold runes_Name.f
  rw [told_true, if_pos (show s.size < 4294967281 by omega), if_pos (show ((⟨#[97]⟩ : ByteArray) ++ s).size < 4294967281 by omega), if_pos (show (((⟨#[95]⟩ : ByteArray) ++ s) ++ (⟨#[45]⟩ : ByteArray)).size < 4294967281 by omega)]
  simp only [Option.bind_some, if_true]
  rw [h]
  cases ok with
  | false => rfl
  | true =>
    have hp := parts_of_name h
    rw [if_pos (by decide), if_pos rfl, if_pos (by omega), name_then _ _ name_a hp, if_pos rfl, if_pos (by omega), name_then _ _ (name_then _ _ name_u hp) part_m]
theorem names_loop (l : List Int) (hl : l.length ≤ 20) : ∀ (d i k : Nat) (s : ByteArray) (ok : Bool), l.length - i = d → i ≤ l.length → d < k → s.size ≤ 4 * i → validB s = true →
    (i = 0 → s = ⟨#[]⟩ ∧ ok = decide ((l.length : Int) > 0)) → (0 < i → 0 < s.size ∧ nameB s = ok) →
    brackenlaw1_RunesNames.l0 k l s ok (i : Int) = some true := by
  intro d
  induction d with
  | zero =>
    intro i k s ok h1 h2 h3 hz hv h0 hi
    obtain ⟨k, rfl⟩ : ∃ m, k = m + 1 := ⟨k - 1, by omega⟩
    rw [brackenlaw1_RunesNames.l0, if_neg (by omega)]
    refine names_end s ok (by omega) ?_
    by_cases hi0 : i = 0
    · obtain ⟨e1, e2⟩ := h0 hi0
      have : ¬ ((l.length : Int) > 0) := by omega
      rw [e1, e2, decide_eq_false this]
      decide +kernel
    · exact (hi (by omega)).2
  | succ d ih =>
    intro i k s ok h1 h2 h3 hz hv h0 hi
    obtain ⟨k, rfl⟩ : ∃ m, k = m + 1 := ⟨k - 1, by omega⟩
    rw [brackenlaw1_RunesNames.l0, if_pos (by omega), if_pos (by omega)]
    unfold brackenref1_Char.f
    rw [Option.bind_some]
    obtain ⟨r, hr⟩ : ∃ r, rd l (i : Int) = r := ⟨_, rfl⟩
    rw [hr]
    cases hc : charB r with
    | false => rw [if_neg (by decide), told_true]; rfl
    | true =>
      obtain ⟨cv, cp⟩ := char_valid r hc
      have he := enc_size r
      have he1 := (enc_dec r cv).2
      have e : wrap64 ((i : Int) + 1) = ((i + 1 : Nat) : Int) := by rw [wrap64_small] <;> omega
      have hz2 : (s ++ Utf8.encode r).size = s.size + (Utf8.encode r).size := app_size _ _
      have hv2 : validB (s ++ Utf8.encode r) = true := by rw [validB_two s _ hv, enc_validB r cv]
      rw [if_pos rfl, if_pos (by omega), e]
      have go : ∀ ok2, nameB (s ++ Utf8.encode r) = ok2 → brackenlaw1_RunesNames.l0 k l (s ++ Utf8.encode r) ok2 ((i + 1 : Nat) : Int) = some true := fun ok2 h =>
        ih (i + 1) k _ ok2 (by omega) (by omega) (by omega) (by omega) hv2 (fun h => by omega) (fun _ => ⟨by omega, h⟩)
      unfold runes_Part.f runes_Start.f
      simp only [Option.bind_some]
      by_cases hi0 : i = 0
      · obtain ⟨e1, e2⟩ := h0 hi0
        have hlt : (l.length : Int) > 0 := by omega
        have e3 : ok = true := by rw [e2]; exact decide_eq_true hlt
        have e4 : nameB (s ++ Utf8.encode r) = (startB r && partB r) := by rw [e1, empty_app]; exact nameB_one r cv cp
        rw [e3, if_pos rfl, if_neg (by omega : ¬ ((i : Int) > 0))]
        cases hp : partB r with
        | true => rw [if_pos rfl]; exact go _ (by rw [e4, hp, Bool.and_true])
        | false => rw [if_neg (by decide)]; exact go _ (by rw [e4, hp, Bool.and_false])
      · obtain ⟨e1, e2⟩ := hi (by omega)
        have e4 : nameB (s ++ Utf8.encode r) = (ok && partB r) := by rw [nameB_enc s r hv e1 cv cp, e2]
        cases ok with
        | true =>
          rw [if_pos rfl, if_pos (by omega : ((i : Int) > 0))]
          cases hp : partB r with
          | true => rw [if_pos rfl]; exact go _ (by rw [e4, hp]; rfl)
          | false => rw [if_neg (by decide)]; exact go _ (by rw [e4, hp]; rfl)
        | false => rw [if_neg (by decide)]; exact go _ (by rw [e4]; rfl)
theorem RunesNames : brackenlaw1_RunesNames.Pure := by
  intro l hl hb hw
  refine ⟨l.length + 5, ?_⟩
  unfold brackenlaw1_RunesNames.f
  by_cases h : (l.length : Int) > 20
  · rw [if_pos h, told_true]; rfl
  · rw [if_neg h]
    exact names_loop l (by omega) l.length 0 _ _ _ (by omega) (by omega) (by omega) (by decide) (by decide +kernel) (fun _ => ⟨rfl, rfl⟩) (fun h => by omega)

end Go.Proofs.YtiddhaakbcnbiaaDoor.Pure
