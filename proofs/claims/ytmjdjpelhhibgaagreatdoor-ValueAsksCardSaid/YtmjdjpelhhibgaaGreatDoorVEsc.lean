/- The document's own texts, as they are written. -/
import Derived.Test.YtmjdjpelhhibgaaGreatDoorVAttr
import Derived.Test.YtmjdjpelhhibgaaGreatDoorVNormR
namespace Go.Proofs.YtmjdjpelhhibgaaGreatDoor.Val
open Go Go.RowKit Go.Proofs.YtmjdjpelhhibgaaGreatDoor.Rf Go.Proofs.YtmjdjpelhhibgaaGreatDoor.Spec Go.Proofs.YtmjdjpelhhibgaaGreatDoor.Giv Go.Proofs.YtmjdjpelhhibgaaGreatDoor.Rep
set_option linter.unusedVariables false
set_option linter.unusedSimpArgs false
theorem byte_is (c v : UInt8) (h : c = v) (x : Int) (hx : (v.toNat : Int) = x) : ((c.toNat : Int) == x) = true := by subst h; rw [hx]; simp
theorem byte_not (c v : UInt8) (h : c ≠ v) (x : Int) (hx : (v.toNat : Int) = x) : ((c.toNat : Int) == x) = false := by
  rw [beq_eq_false_iff_ne]
  intro e
  exact h (UInt8.toNat_inj.1 (by omega))
theorem esc_step (M : List (UInt8 × ByteArray)) (s A x : ByteArray) (k : Nat) (c : UInt8) (hd : s.data.toList[k]? = some c) (hA : A.data.toList = repl M (s.data.toList.take k)) (h1 : one M c = x.data.toList) : (A ++ x).data.toList = repl M (s.data.toList.take (k + 1)) := by
  rw [app_list, hA, List.take_add_one, hd, ← h1]
  exact (repl_snoc M _ c).symm
set_option maxRecDepth 100000 in
set_option maxHeartbeats 4000000 in
theorem escAttr_any (s : ByteArray) (w : World) (hs : s.size ≤ 1000000000) :
    Calls Tryz.prog 22 #[.string s, .bool true] w fun e w' => e = .returned (.string ⟨(repl attrM s.data.toList).toArray⟩) ∧ w = w' := by
  obtain ⟨R, hR⟩ : ∃ R, repl attrM s.data.toList = R := ⟨_, rfl⟩
  rw [hR]
  have HR := Lib.hid hR
  clear hR
  go_enter Tryz.func22, Tryz.ntmps22
  go_wp2
  go_loop [6, 5] (fun i o => ∃ (k : Nat) (A : ByteArray), i = .int .i64 k ∧ o = .string A ∧ k ≤ s.size ∧ A.size ≤ 6 * k ∧ Hid (A.data.toList = repl attrM (s.data.toList.take k))) (fun i _ => s.size - (intOf i).toNat)
  case atStart => exact ⟨0, ⟨#[]⟩, rfl, rfl, by omega, Nat.le_refl _, (rfl : ([] : List UInt8) = repl attrM [])⟩
  case round =>
    obtain ⟨k, A, rfl, rfl, hk, hA, HN⟩ := hrel
    by_cases hlt : k < s.size
    · obtain ⟨c, hc⟩ : ∃ c, s[k]'hlt = c := ⟨_, rfl⟩
      have hd : s.data.toList[k]? = some c := by rw [← hc]; exact Lib.data_getElem? s k hlt
      have hex : (s.extract k (k + 1)).data.toList = [c] := by rw [← hc]; exact ext_one' s k hlt
      have hez : (s.extract k (k + 1)).size = 1 := by simp; omega
      have HS := Lib.hid (fun x => esc_step attrM s A x k c hd HN.out)
      have HX := Lib.hid hex
      clear hd hex HN
      by_cases h38 : c = 38
      · have t38 := byte_is c 38 h38 38 rfl
        have t60 : ((c.toNat : Int) == 60) = false := by rw [h38]; rfl
        have t62 : ((c.toNat : Int) == 62) = false := by rw [h38]; rfl
        have t13 : ((c.toNat : Int) == 13) = false := by rw [h38]; rfl
        have t34 : ((c.toNat : Int) == 34) = false := by rw [h38]; rfl
        have t9 : ((c.toNat : Int) == 9) = false := by rw [h38]; rfl
        have t10 : ((c.toNat : Int) == 10) = false := by rw [h38]; rfl
        have HY := Lib.hid (HS.out ⟨#[38, 97, 109, 112, 59]⟩ (by rw [h38]; rfl))
        clear HS h38
        go_wp2
        go_round
        case rel => exact ⟨k + 1, _, by go_num, rfl, by omega, by rw [ByteArray.size_append]; show A.size + 5 ≤ _; omega, HY⟩
        case measure => simp [intOf]; omega
      have t38 := byte_not c 38 h38 38 rfl
      by_cases h60 : c = 60
      · have t60 := byte_is c 60 h60 60 rfl
        have t38 : ((c.toNat : Int) == 38) = false := by rw [h60]; rfl
        have t62 : ((c.toNat : Int) == 62) = false := by rw [h60]; rfl
        have t13 : ((c.toNat : Int) == 13) = false := by rw [h60]; rfl
        have t34 : ((c.toNat : Int) == 34) = false := by rw [h60]; rfl
        have t9 : ((c.toNat : Int) == 9) = false := by rw [h60]; rfl
        have t10 : ((c.toNat : Int) == 10) = false := by rw [h60]; rfl
        have HY := Lib.hid (HS.out ⟨#[38, 108, 116, 59]⟩ (by rw [h60]; rfl))
        clear HS h60
        go_wp2
        go_round
        case rel => exact ⟨k + 1, _, by go_num, rfl, by omega, by rw [ByteArray.size_append]; show A.size + 4 ≤ _; omega, HY⟩
        case measure => simp [intOf]; omega
      have t60 := byte_not c 60 h60 60 rfl
      by_cases h62 : c = 62
      · have t62 := byte_is c 62 h62 62 rfl
        have t38 : ((c.toNat : Int) == 38) = false := by rw [h62]; rfl
        have t60 : ((c.toNat : Int) == 60) = false := by rw [h62]; rfl
        have t13 : ((c.toNat : Int) == 13) = false := by rw [h62]; rfl
        have t34 : ((c.toNat : Int) == 34) = false := by rw [h62]; rfl
        have t9 : ((c.toNat : Int) == 9) = false := by rw [h62]; rfl
        have t10 : ((c.toNat : Int) == 10) = false := by rw [h62]; rfl
        have HY := Lib.hid (HS.out (s.extract k (k + 1)) (by rw [HX.out, h62]; rfl))
        clear HS h62
        go_wp2
        go_round
        case rel => exact ⟨k + 1, _, by go_num, rfl, by omega, by rw [ByteArray.size_append, hez]; omega, HY⟩
        case measure => simp [intOf]; omega
      have t62 := byte_not c 62 h62 62 rfl
      by_cases h13 : c = 13
      · have t13 := byte_is c 13 h13 13 rfl
        have t38 : ((c.toNat : Int) == 38) = false := by rw [h13]; rfl
        have t60 : ((c.toNat : Int) == 60) = false := by rw [h13]; rfl
        have t62 : ((c.toNat : Int) == 62) = false := by rw [h13]; rfl
        have t34 : ((c.toNat : Int) == 34) = false := by rw [h13]; rfl
        have t9 : ((c.toNat : Int) == 9) = false := by rw [h13]; rfl
        have t10 : ((c.toNat : Int) == 10) = false := by rw [h13]; rfl
        have HY := Lib.hid (HS.out ⟨#[38, 35, 49, 51, 59]⟩ (by rw [h13]; rfl))
        clear HS h13
        go_wp2
        go_round
        case rel => exact ⟨k + 1, _, by go_num, rfl, by omega, by rw [ByteArray.size_append]; show A.size + 5 ≤ _; omega, HY⟩
        case measure => simp [intOf]; omega
      have t13 := byte_not c 13 h13 13 rfl
      by_cases h34 : c = 34
      · have t34 := byte_is c 34 h34 34 rfl
        have t38 : ((c.toNat : Int) == 38) = false := by rw [h34]; rfl
        have t60 : ((c.toNat : Int) == 60) = false := by rw [h34]; rfl
        have t62 : ((c.toNat : Int) == 62) = false := by rw [h34]; rfl
        have t13 : ((c.toNat : Int) == 13) = false := by rw [h34]; rfl
        have t9 : ((c.toNat : Int) == 9) = false := by rw [h34]; rfl
        have t10 : ((c.toNat : Int) == 10) = false := by rw [h34]; rfl
        have HY := Lib.hid (HS.out ⟨#[38, 113, 117, 111, 116, 59]⟩ (by rw [h34]; rfl))
        clear HS h34
        go_wp2
        go_round
        case rel => exact ⟨k + 1, _, by go_num, rfl, by omega, by rw [ByteArray.size_append]; show A.size + 6 ≤ _; omega, HY⟩
        case measure => simp [intOf]; omega
      have t34 := byte_not c 34 h34 34 rfl
      by_cases h9 : c = 9
      · have t9 := byte_is c 9 h9 9 rfl
        have t38 : ((c.toNat : Int) == 38) = false := by rw [h9]; rfl
        have t60 : ((c.toNat : Int) == 60) = false := by rw [h9]; rfl
        have t62 : ((c.toNat : Int) == 62) = false := by rw [h9]; rfl
        have t13 : ((c.toNat : Int) == 13) = false := by rw [h9]; rfl
        have t34 : ((c.toNat : Int) == 34) = false := by rw [h9]; rfl
        have t10 : ((c.toNat : Int) == 10) = false := by rw [h9]; rfl
        have HY := Lib.hid (HS.out ⟨#[38, 35, 57, 59]⟩ (by rw [h9]; rfl))
        clear HS h9
        go_wp2
        go_round
        case rel => exact ⟨k + 1, _, by go_num, rfl, by omega, by rw [ByteArray.size_append]; show A.size + 4 ≤ _; omega, HY⟩
        case measure => simp [intOf]; omega
      have t9 := byte_not c 9 h9 9 rfl
      by_cases h10 : c = 10
      · have t10 := byte_is c 10 h10 10 rfl
        have t38 : ((c.toNat : Int) == 38) = false := by rw [h10]; rfl
        have t60 : ((c.toNat : Int) == 60) = false := by rw [h10]; rfl
        have t62 : ((c.toNat : Int) == 62) = false := by rw [h10]; rfl
        have t13 : ((c.toNat : Int) == 13) = false := by rw [h10]; rfl
        have t34 : ((c.toNat : Int) == 34) = false := by rw [h10]; rfl
        have t9 : ((c.toNat : Int) == 9) = false := by rw [h10]; rfl
        have HY := Lib.hid (HS.out ⟨#[38, 35, 49, 48, 59]⟩ (by rw [h10]; rfl))
        clear HS h10
        go_wp2
        go_round
        case rel => exact ⟨k + 1, _, by go_num, rfl, by omega, by rw [ByteArray.size_append]; show A.size + 5 ≤ _; omega, HY⟩
        case measure => simp [intOf]; omega
      have t10 := byte_not c 10 h10 10 rfl
      have ho : one attrM c = [c] := by
        have e : ∀ v : UInt8, c ≠ v → (v == c) = false := fun v hv => by rw [beq_eq_false_iff_ne]; exact fun e => hv e.symm
        simp [one, Rep.look, attrM, List.find?, e _ h38, e _ h60, e _ h62, e _ h13, e _ h34, e _ h9, e _ h10]
      have HY := Lib.hid (HS.out (s.extract k (k + 1)) (by rw [HX.out, ho]))
      clear HS ho h38 h60 h62 h13 h34 h9 h10
      go_wp2
      go_round
      case rel => exact ⟨k + 1, _, by go_num, rfl, by omega, by rw [ByteArray.size_append, hez]; omega, HY⟩
      case measure => simp [intOf]; omega
    · have hn := HN.out
      rw [List.take_of_length_le (by have : s.data.toList.length = s.size := rfl; omega), HR.out] at hn
      have HF : Hid (A = ⟨R.toArray⟩) := by
        show A = _
        apply ByteArray.ext
        apply Array.toList_inj.mp
        exact hn
      clear HN hn HR
      go_wp2
      go_ret
      exact ⟨by rw [HF.out]; rfl, rfl⟩
set_option maxRecDepth 100000 in
set_option maxHeartbeats 4000000 in
theorem escText_any (s : ByteArray) (w : World) (hs : s.size ≤ 1000000000) :
    Calls Tryz.prog 22 #[.string s, .bool false] w fun e w' => e = .returned (.string ⟨(repl textM s.data.toList).toArray⟩) ∧ w = w' := by
  obtain ⟨R, hR⟩ : ∃ R, repl textM s.data.toList = R := ⟨_, rfl⟩
  rw [hR]
  have HR := Lib.hid hR
  clear hR
  go_enter Tryz.func22, Tryz.ntmps22
  go_wp2
  go_loop [6, 5] (fun i o => ∃ (k : Nat) (A : ByteArray), i = .int .i64 k ∧ o = .string A ∧ k ≤ s.size ∧ A.size ≤ 6 * k ∧ Hid (A.data.toList = repl textM (s.data.toList.take k))) (fun i _ => s.size - (intOf i).toNat)
  case atStart => exact ⟨0, ⟨#[]⟩, rfl, rfl, by omega, Nat.le_refl _, (rfl : ([] : List UInt8) = repl textM [])⟩
  case round =>
    obtain ⟨k, A, rfl, rfl, hk, hA, HN⟩ := hrel
    by_cases hlt : k < s.size
    · obtain ⟨c, hc⟩ : ∃ c, s[k]'hlt = c := ⟨_, rfl⟩
      have hd : s.data.toList[k]? = some c := by rw [← hc]; exact Lib.data_getElem? s k hlt
      have hex : (s.extract k (k + 1)).data.toList = [c] := by rw [← hc]; exact ext_one' s k hlt
      have hez : (s.extract k (k + 1)).size = 1 := by simp; omega
      have HS := Lib.hid (fun x => esc_step textM s A x k c hd HN.out)
      have HX := Lib.hid hex
      clear hd hex HN
      by_cases h38 : c = 38
      · have t38 := byte_is c 38 h38 38 rfl
        have t60 : ((c.toNat : Int) == 60) = false := by rw [h38]; rfl
        have t62 : ((c.toNat : Int) == 62) = false := by rw [h38]; rfl
        have t13 : ((c.toNat : Int) == 13) = false := by rw [h38]; rfl
        have t34 : ((c.toNat : Int) == 34) = false := by rw [h38]; rfl
        have t9 : ((c.toNat : Int) == 9) = false := by rw [h38]; rfl
        have t10 : ((c.toNat : Int) == 10) = false := by rw [h38]; rfl
        have HY := Lib.hid (HS.out ⟨#[38, 97, 109, 112, 59]⟩ (by rw [h38]; rfl))
        clear HS h38
        go_wp2
        go_round
        case rel => exact ⟨k + 1, _, by go_num, rfl, by omega, by rw [ByteArray.size_append]; show A.size + 5 ≤ _; omega, HY⟩
        case measure => simp [intOf]; omega
      have t38 := byte_not c 38 h38 38 rfl
      by_cases h60 : c = 60
      · have t60 := byte_is c 60 h60 60 rfl
        have t38 : ((c.toNat : Int) == 38) = false := by rw [h60]; rfl
        have t62 : ((c.toNat : Int) == 62) = false := by rw [h60]; rfl
        have t13 : ((c.toNat : Int) == 13) = false := by rw [h60]; rfl
        have t34 : ((c.toNat : Int) == 34) = false := by rw [h60]; rfl
        have t9 : ((c.toNat : Int) == 9) = false := by rw [h60]; rfl
        have t10 : ((c.toNat : Int) == 10) = false := by rw [h60]; rfl
        have HY := Lib.hid (HS.out ⟨#[38, 108, 116, 59]⟩ (by rw [h60]; rfl))
        clear HS h60
        go_wp2
        go_round
        case rel => exact ⟨k + 1, _, by go_num, rfl, by omega, by rw [ByteArray.size_append]; show A.size + 4 ≤ _; omega, HY⟩
        case measure => simp [intOf]; omega
      have t60 := byte_not c 60 h60 60 rfl
      by_cases h62 : c = 62
      · have t62 := byte_is c 62 h62 62 rfl
        have t38 : ((c.toNat : Int) == 38) = false := by rw [h62]; rfl
        have t60 : ((c.toNat : Int) == 60) = false := by rw [h62]; rfl
        have t13 : ((c.toNat : Int) == 13) = false := by rw [h62]; rfl
        have t34 : ((c.toNat : Int) == 34) = false := by rw [h62]; rfl
        have t9 : ((c.toNat : Int) == 9) = false := by rw [h62]; rfl
        have t10 : ((c.toNat : Int) == 10) = false := by rw [h62]; rfl
        have HY := Lib.hid (HS.out ⟨#[38, 103, 116, 59]⟩ (by rw [h62]; rfl))
        clear HS h62
        go_wp2
        go_round
        case rel => exact ⟨k + 1, _, by go_num, rfl, by omega, by rw [ByteArray.size_append]; show A.size + 4 ≤ _; omega, HY⟩
        case measure => simp [intOf]; omega
      have t62 := byte_not c 62 h62 62 rfl
      by_cases h13 : c = 13
      · have t13 := byte_is c 13 h13 13 rfl
        have t38 : ((c.toNat : Int) == 38) = false := by rw [h13]; rfl
        have t60 : ((c.toNat : Int) == 60) = false := by rw [h13]; rfl
        have t62 : ((c.toNat : Int) == 62) = false := by rw [h13]; rfl
        have t34 : ((c.toNat : Int) == 34) = false := by rw [h13]; rfl
        have t9 : ((c.toNat : Int) == 9) = false := by rw [h13]; rfl
        have t10 : ((c.toNat : Int) == 10) = false := by rw [h13]; rfl
        have HY := Lib.hid (HS.out ⟨#[38, 35, 49, 51, 59]⟩ (by rw [h13]; rfl))
        clear HS h13
        go_wp2
        go_round
        case rel => exact ⟨k + 1, _, by go_num, rfl, by omega, by rw [ByteArray.size_append]; show A.size + 5 ≤ _; omega, HY⟩
        case measure => simp [intOf]; omega
      have t13 := byte_not c 13 h13 13 rfl
      by_cases h34 : c = 34
      · have t34 := byte_is c 34 h34 34 rfl
        have t38 : ((c.toNat : Int) == 38) = false := by rw [h34]; rfl
        have t60 : ((c.toNat : Int) == 60) = false := by rw [h34]; rfl
        have t62 : ((c.toNat : Int) == 62) = false := by rw [h34]; rfl
        have t13 : ((c.toNat : Int) == 13) = false := by rw [h34]; rfl
        have t9 : ((c.toNat : Int) == 9) = false := by rw [h34]; rfl
        have t10 : ((c.toNat : Int) == 10) = false := by rw [h34]; rfl
        have HY := Lib.hid (HS.out (s.extract k (k + 1)) (by rw [HX.out, h34]; rfl))
        clear HS h34
        go_wp2
        go_round
        case rel => exact ⟨k + 1, _, by go_num, rfl, by omega, by rw [ByteArray.size_append, hez]; omega, HY⟩
        case measure => simp [intOf]; omega
      have t34 := byte_not c 34 h34 34 rfl
      by_cases h9 : c = 9
      · have t9 := byte_is c 9 h9 9 rfl
        have t38 : ((c.toNat : Int) == 38) = false := by rw [h9]; rfl
        have t60 : ((c.toNat : Int) == 60) = false := by rw [h9]; rfl
        have t62 : ((c.toNat : Int) == 62) = false := by rw [h9]; rfl
        have t13 : ((c.toNat : Int) == 13) = false := by rw [h9]; rfl
        have t34 : ((c.toNat : Int) == 34) = false := by rw [h9]; rfl
        have t10 : ((c.toNat : Int) == 10) = false := by rw [h9]; rfl
        have HY := Lib.hid (HS.out (s.extract k (k + 1)) (by rw [HX.out, h9]; rfl))
        clear HS h9
        go_wp2
        go_round
        case rel => exact ⟨k + 1, _, by go_num, rfl, by omega, by rw [ByteArray.size_append, hez]; omega, HY⟩
        case measure => simp [intOf]; omega
      have t9 := byte_not c 9 h9 9 rfl
      by_cases h10 : c = 10
      · have t10 := byte_is c 10 h10 10 rfl
        have t38 : ((c.toNat : Int) == 38) = false := by rw [h10]; rfl
        have t60 : ((c.toNat : Int) == 60) = false := by rw [h10]; rfl
        have t62 : ((c.toNat : Int) == 62) = false := by rw [h10]; rfl
        have t13 : ((c.toNat : Int) == 13) = false := by rw [h10]; rfl
        have t34 : ((c.toNat : Int) == 34) = false := by rw [h10]; rfl
        have t9 : ((c.toNat : Int) == 9) = false := by rw [h10]; rfl
        have HY := Lib.hid (HS.out (s.extract k (k + 1)) (by rw [HX.out, h10]; rfl))
        clear HS h10
        go_wp2
        go_round
        case rel => exact ⟨k + 1, _, by go_num, rfl, by omega, by rw [ByteArray.size_append, hez]; omega, HY⟩
        case measure => simp [intOf]; omega
      have t10 := byte_not c 10 h10 10 rfl
      have ho : one textM c = [c] := by
        have e : ∀ v : UInt8, c ≠ v → (v == c) = false := fun v hv => by rw [beq_eq_false_iff_ne]; exact fun e => hv e.symm
        simp [one, Rep.look, textM, List.find?, e _ h38, e _ h60, e _ h62, e _ h13, e _ h34, e _ h9, e _ h10]
      have HY := Lib.hid (HS.out (s.extract k (k + 1)) (by rw [HX.out, ho]))
      clear HS ho h38 h60 h62 h13 h34 h9 h10
      go_wp2
      go_round
      case rel => exact ⟨k + 1, _, by go_num, rfl, by omega, by rw [ByteArray.size_append, hez]; omega, HY⟩
      case measure => simp [intOf]; omega
    · have hn := HN.out
      rw [List.take_of_length_le (by have : s.data.toList.length = s.size := rfl; omega), HR.out] at hn
      have HF : Hid (A = ⟨R.toArray⟩) := by
        show A = _
        apply ByteArray.ext
        apply Array.toList_inj.mp
        exact hn
      clear HN hn HR
      go_wp2
      go_ret
      exact ⟨by rw [HF.out]; rfl, rfl⟩
end Go.Proofs.YtmjdjpelhhibgaaGreatDoor.Val
