/- The document's own Norm answers as the program's. -/
import Derived.Test.YtmjdjpelhhibgaaGreatDoorVPure
namespace Go.Proofs.YtmjdjpelhhibgaaGreatDoor.Val
open Go Go.RowKit Go.Proofs.YtmjdjpelhhibgaaGreatDoor.Rf Go.Proofs.YtmjdjpelhhibgaaGreatDoor.Spec Go.Proofs.YtmjdjpelhhibgaaGreatDoor.Giv
set_option linter.unusedVariables false
set_option linter.unusedSimpArgs false
def nr : Bool → List UInt8 → List UInt8 → List UInt8
  | _, out, [] => out
  | p, out, c :: t => if c = 32 then nr true out t else nr false ((if (p && !out.isEmpty) = true then out ++ [32] else out) ++ [c]) t
theorem join_snoc : ∀ (xs : List (List UInt8)) (y : List UInt8), xs ≠ [] → Lib.join (xs ++ [y]) [32] = Lib.join xs [32] ++ 32 :: y
  | [x], y, _ => by rw [List.singleton_append, join_two, Lib.join_one, Lib.join_one]
  | x :: z :: r, y, _ => by
    have ih := join_snoc (z :: r) y (by simp)
    rw [List.cons_append, List.cons_append, join_two, join_two, ← List.cons_append, ih]
    simp
theorem join_last (xs : List (List UInt8)) (y z : List UInt8) : Lib.join (xs ++ [y ++ z]) [32] = Lib.join (xs ++ [y]) [32] ++ z := by
  by_cases h : xs = []
  · subst h; rw [List.nil_append, List.nil_append, Lib.join_one, Lib.join_one]
  · rw [join_snoc xs _ h, join_snoc xs _ h]; simp
def tail1 (cur : List UInt8) : List (List UInt8) := if cur = [] then [] else [cur]
theorem join_full : ∀ (xs : List (List UInt8)), xs ≠ [] → (∀ x ∈ xs, x ≠ []) → Lib.join xs [32] ≠ []
  | x :: r, _, h => join_ne x r (h x (by simp))
theorem nr_join : ∀ (l : List UInt8) (p : Bool) (xs : List (List UInt8)) (cur : List UInt8), (p = true → cur = []) → (p = false → cur = [] → xs = []) → (∀ x ∈ xs, x ≠ []) →
    nr p (Lib.join (xs ++ tail1 cur) [32]) l = Lib.join (xs ++ fl cur l) [32]
  | [], p, xs, cur, _, _, _ => by unfold nr fl tail1; rfl
  | c :: t, p, xs, cur, hp, hq, hx => by
    unfold nr
    by_cases hc : c = 32
    · rw [if_pos hc, fl, if_pos hc]
      have ih := nr_join t true (xs ++ tail1 cur) [] (fun _ => rfl) (fun h => by cases h) (by
        intro x hm
        rcases List.mem_append.1 hm with hm | hm
        · exact hx x hm
        · unfold tail1 at hm
          split at hm
          · cases hm
          · rename_i hne
            obtain rfl := List.mem_singleton.1 hm
            exact hne)
      have e : (xs ++ tail1 cur) ++ tail1 [] = xs ++ tail1 cur := by simp [tail1]
      rw [e] at ih
      rw [ih]
      unfold tail1
      split
      · simp
      · simp
    · rw [if_neg hc, fl, if_neg hc]
      have hne : cur ++ [c] ≠ [] := by simp
      have ih := nr_join t false xs (cur ++ [c]) (fun h => by cases h) (fun _ h => absurd h hne) hx
      have e1 : tail1 (cur ++ [c]) = [cur ++ [c]] := by unfold tail1; rw [if_neg hne]
      rw [e1] at ih
      rw [← ih]
      congr 1
      rw [join_last]
      congr 1
      cases p with
      | true =>
        obtain rfl := hp rfl
        have e2 : xs ++ tail1 [] = xs := by simp [tail1]
        rw [e2]
        by_cases hxs : xs = []
        · subst hxs; rfl
        · have hf := join_full xs hxs hx
          have he : (!(Lib.join xs [32]).isEmpty) = true := by simpa using hf
          rw [he, Bool.and_self, if_pos rfl, join_snoc xs [] hxs]
      | false =>
        rw [Bool.false_and, if_neg (by decide)]
        by_cases hcur : cur = []
        · have := hq rfl hcur
          subst this
          subst hcur
          rfl
        · unfold tail1; rw [if_neg hcur]
theorem nr_norm (l : List UInt8) : nr false [] l = normB l := by
  have := nr_join l false [] [] (fun h => by cases h) (fun _ _ => rfl) (by simp)
  simpa [tail1, Lib.join_nil, normB] using this
theorem ext_one' (s : ByteArray) (k : Nat) (hk : k < s.size) : (s.extract k (k + 1)).data.toList = [s[k]'hk] := by
  have hl : k < s.data.toList.length := hk
  simp only [ByteArray.data_extract, Array.toList_extract, List.extract_eq_take_drop]
  rw [show k + 1 - k = 1 by omega, drop_at s k hk]
  rfl
def pv (s : ByteArray) (k : Nat) : Bool := decide (0 < k) && (s.data.toList[k - 1]? == some 32)
set_option maxRecDepth 100000 in
set_option maxHeartbeats 4000000 in
theorem normR_any (s : ByteArray) (w : World) (hs : s.size ≤ 1000000000) :
    Calls Tryz.prog 16 #[.string s] w fun e w' => e = .returned (.string ⟨(normB s.data.toList).toArray⟩) ∧ Below w.heap.size w w' := by
  obtain ⟨R, hR⟩ : ∃ R, normB s.data.toList = R := ⟨_, rfl⟩
  rw [hR]
  have h0 : nr false [] s.data.toList = R := by rw [nr_norm, hR]
  have H0 := Lib.hid h0
  clear hR h0
  go_enter Tryz.func16, Tryz.ntmps16
  go_wp2
  go_loop [4, 3] (fun i o => ∃ (k : Nat) (A : ByteArray), i = .int .i64 k ∧ o = .string A ∧ k ≤ s.size ∧ A.size ≤ 2 * k ∧ Hid (nr (pv s k) A.data.toList (s.data.toList.drop k) = R)) (fun i _ => s.size - (intOf i).toNat)
  case atStart => exact ⟨0, ⟨#[]⟩, rfl, rfl, by omega, Nat.le_refl _, H0.out⟩
  case round =>
    obtain ⟨k, A, rfl, rfl, hk, hA, HN⟩ := hrel
    by_cases hlt : k < s.size
    · obtain ⟨c, hc⟩ : ∃ c, s[k]'hlt = c := ⟨_, rfl⟩
      have hd := drop_at s k hlt
      rw [hc] at hd
      have hn := HN.out
      rw [hd, nr] at hn
      have hpv1 : pv s (k + 1) = (c == 32) := by
        unfold pv
        have h1 : s.data.toList[k]? = some c := by rw [← hc]; exact Lib.data_getElem? s k hlt
        rw [Nat.add_sub_cancel, h1]
        simp
      by_cases hz : c = 32
      · have hz1 : ((c.toNat : Int) != 32) = false := by subst hz; rfl
        rw [if_pos hz] at hn
        have HN2 : Hid (nr (pv s (k + 1)) A.data.toList (s.data.toList.drop (k + 1)) = R) := by rw [hpv1, hz]; exact hn
        clear hn hd hz hpv1
        go_wp2
        go_round
        case rel => exact ⟨k + 1, A, by go_num, rfl, by omega, by omega, HN2⟩
        case measure => simp [intOf]; omega
      · have hz1 : ((c.toNat : Int) != 32) = true := by rw [bne_iff_ne]; intro e; exact hz (UInt8.toNat_inj.1 (by show c.toNat = 32; omega))
        have hpf : pv s (k + 1) = false := by rw [hpv1]; simpa using hz
        rw [if_neg hz] at hn
        have hex : (s.extract k (k + 1)).data.toList = [c] := by rw [← hc]; exact ext_one' s k hlt
        have hez : (s.extract k (k + 1)).size = 1 := by simp; omega
        have hplain : (pv s k && !A.data.toList.isEmpty) = false → Hid (nr (pv s (k + 1)) (A ++ s.extract k (k + 1)).data.toList (s.data.toList.drop (k + 1)) = R) ∧ (A ++ s.extract k (k + 1)).size ≤ 2 * (k + 1) := fun h => by
          rw [h, if_neg (by decide)] at hn
          refine ⟨?_, by rw [ByteArray.size_append, hez]; omega⟩
          show _ = _
          rw [hpf, app_list, hex]; exact hn
        have hblank : (pv s k && !A.data.toList.isEmpty) = true → Hid (nr (pv s (k + 1)) (A ++ ⟨#[32]⟩ ++ s.extract k (k + 1)).data.toList (s.data.toList.drop (k + 1)) = R) ∧ (A ++ ⟨#[32]⟩ ++ s.extract k (k + 1)).size ≤ 2 * (k + 1) := fun h => by
          rw [h, if_pos rfl] at hn
          refine ⟨?_, by rw [ByteArray.size_append, ByteArray.size_append, hez]; show A.size + 1 + 1 ≤ _; omega⟩
          show _ = _
          rw [hpf, app_list, app_list, hex]; exact hn
        have HP := Lib.hid hplain
        have HB := Lib.hid hblank
        have hAe := toList_isEmpty A
        have hAz : A.size = A.data.toList.length := rfl
        clear hn hd hz hpv1 hpf hex hez hplain hblank
        rcases k with _ | j
        · have h1 : pv s 0 = false := rfl
          obtain ⟨H1, H2⟩ := HP.out (by rw [h1]; rfl)
          have HZ := Lib.hid H2
          clear HP HB H2 hAe hAz
          go_wp2
          go_round
          case rel => exact ⟨0 + 1, _, by go_num, rfl, by omega, HZ.out, H1⟩
          case measure => simp [intOf]; omega
        · have hjl : j < s.size := by omega
          obtain ⟨d, hd⟩ : ∃ d, s[j]'hjl = d := ⟨_, rfl⟩
          have hpj : pv s (j + 1) = (d == 32) := by
            unfold pv
            have h1 : s.data.toList[j]? = some d := by rw [← hd]; exact Lib.data_getElem? s j hjl
            rw [Nat.add_sub_cancel, h1]
            simp
          have hg0 : ((j : Int) + 1) > 0 := by omega
          by_cases hd32 : d = 32
          · have e2 : ((d.toNat : Int) == 32) = true := by subst hd32; rfl
            by_cases hAn : A.data.toList = []
            · have e3 : (!A.toList.isEmpty) = false := by rw [hAe, hAz, hAn]; rfl
              obtain ⟨H1, H2⟩ := HP.out (by rw [hAn]; simp)
              have HZ := Lib.hid H2
              clear HP HB H2 hAe hAz hpj hd32 hAn
              go_wp2
              go_round
              case rel => exact ⟨j + 1 + 1, _, by go_num, rfl, by omega, HZ.out, H1⟩
              case measure => simp [intOf]; omega
            · have e3 : (!A.toList.isEmpty) = true := by
                have hz : A.size ≠ 0 := fun h => hAn (List.length_eq_zero_iff.1 (hAz.symm.trans h))
                rw [hAe]
                simp [hz]
              obtain ⟨H1, H2⟩ := HB.out (by rw [hpj, hd32]; simpa using hAn)
              have HZ := Lib.hid H2
              clear HP HB H2 hAe hAz hpj hd32 hAn
              go_wp2
              go_round
              case rel => exact ⟨j + 1 + 1, _, by go_num, rfl, by omega, HZ.out, H1⟩
              case measure => simp [intOf]; omega
          · have e2 : ((d.toNat : Int) == 32) = false := by rw [beq_eq_false_iff_ne]; intro e; exact hd32 (UInt8.toNat_inj.1 (by show d.toNat = 32; omega))
            obtain ⟨H1, H2⟩ := HP.out (by rw [hpj]; simp [hd32])
            have HZ := Lib.hid H2
            clear HP HB H2 hAe hAz hpj hd32
            go_wp2
            go_round
            case rel => exact ⟨j + 1 + 1, _, by go_num, rfl, by omega, HZ.out, H1⟩
            case measure => simp [intOf]; omega
    · have hn := HN.out
      rw [List.drop_eq_nil_of_le (by have : s.data.toList.length = s.size := rfl; omega), nr] at hn
      have HR := Lib.hid hn
      clear HN hn
      go_wp2
      go_ret
      exact ⟨by rw [← HR.out]; rfl, Below.refl _ _⟩
end Go.Proofs.YtmjdjpelhhibgaaGreatDoor.Val
