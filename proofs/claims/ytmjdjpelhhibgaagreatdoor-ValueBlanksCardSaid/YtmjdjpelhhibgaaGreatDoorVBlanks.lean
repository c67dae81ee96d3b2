/- The law ValueBlanks, walked. -/
import Derived.Test.YtmjdjpelhhibgaaGreatDoorVTold
import Derived.Test.YtmjdjpelhhibgaaGreatDoorVPure
namespace Go.Proofs.YtmjdjpelhhibgaaGreatDoor.Val
open Go Go.RowKit Go.Proofs.YtmjdjpelhhibgaaGreatDoor.Rf Go.Proofs.YtmjdjpelhhibgaaGreatDoor.Spec Go.Proofs.YtmjdjpelhhibgaaGreatDoor.Giv
set_option linter.unusedVariables false
set_option linter.unusedSimpArgs false
theorem filt_snoc (s : ByteArray) (k : Nat) (hk : k < s.size) : (s.data.toList.take (k + 1)).filter (fun c => c != 32) = (s.data.toList.take k).filter (fun c => c != 32) ++ (if s[k]'hk = 32 then [] else [s[k]'hk]) := by
  have hl : k < s.data.toList.length := hk
  rw [List.take_add_one, List.getElem?_eq_getElem hl, List.filter_append]
  have e : s.data.toList[k] = s[k]'hk := rfl
  rw [e]
  by_cases h : s[k]'hk = 32
  · rw [h]; rfl
  · have hb : (s[k]'hk != 32) = true := by simpa using h
    rw [if_neg h]
    simp [hb]
theorem ext_one (s : ByteArray) (k : Nat) (hk : k < s.size) : (s.extract k (k + 1)).data.toList = [s[k]'hk] := by
  have hl : k < s.data.toList.length := hk
  simp only [ByteArray.data_extract, Array.toList_extract, List.extract_eq_take_drop]
  rw [show k + 1 - k = 1 by omega, drop_at s k hk]
  rfl
theorem ba_ext {a b : ByteArray} (h : a.data.toList = b.data.toList) : a = b := ByteArray.ext (Array.toList_inj.mp h)
set_option maxRecDepth 100000 in
set_option maxHeartbeats 4000000 in
theorem blanks_walk (s : ByteArray) (w : World) (hE : Env w) (hs : s.size ≤ 140737488351232) : Calls Tryz.prog 5 #[.string s] w fun e w' => e = .returned (.bool true) ∧ Below w.heap.size w w' := by
  have HE := Lib.hid hE
  clear hE
  by_cases h60 : 60 < s.size
  · have h60' : (s.size : Int) > 60 := by omega
    go_enter Tryz.func5, Tryz.ntmps5
    go_wp2_with (go_at_call 11; refine (told_any _ HE.out).mono ?_; rintro e w1 ⟨rfl, hb1⟩)
    go_ret
    exact ⟨rfl, hb1⟩
  · have h60' : ¬ (s.size : Int) > 60 := by omega
    have cN := fun W => norm_any s W (by omega)
    obtain ⟨n, hn⟩ : ∃ n : ByteArray, n = ⟨(normB s.data.toList).toArray⟩ := ⟨_, rfl⟩
    have hnl : n.data.toList = normB s.data.toList := by rw [hn]
    have hnz : n.size ≤ s.size := by have := normB_len s.data.toList; rw [← hnl] at this; exact this
    have cN2 := fun W => norm_any n W (by omega)
    have hn2 : (⟨(normB n.data.toList).toArray⟩ : ByteArray) = n := by rw [hnl, normB_again, hn]
    rw [← hn] at cN
    rw [hn2] at cN2
    have hbl : ∀ (i : Nat) (hi : i < n.size), n[i]'hi = 32 → 0 < i ∧ i + 1 < n.size ∧ ∀ h : i - 1 < n.size, n[i - 1]'h ≠ 32 := by
      intro i hi hv
      have h1 : (normB s.data.toList)[i]? = some 32 := by
        rw [← hnl]
        have : n.data.toList[i]? = some (n[i]'hi) := Lib.data_getElem? n i hi
        rw [this, hv]
      obtain ⟨h2, h3, h4⟩ := normB_blank _ i h1
      rw [← hnl] at h3 h4
      refine ⟨h2, h3, fun h he => h4 ?_⟩
      have : n.data.toList[i - 1]? = some (n[i - 1]'h) := Lib.data_getElem? n (i - 1) h
      rw [this, he]
    have hflt : n.data.toList.filter (fun c => c != 32) = s.data.toList.filter (fun c => c != 32) := by rw [hnl, normB_filt]
    have HBL := Lib.hid hbl
    have HFL := Lib.hid hflt
    clear hn hnl hn2 hbl hflt
    go_enter Tryz.func5, Tryz.ntmps5
    go_wp2_with (go_at_call 15; refine (cN _).mono ?_; rintro e w1 ⟨rfl, hb1⟩)
    go_loop [6, 4] (fun i a => ∃ (k : Nat) (A : ByteArray), i = .int .i64 k ∧ a = .string A ∧ k ≤ s.size ∧ A.size ≤ k ∧ Hid (A.data.toList = (s.data.toList.take k).filter (fun c => c != 32))) (fun i _ => s.size - (intOf i).toNat)
    case atStart => exact ⟨0, ⟨#[]⟩, rfl, rfl, by omega, Nat.le_refl _, rfl⟩
    case round =>
      obtain ⟨k, A, rfl, rfl, hk, hA, HA⟩ := hrel
      by_cases hlt : k < s.size
      · obtain ⟨c, hc⟩ : ∃ c, s[k]'hlt = c := ⟨_, rfl⟩
        have hfs := filt_snoc s k hlt
        have hex := ext_one s k hlt
        rw [hc] at hfs hex
        by_cases hz : c = 32
        · have hz1 : ((c.toNat : Int) != 32) = false := by subst hz; rfl
          rw [if_pos hz, List.append_nil] at hfs
          have HA2 : Hid (A.data.toList = (s.data.toList.take (k + 1)).filter (fun c => c != 32)) := HA.out.trans hfs.symm
          clear hfs hex hz
          go_wp2
          go_round
          case rel => exact ⟨k + 1, A, by go_num, rfl, by omega, by omega, HA2⟩
          case measure => simp [intOf]; omega
        · have hz1 : ((c.toNat : Int) != 32) = true := by rw [bne_iff_ne]; intro e; exact hz (UInt8.toNat_inj.1 (by have : (32 : UInt8).toNat = 32 := rfl; omega))
          rw [if_neg hz] at hfs
          have hA2 : (A ++ s.extract k (k + 1)).data.toList = (s.data.toList.take (k + 1)).filter (fun c => c != 32) := by rw [app_list, HA.out, hex, hfs]
          have hAz : (A ++ s.extract k (k + 1)).size ≤ k + 1 := by
            have h1 : (s.extract k (k + 1)).size = 1 := by simp; omega
            rw [ByteArray.size_append, h1]; omega
          have HA2 := Lib.hid hA2
          have HAz := Lib.hid hAz
          clear hfs hex hz hA2 hAz
          go_wp2
          go_round
          case rel => exact ⟨k + 1, _, by go_num, rfl, by omega, HAz.out, HA2⟩
          case measure => simp [intOf]; omega
      · obtain rfl : k = s.size := by omega
        have hA1 : A.data.toList = s.data.toList.filter (fun c => c != 32) := by
          have := HA.out
          rw [List.take_of_length_le (by have : s.data.toList.length = s.size := rfl; omega)] at this
          exact this
        have HA1 := Lib.hid hA1
        have HB1 := Lib.hid hb1
        clear HA hA1 hb1
        go_wp2
        go_loop [7, 5] (fun i b => ∃ (k : Nat) (B : ByteArray), i = .int .i64 k ∧ b = .string B ∧ k ≤ n.size ∧ B.size ≤ k ∧ Hid (B.data.toList = (n.data.toList.take k).filter (fun c => c != 32))) (fun i _ => n.size - (intOf i).toNat)
        case atStart => exact ⟨0, ⟨#[]⟩, rfl, rfl, by omega, Nat.le_refl _, rfl⟩
        case round =>
          obtain ⟨k, B, rfl, rfl, hk2, hB, HB⟩ := hrel
          by_cases hlt2 : k < n.size
          · obtain ⟨c, hc⟩ : ∃ c, n[k]'hlt2 = c := ⟨_, rfl⟩
            have hfs := filt_snoc n k hlt2
            have hex := ext_one n k hlt2
            have hbk := HBL.out k hlt2
            rw [hc] at hfs hex hbk
            by_cases hz : c = 32
            · have hz1 : ((c.toNat : Int) != 32) = false := by subst hz; rfl
              rw [if_pos hz, List.append_nil] at hfs
              obtain ⟨hk0, hk1, hkp⟩ := hbk hz
              have HB2 : Hid (B.data.toList = (n.data.toList.take (k + 1)).filter (fun c => c != 32)) := HB.out.trans hfs.symm
              obtain ⟨j, rfl⟩ : ∃ j, k = j + 1 := ⟨k - 1, by omega⟩
              have hjl : j < n.size := by omega
              obtain ⟨d, hd⟩ : ∃ d, n[j]'hjl = d := ⟨_, rfl⟩
              have hd32 : d ≠ 32 := by rw [← hd]; exact hkp hjl
              have e0 : (((j + 1 : Nat) : Int) == 0) = false := by rw [beq_eq_false_iff_ne]; omega
              have e1 : (((j + 1 : Nat) : Int) == (n.size : Int) - 1) = false := by rw [beq_eq_false_iff_ne]; omega
              have e2 : ((d.toNat : Int) == 32) = false := by rw [beq_eq_false_iff_ne]; intro e; exact hd32 (UInt8.toNat_inj.1 (by have : (32 : UInt8).toNat = 32 := rfl; omega))
              have e3 : ((j : Int) + 1 == 0) = false := by rw [beq_eq_false_iff_ne]; omega
              have e4 : ((j : Int) + 1 == (n.size : Int) - 1) = false := by rw [beq_eq_false_iff_ne]; omega
              clear hfs hex hz hkp hbk hd32
              go_wp2
              go_round
              case rel => exact ⟨j + 1 + 1, B, by go_num, rfl, by omega, by omega, HB2⟩
              case measure => simp [intOf]; omega
            · have hz1 : ((c.toNat : Int) != 32) = true := by rw [bne_iff_ne]; intro e; exact hz (UInt8.toNat_inj.1 (by have : (32 : UInt8).toNat = 32 := rfl; omega))
              rw [if_neg hz] at hfs
              have hB2 : (B ++ n.extract k (k + 1)).data.toList = (n.data.toList.take (k + 1)).filter (fun c => c != 32) := by rw [app_list, HB.out, hex, hfs]
              have hBz : (B ++ n.extract k (k + 1)).size ≤ k + 1 := by
                have h1 : (n.extract k (k + 1)).size = 1 := by simp; omega
                rw [ByteArray.size_append, h1]; omega
              have HB2 := Lib.hid hB2
              have HBz := Lib.hid hBz
              clear hfs hex hz hB2 hBz hbk
              go_wp2
              go_round
              case rel => exact ⟨k + 1, _, by go_num, rfl, by omega, HBz.out, HB2⟩
              case measure => simp [intOf]; omega
          · obtain rfl : k = n.size := by omega
            have hAB : A = B := ba_ext (by rw [HA1.out, HB.out, List.take_of_length_le (by have : n.data.toList.length = n.size := rfl; omega), HFL.out])
            subst hAB
            have hle : (n.size : Int) ≤ (s.size : Int) := by omega
            clear HB
            go_wp2_with (first | (go_at_call 11; refine (told_any _ (HE.out.below HB1.out)).mono ?_; rintro e w2 ⟨rfl, hb2⟩) | (go_at_call 15; refine (cN2 _).mono ?_; rintro e w3 ⟨rfl, hb3⟩))
            go_ret
            exact ⟨rfl, HB1.out.trans ((hb2.trans (hb3.mono hb2.size)).mono HB1.out.size)⟩
end Go.Proofs.YtmjdjpelhhibgaaGreatDoor.Val
