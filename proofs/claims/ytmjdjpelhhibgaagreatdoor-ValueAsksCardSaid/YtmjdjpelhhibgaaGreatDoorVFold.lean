/- The library's search for one character among letters, where the character is none of ASCII's. -/
import Derived.Test.YtmjdjpelhhibgaaGreatDoorVTok
import Derived.Test.YtmjdjpelhhibgaaGreatDoorEnc
import Derived.WalkMore
import Derived.IntWalk
import Derived.Deep.RegionWith
namespace Go.Proofs.YtmjdjpelhhibgaaGreatDoor.Giv
open Go.RowKit Go.Proofs.YtmjdjpelhhibgaaGreatDoorW.PrintWords Go.Proofs.YtmjdjpelhhibgaaGreatDoorW.PrintLast Go.Proofs.YtmjdjpelhhibgaaGreatDoor.R0 Go.Proofs.YtmjdjpelhhibgaaGreatDoor.Spec
set_option linter.unusedVariables false
theorem enc_last (r : Int) (h : 128 ≤ r) (hv : Utf8.valid r = true) : ∃ n : Nat, (Utf8.encode r).size = n + 1 ∧ 1 ≤ n ∧ n ≤ 3 ∧ ∃ c : UInt8, (Utf8.encode r).data.toList[n]? = some c ∧ 128 ≤ c.toNat := by
  unfold Utf8.encode
  simp only [hv, if_true]
  obtain ⟨c, hc⟩ : ∃ c, r.toNat = c := ⟨_, rfl⟩
  rw [hc]
  have hcl : 128 ≤ c := by omega
  have hl : 128 ≤ (UInt8.ofNat (128 + c % 64)).toNat := by rw [ofNat_get _ (by omega)]; omega
  rw [if_neg (by omega)]
  by_cases c2 : c < 2048
  · rw [if_pos c2]; exact ⟨1, rfl, by omega, by omega, _, rfl, hl⟩
  · rw [if_neg c2]
    by_cases c3 : c < 65536
    · rw [if_pos c3]; exact ⟨2, rfl, by omega, by omega, _, rfl, hl⟩
    · rw [if_neg c3]; exact ⟨3, rfl, by omega, by omega, _, rfl, hl⟩
theorem indexByte_far (l : List UInt8) (c : UInt8) (h : ∀ b ∈ l, b.toNat < 128) (hc : 128 ≤ c.toNat) : Lib.indexByte l c = -1 := by
  induction l with
  | nil => rfl
  | cons b l ih =>
    have hb := h b (by simp)
    have : (b == c) = false := by rw [beq_eq_false_iff_ne]; intro e; rw [e] at hb; omega
    unfold Lib.indexByte
    rw [this, ih fun b hb => h b (by simp [hb])]
    rfl
set_option maxRecDepth 1000000 in
set_option maxHeartbeats 4000000 in
theorem indexRune_far (s : ByteArray) (r : Int) (w : World) (hs : ∀ b ∈ s.data.toList, b.toNat < 128) (hsz : s.size ≤ 1000) (h0 : 128 ≤ r) (h1 : r ≤ 1114111) :
    Calls Tryz.prog 54 #[.string s, .int .i32 r] w fun e w' => e = .returned (.int .i64 (-1)) ∧ Below w.heap.size w w' := by
  have HS := Lib.hid hs
  clear hs
  by_cases he : r = 65533
  · subst he
    go_enter Tryz.func54, Tryz.ntmps54
    go_wp2
    go_loopw [5, 6] (fun u v wr => ∃ pos : Nat, wr.heap[w.heap.size]? = some (.stringIter s pos) ∧ Below w.heap.size w wr) (fun _ _ wr => s.size - wr.iterPos w.heap.size)
    case atStart => exact ⟨0, World.iter_heap w s 0, (Below.refl _ _).alloc (Nat.le_refl _) _⟩
    case round =>
      obtain ⟨pos, hit, hbw⟩ := hrel
      have hpos0 := iterPos_of hit
      by_cases hp : pos < s.size
      · have hnx : ∀ ty, (Instr.next (.pointer (some ⟨w.heap.size, 0, none⟩)) true ty).run Tryz.prog wr = _ := fun ty => Lib.run_next_any_at wr w.heap.size s pos ty hit hp
        have hit2 := Lib.iterAt_heap wr w.heap.size s pos (pos + (Utf8.decode s pos).2) hit
        have hbw2 := Lib.below_iterAt hbw (k := w.heap.size) (Nat.le_refl _) s (pos + (Utf8.decode s pos).2)
        have hb : (s[pos]'hp).toNat < 128 := HS.out _ (by rw [Array.mem_toList_iff]; exact Array.getElem_mem _)
        have hd := decode_ascii s pos hp hb
        obtain ⟨c, hc⟩ : ∃ c, (s[pos]'hp).toNat = c := ⟨_, rfl⟩
        rw [hc] at hd hb
        rw [hd] at hnx hit2 hbw2
        simp only at hnx hit2 hbw2
        have hne : ((c : Int) == 65533) = false := by rw [beq_eq_false_iff_ne]; omega
        obtain ⟨W1, hW1⟩ : ∃ W1, W1 = wr.iterAt w.heap.size s (pos + 1) := ⟨_, rfl⟩
        rw [← hW1] at hnx hit2 hbw2
        clear hW1 hd hc hit hbw
        go_wp2
        go_roundw
        case rel => exact ⟨_, hit2, hbw2⟩
        case measure => rw [iterPos_of hit2, hpos0]; omega
      · have hnx : ∀ ty, (Instr.next (.pointer (some ⟨w.heap.size, 0, none⟩)) true ty).run Tryz.prog wr = _ := fun ty => Lib.run_next_end_at wr w.heap.size s pos ty hit hp
        go_wp2
        go_ret
        exact ⟨rfl, hbw⟩
  · have hne : (r == 65533) = false := by rw [beq_eq_false_iff_ne]; exact he
    obtain ⟨vb, hvb⟩ : ∃ b, Lib.validRune r = b := ⟨_, rfl⟩
    have cV := fun W => Tryz.utf8_ValidRune r W
    rw [hvb] at cV
    have HVB := Lib.hid hvb
    clear hvb he
    cases vb with
    | false =>
      go_enter Tryz.func54, Tryz.ntmps54
      go_wp2_with (go_at_call 75; refine (cV _).mono ?_; rintro e w' ⟨rfl, rfl⟩)
      go_ret
      exact ⟨rfl, Below.refl _ _⟩
    | true =>
      have hv : Utf8.valid r = true := by
        have := HVB.out
        unfold Lib.validRune at this
        unfold Utf8.valid
        simp at this ⊢
        omega
      obtain ⟨n, hn, hn1, hn3, c, hc, hc1⟩ := enc_last r h0 hv
      obtain ⟨E, hE⟩ : ∃ E, Utf8.encode r = E := ⟨_, rfl⟩
      rw [hE] at hn hc
      have hw8 : wrap64 ((n : Int) + 1 - 1) = n := by unfold wrap64; omega
      clear hv HVB
      go_enter Tryz.func54, Tryz.ntmps54
      go_wp2_with (go_at_call 75; refine (cV _).mono ?_; rintro e w' ⟨rfl, rfl⟩)
      go_step3
      go_wp2
      go_loop [9] (fun x => x = .int .i64 n) (fun _ => 0)
      case atStart => rfl
      case round =>
        subst hrel
        by_cases hln : n < s.size
        · have hnE : n < E.size := by omega
          obtain ⟨x, hx⟩ : ∃ x, s[n]'hln = x := ⟨_, rfl⟩
          have hx1 : x.toNat < 128 := HS.out x (by rw [← hx, Array.mem_toList_iff]; exact Array.getElem_mem _)
          have hy : E[n]'hnE = c := by
            have : E.data.toList[n]? = some (E[n]'hnE) := by simp [ByteArray.getElem_eq_getElem_data]
            rw [hc] at this; exact (Option.some.inj this).symm
          have hcmp : ((x.toNat : Int) != (c.toNat : Int)) = true := by rw [bne_iff_ne]; omega
          have hIB : ∀ W, Calls Tryz.prog 74 #[.string (s.extract (n + 1) s.size), .int .u8 (c.toNat : Int)] W fun e w' => e = .returned (.int .i64 (-1)) ∧ W = w' := fun W => by
            refine (Tryz.strings_IndexByte (s.extract (n + 1) s.size) (c.toNat : Int) W).mono ?_
            rintro e w' ⟨rfl, rfl⟩
            refine ⟨ret_int (indexByte_far _ _ (fun b hb => HS.out b ?_) (by simpa using hc1)), rfl⟩
            rw [ext_list] at hb
            exact List.mem_of_mem_drop hb
          have hw9 : IntKind.i64.wrap ((n : Int) + 1) = (n : Int) + 1 := IntWalk.i64_in _ (by omega)
          have ht9 : ((n : Int) + 1).toNat = n + 1 := by omega
          have hlt9 : (n : Int) + 1 ≤ (s.size : Int) := by omega
          have hge9 : (0 : Int) ≤ (n : Int) + 1 := by omega
          clear hc
          go_wp2
          go_step3
          go_wp2
          go_quiet (fail)
          go_wp2
          go_region_with (go_at_call 74; refine (hIB _).mono ?_; rintro e w2 ⟨rfl, rfl⟩)
          all_goals
            go_wp2
            rw [Exit.noGoto_ret]
            go_wp2
            rw [Exit.noGoto_ret]
            go_wp2
            go_ret
            exact ⟨rfl, ⟨rfl, rfl, rfl, Nat.le_refl _, fun _ _ => rfl⟩⟩
        · go_wp2
          exact bodyPost_ret (v := .int .i64 (-1)) (by simp [results, Tryz.results54, go_sem]) rfl ⟨rfl, Below.refl _ _⟩
end Go.Proofs.YtmjdjpelhhibgaaGreatDoor.Giv
