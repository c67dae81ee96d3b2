/- The contracts of the package of pieces of content: what ranges over a string. -/
import Derived.Test.YtmjdjpelhhibgaaDoorKGiv
import Derived.Test.YtmjdjpelhhibgaaDoorKSpec
namespace Go.Proofs.YtmjdjpelhhibgaaDoor.Giv
open Go.RowKit Go.Proofs.YtmjdjpelhhibgaaDoorW.PrintWords Go.Proofs.YtmjdjpelhhibgaaDoorW.PrintLast Go.Proofs.YtmjdjpelhhibgaaDoor.R0 Go.Proofs.YtmjdjpelhhibgaaDoor.Spec
set_option linter.unusedVariables false
theorem ret_int {k : IntKind} {a b : Int} (h : a = b) : Ending.returned (.int k a) = .returned (.int k b) := by rw [h]
/-! ### Spaces -/
def token_Spaces.f (a0 : ByteArray) (a1 : Int) : Option Int := if 0 ≤ a1 ∧ a1 ≤ (a0.size : Int) ∧ a0.size < 4294967281 then some (a1 + (spaceLen (a0.data.toList.drop a1.toNat) : Nat)) else none
theorem ext_list (s : ByteArray) (a : Nat) : (s.extract a s.size).data.toList = s.data.toList.drop a := by
  simp
  exact List.take_of_length_le (by simp)
theorem ext_size (s : ByteArray) (a : Nat) : (s.extract a s.size).size = s.size - a := by simp
set_option maxRecDepth 100000 in
set_option maxHeartbeats 1000000 in
theorem spaces_any (s : ByteArray) (a : Nat) (w : World) (hs : s.size < 4294967281) (ha : a ≤ s.size) :
    Calls Tryd.prog 71 #[.string s, .int .i64 a] w fun e w' => e = .returned (.int .i64 ((a : Int) + (spaceLen (s.data.toList.drop a) : Nat))) ∧ Below w.heap.size w w' := by
  obtain ⟨R, hR⟩ : ∃ R : Int, (a : Int) + (spaceLen (s.data.toList.drop a) : Nat) = R := ⟨_, rfl⟩
  rw [hR]
  have hts := ext_size s a
  rw [← ext_list] at hR
  have hext : s.extract a s.size = s.extract a s.size := rfl
  go_enter Tryd.func71, Tryd.ntmps71
  go_wp2
  generalize hT : s.extract a s.size = T at hR hts
  go_loopw [5, 6] (fun u v wr => ∃ pos : Nat, wr.heap[w.heap.size]? = some (.stringIter T pos) ∧ Below w.heap.size w wr ∧ Hid ((a : Int) + (pos : Int) + (spaceLen (T.data.toList.drop pos) : Nat) = R) ∧ pos ≤ T.size) (fun _ _ wr => T.size - wr.iterPos w.heap.size)
  case atStart => exact ⟨0, World.iter_heap w T 0, (Below.refl _ _).alloc (Nat.le_refl _) _, (show (a : Int) + ((0 : Nat) : Int) + _ = R by rw [← hR]; simp), by omega⟩
  case round =>
    obtain ⟨pos, hit, hbw, HS, hpl⟩ := hrel
    clear hR
    have hpos0 := iterPos_of hit
    by_cases hp : pos < T.size
    · have hnx : ∀ ty, (Instr.next (.pointer (some ⟨w.heap.size, 0, none⟩)) true ty).run Tryd.prog wr = _ := fun ty => Lib.run_next_any_at wr w.heap.size T pos ty hit hp
      have hwd := width_pos T pos hp
      have hwl := width_le T pos hp
      have hit2 := Lib.iterAt_heap wr w.heap.size T pos (pos + (Utf8.decode T pos).2) hit
      have hbw2 := Lib.below_iterAt hbw (k := w.heap.size) (Nat.le_refl _) T (pos + (Utf8.decode T pos).2)
      obtain ⟨W1, hW1⟩ : ∃ W1, W1 = wr.iterAt w.heap.size T (pos + (Utf8.decode T pos).2) := ⟨_, rfl⟩
      rw [← hW1] at hnx hit2 hbw2
      obtain ⟨c, hc⟩ : ∃ c, spaceB ((Utf8.decode T pos).1 : Int) = c := ⟨_, rfl⟩
      have hst := spaceLen_step T pos hp c hc
      have hwide : c = true → (Utf8.decode T pos).2 = 1 := fun h => spaceLen_wide T pos hp (by rw [hc, h])
      have cS : ∀ W, Calls Tryd.prog 89 #[.int .i32 ((Utf8.decode T pos).1 : Int)] W fun e w' => e = .returned (.bool c) ∧ Drawn0 W w' := fun W => runes_Space.calls _ _ W (by rw [← hc]; rfl)
      have hBlt := lt_of_block hit2
      have HST := Lib.hid hst
      have HWD := Lib.hid hwide
      have HT := Lib.hid hT
      clear hW1 hit hbw hc hst hwide hT
      cases c with
      | true =>
        have h1 := HWD.out rfl
        have HS2 : Hid ((a : Int) + ((pos + 1 : Nat) : Int) + (spaceLen (T.data.toList.drop (pos + 1)) : Nat) = R) := by
          have := HS.out; rw [HST.out, if_pos rfl, h1] at this; show _ = _; omega
        have H1 := Lib.hid h1
        clear h1
        go_wp2_with (go_at_call 89; refine (cS _).mono ?_; rintro e w' ⟨rfl, ⟨n, rfl⟩⟩)
        go_roundw
        case rel => exact ⟨pos + 1, by rw [← H1.out]; exact hit2, (hbw2.trans (Below.refl _ _)).trans ⟨rfl, rfl, rfl, Nat.le_refl _, fun _ _ => rfl⟩, HS2, by omega⟩
        case measure =>
          rw [show (W1.drewN n).iterPos w.heap.size = pos + (Utf8.decode T pos).2 from iterPos_of hit2, hpos0]
          omega
      | false =>
        have HS2 : Hid ((a : Int) + (pos : Int) = R) := by
          have := HS.out; rw [HST.out, if_neg (by decide)] at this; show _ = _; simpa using this
        go_wp2_with (go_at_call 89; refine (cS _).mono ?_; rintro e w' ⟨rfl, ⟨n, rfl⟩⟩)
        go_ret
        exact ⟨ret_int HS2.out, hbw2.trans ⟨rfl, rfl, rfl, Nat.le_refl _, fun _ _ => rfl⟩⟩
    · have hnx : ∀ ty, (Instr.next (.pointer (some ⟨w.heap.size, 0, none⟩)) true ty).run Tryd.prog wr = _ := fun ty => Lib.run_next_end_at wr w.heap.size T pos ty hit hp
      have HE : Hid ((s.size : Int) = R) := by
        have := HS.out; rw [spaceLen_end T pos hp] at this; show _ = _; omega
      have HT := Lib.hid hT
      clear hT
      go_wp2
      go_ret
      exact ⟨ret_int HE.out, hbw⟩
theorem token_Spaces.calls (a0 : ByteArray) (a1 : Int) (r : Int) (w : World) (h : token_Spaces.f a0 a1 = some r) :
    Calls Tryd.prog 71 #[.string a0, .int .i64 a1] w fun e w' => e = .returned (.int .i64 r) ∧ Below w.heap.size w w' := by
  unfold token_Spaces.f at h
  split at h
  · rename_i hc
    obtain rfl := Option.some.inj h
    obtain ⟨a, rfl⟩ : ∃ a : Nat, a1 = (a : Int) := ⟨a1.toNat, by omega⟩
    exact spaces_any a0 a w hc.2.2 (by omega)
  · cases h
/-! ### Word -/
def token_Word.f (a0 : ByteArray) (a1 : Int) : Option Int := if 0 ≤ a1 ∧ a1 ≤ (a0.size : Int) ∧ a0.size < 4294967281 then some (a1 + (wordLen (a0.extract a1.toNat a0.size) : Nat)) else none
theorem dec_cut (s : ByteArray) (i : Nat) (h : i ≤ s.size) : Utf8.decode (s.extract i s.size) 0 = Utf8.decode s i := by
  have hz : (s.extract 0 i).size = i := by simp; omega
  have e : s.extract 0 i ++ s.extract i s.size = s := by
    apply ByteArray.ext
    apply Array.toList_inj.mp
    rw [app_list, ext_list]
    simp
  have := dec_shift (s.extract 0 i) (s.extract i s.size) 0
  rw [e, hz] at this
  simpa using this.symm
theorem ext_ext (s : ByteArray) (a p : Nat) : (s.extract a s.size).extract p (s.extract a s.size).size = s.extract (a + p) s.size := by
  apply ByteArray.ext
  apply Array.toList_inj.mp
  rw [ext_list, ext_list, ext_list, List.drop_drop]
theorem decodeGo_at (s : ByteArray) (a pos : Nat) (ha : a ≤ s.size) (hp : pos < (s.extract a s.size).size) : Lib.decodeGo (s.extract (a + pos) s.size) = Utf8.decode (s.extract a s.size) pos := by
  rw [← ext_ext]
  unfold Lib.decodeGo
  rw [if_neg (by rw [ext_size]; omega), dec_cut _ _ (by omega)]
set_option maxRecDepth 100000 in
set_option maxHeartbeats 2000000 in
theorem word_any (s : ByteArray) (a : Nat) (w : World) (hs : s.size < 4294967281) (ha : a ≤ s.size) (hE : Env w) :
    Calls Tryd.prog 69 #[.string s, .int .i64 a] w fun e w' => e = .returned (.int .i64 ((a : Int) + (wordLen (s.extract a s.size) : Nat))) ∧ Below w.heap.size w w' := by
  obtain ⟨R, hR⟩ : ∃ R : Int, (a : Int) + (wordLen (s.extract a s.size) : Nat) = R := ⟨_, rfl⟩
  rw [hR]
  have hts := ext_size s a
  have HE := Lib.hid hE
  have HD : Hid (∀ pos, pos < (s.extract a s.size).size → Lib.decodeGo (s.extract (a + pos) s.size) = Utf8.decode (s.extract a s.size) pos) := fun pos => decodeGo_at s a pos ha
  have hR' : (a : Int) + (wordFrom (s.extract a s.size) (s.extract a s.size).size 0 : Nat) = R := hR
  clear hE hR
  go_enter Tryd.func69, Tryd.ntmps69
  go_wp2
  generalize hT : s.extract a s.size = T at hR' hts HD
  go_loopw [5, 6, 7, 8] (fun u v u7 u8 wr => ∃ pos b : Nat, wr.heap[w.heap.size]? = some (.stringIter T pos) ∧ Below w.heap.size w wr ∧ Hid ((a : Int) + (wordFrom T b pos : Nat) = R) ∧ pos ≤ T.size ∧ T.size ≤ pos + b) (fun _ _ _ _ wr => T.size - wr.iterPos w.heap.size)
  case atStart => exact ⟨0, T.size, World.iter_heap w T 0, (Below.refl _ _).alloc (Nat.le_refl _) _, hR', by omega, by omega⟩
  case round =>
    obtain ⟨pos, b, hit, hbw, HS, hpl, hb⟩ := hrel
    clear hR'
    have hpos0 := iterPos_of hit
    by_cases hp : pos < T.size
    · have hnx : ∀ ty, (Instr.next (.pointer (some ⟨w.heap.size, 0, none⟩)) true ty).run Tryd.prog wr = _ := fun ty => Lib.run_next_any_at wr w.heap.size T pos ty hit hp
      have hwd := width_pos T pos hp
      have hwl := width_le T pos hp
      have hit2 := Lib.iterAt_heap wr w.heap.size T pos (pos + (Utf8.decode T pos).2) hit
      have hbw2 := Lib.below_iterAt hbw (k := w.heap.size) (Nat.le_refl _) T (pos + (Utf8.decode T pos).2)
      obtain ⟨W1, hW1⟩ : ∃ W1, W1 = wr.iterAt w.heap.size T (pos + (Utf8.decode T pos).2) := ⟨_, rfl⟩
      rw [← hW1] at hnx hit2 hbw2
      obtain ⟨c, hc⟩ : ∃ c, (okAt T pos && partB ((Utf8.decode T pos).1 : Int)) = c := ⟨_, rfl⟩
      obtain ⟨hst, hb2⟩ := wordFrom_step T b pos hb hp c hc
      have hdg := HD.out pos hp
      have hok : okAt T pos = !(decide ((Utf8.decode T pos).1 = 65533) && decide ((Utf8.decode T pos).2 = 1)) := rfl
      rw [hok] at hc
      have hBlt := lt_of_block hit2
      have HB2 := Lib.hid hbw2
      have cW : ∀ W, Env W → Calls Tryd.prog 76 #[.string (s.extract (a + pos) s.size)] W fun e w' => e = .returned (.tuple #[.int .i32 ((Utf8.decode T pos).1 : Nat), .int .i64 ((Utf8.decode T pos).2 : Nat)]) ∧ Below W.heap.size W w' := fun W h => by
        have := Tryd.utf8_DecodeRuneInString (s.extract (a + pos) s.size) W h.2
        rw [hdg] at this
        exact this
      have cP := fun (b : Bool) (h : partB ((Utf8.decode T pos).1 : Int) = b) => (fun W => runes_Part.calls ((Utf8.decode T pos).1 : Int) b W (by rw [← h]; rfl) : ∀ W, Calls Tryd.prog 88 #[.int .i32 ((Utf8.decode T pos).1 : Int)] W fun e w' => e = .returned (.bool b) ∧ Below W.heap.size W w')
      generalize Utf8.decode T pos = D at *
      obtain ⟨r0, wd⟩ := D
      simp only at *
      obtain ⟨b1, hb1⟩ : ∃ b1, partB (r0 : Int) = b1 := ⟨_, rfl⟩
      obtain ⟨b3, hb3⟩ : ∃ b3, decide (r0 = 65533) = b3 := ⟨_, rfl⟩
      obtain ⟨b4, hb4⟩ : ∃ b4, decide (wd = 1) = b4 := ⟨_, rfl⟩
      have hcP := cP b1 hb1
      have t3 : ((r0 : Int) == 65533) = b3 := by rw [← hb3, Bool.eq_iff_iff]; simp; omega
      have t4 : ((wd : Int) == 1) = b4 := by rw [← hb4, Bool.eq_iff_iff]; simp; omega
      rw [hb1, hb3, hb4] at hc
      have HEr : Hid (Env W1) := Env.below HE.out (hbw2.mono (Nat.le_refl _))
      have HST := Lib.hid hst
      have HT := Lib.hid hT
      have hap : (a : Int) + pos ≤ s.size := by omega
      have hap0 : (0 : Int) ≤ (a : Int) + pos := by omega
      clear hW1 hit hbw hst hT cP hdg hok hb1 hb3 hb4
      have hcc : (!(b3 && b4) && b1) = c := hc
      have HCC := Lib.hid hcc
      clear hc hcc
      cases b1 <;> cases b3 <;> cases b4
      case true.true.false | true.false.true | true.false.false =>
        obtain rfl : c = true := HCC.out.symm
        have HS2 : Hid ((a : Int) + (wordFrom T (b - 1) (pos + wd) : Nat) = R) := by have := HS.out; rw [HST.out, if_pos rfl] at this; exact this
        go_wp2_with (first | (go_at_call 76; refine (cW _ HEr.out).mono ?_; rintro e W2 ⟨rfl, hb3⟩) | (go_at_call 88; refine (hcP _).mono ?_; rintro e W3 ⟨rfl, hb4⟩))
        have hb5 := hb3.trans (hb4.mono hb3.size)
        have hit4 : W3.heap[w.heap.size]? = _ := (hb5.block _ hBlt).trans hit2
        go_roundw
        case rel => exact ⟨_, b - 1, hit4, HB2.out.trans (hb5.mono (by omega)), HS2, by omega, by omega⟩
        case measure =>
          rw [iterPos_of hit4, hpos0]
          omega
      all_goals
        obtain rfl : c = false := HCC.out.symm
        have HS2 : Hid ((a : Int) + (pos : Int) = R) := by have := HS.out; rw [HST.out, if_neg (by decide)] at this; exact this
        go_wp2_with (first | (go_at_call 76; refine (cW _ HEr.out).mono ?_; rintro e W2 ⟨rfl, hb3⟩) | (go_at_call 88; refine (hcP _).mono ?_; rintro e W3 ⟨rfl, hb4⟩))
        have hb5 := hb3.trans (hb4.mono hb3.size)
        go_ret
        exact ⟨ret_int HS2.out, HB2.out.trans (hb5.mono (by omega))⟩
    · have hnx : ∀ ty, (Instr.next (.pointer (some ⟨w.heap.size, 0, none⟩)) true ty).run Tryd.prog wr = _ := fun ty => Lib.run_next_end_at wr w.heap.size T pos ty hit hp
      have HF : Hid ((s.size : Int) = R) := by
        have := HS.out; rw [wordFrom_end T b pos hp] at this; show _ = _; omega
      have HT := Lib.hid hT
      clear hT
      go_wp2
      go_ret
      exact ⟨ret_int HF.out, hbw⟩
theorem token_Word.calls (a0 : ByteArray) (a1 : Int) (r : Int) (w : World) (hE : Env w) (h : token_Word.f a0 a1 = some r) :
    Calls Tryd.prog 69 #[.string a0, .int .i64 a1] w fun e w' => e = .returned (.int .i64 r) ∧ Below w.heap.size w w' := by
  unfold token_Word.f at h
  split at h
  · rename_i hc
    obtain rfl := Option.some.inj h
    obtain ⟨a, rfl⟩ : ∃ a : Nat, a1 = (a : Int) := ⟨a1.toNat, by omega⟩
    exact word_any a0 a w hc.2.2 (by omega) hE
  · cases h
end Go.Proofs.YtmjdjpelhhibgaaDoor.Giv
