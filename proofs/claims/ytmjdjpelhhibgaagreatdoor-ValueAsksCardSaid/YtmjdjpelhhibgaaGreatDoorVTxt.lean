/- The reader of values: what its two functions, each calling the other, come to. -/
import Derived.Test.YtmjdjpelhhibgaaGreatDoorVRd
namespace Go.Proofs.YtmjdjpelhhibgaaGreatDoor.Val
open Go Go.RowKit Go.Proofs.YtmjdjpelhhibgaaGreatDoor.Rf Go.Proofs.YtmjdjpelhhibgaaGreatDoor.Spec Go.Proofs.YtmjdjpelhhibgaaGreatDoor.Giv
set_option linter.unusedVariables false
set_option linter.unusedSimpArgs false
/-! ### small contracts -/
set_option maxRecDepth 100000 in
set_option maxHeartbeats 1000000 in
theorem ncname_any (s : ByteArray) (w : World) (hs : s.size < 4294967281) (hE : Env w) :
    Calls Tryz.prog 58 #[.string s] w fun e w' => e = .returned (.bool (Val.ncB s)) ∧ Below w.heap.size w w' := by
  obtain ⟨a, ha⟩ : ∃ a, nameB s = a := ⟨_, rfl⟩
  obtain ⟨b, hb⟩ : ∃ b, Lib.contains s.data.toList [58] = b := ⟨_, rfl⟩
  have cN := fun W (h : Env W) => runes_Name.calls s a W h (by unfold runes_Name.f; rw [if_pos hs, ha])
  have cC := fun W (h : Env W) => strings_Contains.calls s ⟨#[58]⟩ b W h (by unfold strings_Contains.f; rw [if_pos hs, ← hb])
  have hR : Val.ncB s = (a && !b) := by unfold Val.ncB; rw [ha, hb]
  rw [hR]
  have HE := Lib.hid hE
  clear hR ha hb hE
  cases a <;> cases b
  all_goals
    go_enter Tryz.func58, Tryz.ntmps58
    go_wp2_with (first | (go_at_call 81; refine (cN _ HE.out).mono ?_; rintro e w1 ⟨rfl, h1⟩) | (go_at_call 82; refine (cC _ (HE.out.below h1)).mono ?_; rintro e w2 ⟨rfl, h2⟩))
    go_ret
    first | exact ⟨rfl, h1⟩ | exact ⟨rfl, h1.trans (h2.mono h1.size)⟩
set_option maxRecDepth 100000 in
set_option maxHeartbeats 1000000 in
theorem wide_any (s : ByteArray) (w : World) (h0 : 0 < s.size) (hs : s.size < 4294967281) :
    Calls Tryz.prog 39 #[.string s] w fun e w' => e = .returned (.int .i64 ((Utf8.decode s 0).2 : Nat)) ∧ Below w.heap.size w w' := by
  have hwd := width_pos s 0 h0
  have hwl := width_le s 0 h0
  obtain ⟨D, hD⟩ : ∃ D, (Utf8.decode s 0).2 = D := ⟨_, rfl⟩
  rw [hD] at hwd hwl ⊢
  have HD := Lib.hid hD
  clear hD
  go_enter Tryz.func39, Tryz.ntmps39
  go_wp2
  go_loopw [3] (fun u wr => ∃ pos : Nat, wr.heap[w.heap.size]? = some (.stringIter s pos) ∧ Below w.heap.size w wr ∧ (pos = 0 ∨ pos = D)) (fun _ wr => s.size - wr.iterPos w.heap.size)
  case atStart => exact ⟨0, World.iter_heap w s 0, (Below.refl _ _).alloc (Nat.le_refl _) _, .inl rfl⟩
  case round =>
    obtain ⟨pos, hit, hbw, hpd⟩ := hrel
    have hpos0 := iterPos_of hit
    by_cases hp : pos < s.size
    · have hnx : ∀ ty, (Instr.next (.pointer (some ⟨w.heap.size, 0, none⟩)) true ty).run Tryz.prog wr = _ := fun ty => Lib.run_next_any_at wr w.heap.size s pos ty hit hp
      have hwd2 := width_pos s pos hp
      have hit2 := Lib.iterAt_heap wr w.heap.size s pos (pos + (Utf8.decode s pos).2) hit
      have hbw2 := Lib.below_iterAt hbw (k := w.heap.size) (Nat.le_refl _) s (pos + (Utf8.decode s pos).2)
      obtain ⟨W1, hW1⟩ : ∃ W1, W1 = wr.iterAt w.heap.size s (pos + (Utf8.decode s pos).2) := ⟨_, rfl⟩
      rw [← hW1] at hnx hit2 hbw2
      clear hW1 hit hbw
      rcases hpd with rfl | rfl
      · have h1 : ¬ ((0 : Nat) : Int) > 0 := by omega
        go_wp2
        go_roundw
        case rel => exact ⟨_, hit2, hbw2, .inr (by rw [HD.out]; omega)⟩
        case measure => rw [iterPos_of hit2, hpos0]; omega
      · have h1 : ((pos : Nat) : Int) > 0 := by omega
        go_wp2
        go_ret
        exact ⟨rfl, hbw2⟩
    · have hnx : ∀ ty, (Instr.next (.pointer (some ⟨w.heap.size, 0, none⟩)) true ty).run Tryz.prog wr = _ := fun ty => Lib.run_next_end_at wr w.heap.size s pos ty hit hp
      have e : (s.size : Int) = (D : Int) := by omega
      go_wp2
      go_ret
      exact ⟨rfl, hbw⟩
theorem five_size (nm : ByteArray) (h : (fiveR nm).2 = true) : (fiveR nm).1.size = 1 := by
  unfold fiveR at h ⊢
  split
  · rfl
  · rename_i h1
    rw [if_neg h1] at h
    split
    · rfl
    · rename_i h2
      rw [if_neg h2] at h
      split
      · rfl
      · rename_i h3
        rw [if_neg h3] at h
        split
        · rfl
        · rename_i h4
          rw [if_neg h4] at h
          split
          · rfl
          · rename_i h5
            rw [if_neg h5] at h
            cases h
/-! ### entities -/
/-- What a call of the reader comes to. -/
def Did (w0 : World) (p rb : Nat) (E : List Ent) (most : Int) (w : World) (k : Int) (st' : St) (e : Ending) (w' : World) : Prop :=
  e = .returned (.int .i64 k) ∧ VS w0 w' p rb E most st' ∧ Fr p rb w w'
def TextAt (w0 : World) (p rb : Nat) (E : List Ent) (most : Int) (n : Nat) : Prop :=
  ∀ (s : ByteArray) (inner : Bool) (st : St) (w : World) (k : Int) (st' : St), s.size < 4294967281 → VS w0 w p rb E most st → runT E most n inner s.data.toList st = some (k, st') →
    st'.out.length ≤ 1000000000000 → st.op.length + n ≤ 1000000000 →
    Calls Tryz.prog 23 #[.pointer (some ⟨rb, 0, none⟩), .string s, .bool inner] w (Did w0 p rb E most w k st')
set_option maxRecDepth 100000 in
set_option maxHeartbeats 4000000 in
theorem entity_any (w0 : World) (hE0 : Env w0) (E : List Ent) (most : Int) (hm0 : -9223372036854775808 ≤ most) (hm1 : most ≤ 9223372036854775807) (hEv : ∀ nm, (entR E nm).2.1.size < 4294967281) (p rb n : Nat) (HT : TextAt w0 p rb E most n)
    (nm : ByteArray) (hnm : nm.size < 4294967281) (st : St) (w : World) (k : Int) (st' : St) (h : VS w0 w p rb E most st) (hr : entOf (runT E most n) E most nm st = some (k, st')) (ho : st'.out.length ≤ 1000000000000) (hop : st.op.length + n < 1000000000) :
    Calls Tryz.prog 38 #[.pointer (some ⟨rb, 0, none⟩), .string nm] w (Did w0 p rb E most w k st') := by
  have c5 := five_any nm
  have h2 := h.cell2
  have h3 := h.cell3
  unfold entOf at hr
  cases h5 : (fiveR nm).2 with
  | true =>
    have hz := five_size nm h5
    rw [h5, if_pos rfl] at hr
    simp only [Option.some.injEq, Prod.mk.injEq] at hr
    obtain ⟨rfl, rfl⟩ := hr
    rw [h5] at c5
    have cS := h.str (by simp at ho; omega) (fiveR nm).1 (by omega) (by omega)
    generalize (fiveR nm).1 = F at *
    have HZ := Lib.hid hz
    clear hz h5 hEv HT
    go_enter Tryz.func38, Tryz.ntmps38
    go_wp2_with (first | (go_at_call 57; refine (c5 _).mono ?_; rintro e w1 ⟨rfl, rfl⟩) | (go_at_call 40; refine cS.mono ?_; rintro e w2 ⟨rfl, hv, hf⟩))
    go_ret
    exact ⟨rfl, hv, hf⟩
  | false =>
    rw [h5, if_neg (by decide)] at hr
    rw [h5] at c5
    generalize (fiveR nm).1 = F at *
    have cN := ncname_any nm w hnm (h.env hE0)
    cases hn : Val.ncB nm with
    | false =>
      rw [hn, if_pos rfl] at hr
      rw [hn] at cN
      simp only [Option.some.injEq, Prod.mk.injEq] at hr
      obtain ⟨rfl, rfl⟩ := hr
      have H := Lib.hid h
      clear h h5 hEv HT
      go_enter Tryz.func38, Tryz.ntmps38
      go_wp2_with (first | (go_at_call 57; refine (c5 _).mono ?_; rintro e w1 ⟨rfl, rfl⟩) | (go_at_call 58; refine cN.mono ?_; rintro e w2 ⟨rfl, hb⟩))
      go_ret
      exact ⟨rfl, H.out.below hb, Fr.of_below hb⟩
    | true =>
      rw [hn, if_neg (by decide)] at hr
      rw [hn] at cN
      by_cases hc : openC E st.op st.sp nm most = 0
      · rw [if_pos hc] at hr
        have cO := fun W (hW : VS w0 W p rb E most st) => hW.open_yes nm (by omega) hm0 hm1 (hEv nm) hc
        have hsz := hEv nm
        generalize (entR E nm).2.1 = V at *
        cases hz : runT E most n true V.data.toList ⟨st.out, st.op ++ [nm], st.sp + V.size⟩ with
        | none => rw [hz] at hr; cases hr
        | some q =>
          obtain ⟨k1, s1⟩ := q
          have hg := runT_grew E most _ _ _ _ _ _ hz
          rw [hz] at hr
          simp only at hr
          have ho1 : s1.out.length ≤ 1000000000000 := by
            split at hr
            all_goals
              simp only [Option.some.injEq, Prod.mk.injEq] at hr
              obtain ⟨_, rfl⟩ := hr
              exact ho
          have cT := fun W (hW : VS w0 W p rb E most ⟨st.out, st.op ++ [nm], st.sp + V.size⟩) => HT V true _ W k1 s1 hsz hW hz ho1 (by simp; omega)
          have HV := Lib.hid h
          have HG := Lib.hid hg
          have HC : Hid (∀ W W', Below W.heap.size W W' → W'.cell? ⟨rb, 2, none⟩ = W'.cell? ⟨rb, 2, none⟩) := fun _ _ _ => rfl
          have HO := Lib.hid ho
          clear h h5 hn hc hz hEv HT hg ho ho1 hE0
          by_cases hk : k1 = 0
          · subst hk
            rw [if_pos rfl] at hr
            simp only [Option.some.injEq, Prod.mk.injEq] at hr
            obtain ⟨rfl, rfl⟩ := hr
            have hop1 : s1.op.length ≤ 1000000000 := by rw [HG.out.op rfl]; simp; omega
            have cC := fun W (hW : VS w0 W p rb E most s1) => hW.close nm hop1
            go_enter Tryz.func38, Tryz.ntmps38
            go_wp2_with (first | (go_at_call 57; refine (c5 _).mono ?_; rintro e w1 ⟨rfl, rfl⟩) | (go_at_call 58; refine cN.mono ?_; rintro e w2 ⟨rfl, hb⟩; have hv2 := HV.out.below hb; have hf2 := Fr.of_below (p := p) (rb := rb) hb; have d2 := hv2.cell2; have d3 := hv2.cell3; have Hv2 := Lib.hid hv2; clear hv2))
            go_region_with (go_at_call 59; refine (cO _ Hv2.out.drew).mono ?_; rintro e w3 ⟨rfl, hv3, hf3⟩; have Hv3 := Lib.hid hv3; clear hv3)
            all_goals
              go_wp2_with (first | (go_at_call 23; refine (cT _ Hv3.out).mono ?_; rintro e w4 ⟨rfl, hv4, hf4⟩; have e2 := hv4.cell2; have Hv4 := Lib.hid hv4; clear hv4) | (go_at_call 60; refine (cC _ Hv4.out).mono ?_; rintro e w5 ⟨rfl, hv5, hf5⟩))
              go_ret
              exact ⟨rfl, hv5, ((hf2.trans hf3).trans hf4).trans hf5⟩
          · rw [if_neg hk] at hr
            simp only [Option.some.injEq, Prod.mk.injEq] at hr
            obtain ⟨rfl, rfl⟩ := hr
            have hk1 : (k1 != 0) = true := by simpa using hk
            go_enter Tryz.func38, Tryz.ntmps38
            go_wp2_with (first | (go_at_call 57; refine (c5 _).mono ?_; rintro e w1 ⟨rfl, rfl⟩) | (go_at_call 58; refine cN.mono ?_; rintro e w2 ⟨rfl, hb⟩; have hv2 := HV.out.below hb; have hf2 := Fr.of_below (p := p) (rb := rb) hb; have d2 := hv2.cell2; have d3 := hv2.cell3; have Hv2 := Lib.hid hv2; clear hv2))
            go_region_with (go_at_call 59; refine (cO _ Hv2.out.drew).mono ?_; rintro e w3 ⟨rfl, hv3, hf3⟩; have Hv3 := Lib.hid hv3; clear hv3)
            all_goals
              go_wp2_with (first | (go_at_call 23; refine (cT _ Hv3.out).mono ?_; rintro e w4 ⟨rfl, hv4, hf4⟩; have Hv4 := Lib.hid hv4; clear hv4))
              go_ret
              exact ⟨rfl, Hv4.out, (hf2.trans hf3).trans hf4⟩
      · rw [if_neg hc] at hr
        have cO := fun W (hW : VS w0 W p rb E most st) => hW.open_no nm (by omega) hm0 hm1 (hEv nm) _ rfl hc
        generalize openC E st.op st.sp nm most = C at *
        simp only [Option.some.injEq, Prod.mk.injEq] at hr
        obtain ⟨rfl, rfl⟩ := hr
        have HV := Lib.hid h
        clear h h5 hn hEv HT hE0
        by_cases hC3 : C = 3
        · subst hC3
          rw [if_pos rfl]
          go_enter Tryz.func38, Tryz.ntmps38
          go_wp2_with (first | (go_at_call 57; refine (c5 _).mono ?_; rintro e w1 ⟨rfl, rfl⟩) | (go_at_call 58; refine cN.mono ?_; rintro e w2 ⟨rfl, hb⟩; have hv2 := HV.out.below hb; have hf2 := Fr.of_below (p := p) (rb := rb) hb; have d2 := hv2.cell2; have d3 := hv2.cell3; have Hv2 := Lib.hid hv2; clear hv2))
          go_region_with (go_at_call 59; refine (cO _ Hv2.out.drew).mono ?_; rintro e w3 ⟨rfl, hv3, hf3⟩; have Hv3 := Lib.hid hv3; clear hv3)
          all_goals
            go_wp2
            go_ret
            exact ⟨rfl, Hv3.out, hf2.trans hf3⟩
        · rw [if_neg hC3]
          have q1 : (C == 3) = false := by simpa using hC3
          have q2 : (C != 0) = true := by simpa using hc
          go_enter Tryz.func38, Tryz.ntmps38
          go_wp2_with (first | (go_at_call 57; refine (c5 _).mono ?_; rintro e w1 ⟨rfl, rfl⟩) | (go_at_call 58; refine cN.mono ?_; rintro e w2 ⟨rfl, hb⟩; have hv2 := HV.out.below hb; have hf2 := Fr.of_below (p := p) (rb := rb) hb; have d2 := hv2.cell2; have d3 := hv2.cell3; have Hv2 := Lib.hid hv2; clear hv2))
          go_region_with (go_at_call 59; refine (cO _ Hv2.out.drew).mono ?_; rintro e w3 ⟨rfl, hv3, hf3⟩; have Hv3 := Lib.hid hv3; clear hv3)
          all_goals
            go_wp2
            go_ret
            exact ⟨rfl, Hv3.out, hf2.trans hf3⟩
end Go.Proofs.YtmjdjpelhhibgaaGreatDoor.Val
