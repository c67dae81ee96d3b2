/- The contracts of the package of what stands ahead: literals. The contracts of the package of what stands ahead: a literal, a sign, where a text stands. -/
import Derived.Test.YtmjdjpelhhibgaaDoorDNames
namespace Go.Proofs.YtmjdjpelhhibgaaDoor.DA
open Go.RowKit Go.Proofs.YtmjdjpelhhibgaaDoor.Ow Go.Proofs.YtmjdjpelhhibgaaDoor.DS Go.Proofs.YtmjdjpelhhibgaaDoor.Spec Go.Proofs.YtmjdjpelhhibgaaDoor.Giv
set_option linter.unusedVariables false
set_option linter.unusedSimpArgs false
theorem cut_q (s m : ByteArray) (w : World) (hs : s.size < 4294967281) (hE : Env w) :
    Calls Tryd.prog 47 #[.string s, .string m] w fun e w' => e = .returned (.tuple #[.string (bs (Lib.cut s.data.toList m.data.toList).1), .string (bs (Lib.cut s.data.toList m.data.toList).2.1), .bool (Lib.cut s.data.toList m.data.toList).2.2]) ∧ ∃ n, w' = w.drewN n := by
  obtain ⟨⟨k, hk⟩, -⟩ := hE
  exact Tryd.strings_Cut s m k w hs hk
def LitQ (t : Option (List UInt8)) (a : Nat) (w : World) (e : Ending) (w' : World) : Prop :=
  e = .returned (match t with | some t => .tuple #[.string (bs t), .int .i64 ((a : Int) + (t.length : Int) + 2), .bool true] | none => .tuple #[.string (bs []), .int .i64 a, .bool false]) ∧ ∃ n, w' = w.drewN n
theorem drop_at (s : ByteArray) (a : Nat) (h : a < s.size) : s.data.toList.drop a = s[a]'h :: s.data.toList.drop (a + 1) := Spec.drop_cons s a h
theorem ext_one (s : ByteArray) (a : Nat) (h : a < s.size) : (s.extract a (a + 1)).data.toList = [s[a]'h] := by
  have := congrArg (fun b : ByteArray => b.data.toList) (bs_take s a 1)
  simp only [bs_data] at this
  rw [← this, drop_at s a h]
  rfl
theorem w64i (x : Int) (h0 : -9223372036854775808 ≤ x) (h1 : x < 9223372036854775808) : IntKind.i64.wrap x = x := IntWalk.i64_in x (by omega)
set_option maxRecDepth 100000 in
set_option maxHeartbeats 1000000 in
theorem Literal_any (s : ByteArray) (a : Nat) (w : World) (hs : s.size < 4294967281) (ha : a ≤ s.size) (hE : Env w) :
    Calls Tryd.prog 25 #[.string s, .int .i64 a] w (LitQ (lit (s.data.toList.drop a)) a w) := by
  by_cases hl : a < s.size
  · have hz : (0 : Int) ≤ (a : Int) := by omega
    have hz1 : (a : Int) < (s.size : Int) := by omega
    obtain ⟨c, hc⟩ : ∃ c, s[a]'hl = c := ⟨_, rfl⟩
    have hd : s.data.toList.drop a = c :: s.data.toList.drop (a + 1) := by rw [← hc]; exact drop_at s a hl
    have n0 : decide ((a : Int) < 0) = false := by rw [decide_eq_false_iff_not]; omega
    have n1 : decide (s.size ≤ a) = false := by rw [decide_eq_false_iff_not]; omega
    by_cases hq : c = 34 ∨ c = 39
    · have hw : IntKind.i64.wrap ((a : Int) + 1) = (a : Int) + 1 := w64i _ (by omega) (by omega)
      have y0 : (0 : Int) ≤ (a : Int) + 1 := by omega
      have y1 : (a : Int) + 1 ≤ (s.size : Int) := by omega
      have y2 : (a : Int) ≤ (a : Int) + 1 := by omega
      have y3 : ((a : Int) + 1).toNat = a + 1 := by omega
      have y4 : ((a : Int)).toNat = a := by omega
      have HQ := fun W hE => cut_q (s.extract (a + 1) s.size) (s.extract a (a + 1)) W (by simp; omega) hE
      rw [ext_list, ext_one s a hl, hc] at HQ
      have hlen : (Lib.cut (s.data.toList.drop (a + 1)) [c]).1.length ≤ s.size := by
        unfold Lib.cut
        split
        · simp; omega
        · simp
      cases hf : (Lib.cut (s.data.toList.drop (a + 1)) [c]).2.2 with
      | false =>
        have e : lit (s.data.toList.drop a) = none := by
          rw [hd, lit, if_pos (by rcases hq with rfl | rfl <;> rfl), hf]; rfl
        rw [e]
        rw [hf] at HQ
        generalize (Lib.cut (s.data.toList.drop (a + 1)) [c]).1 = r1 at HQ
        generalize (Lib.cut (s.data.toList.drop (a + 1)) [c]).2.1 = r2 at HQ
        clear e hd hf hlen
        rcases hq with rfl | rfl
        all_goals
          go_enter Tryd.func25, Tryd.ntmps25
          go_wp2_with fail
          all_goals first | (exfalso; omega) | skip
          go_quiet ((go_at_call 47; exact Calls.quiet_of (HQ _ (env_drewN hE _))))
          go_wp2_with fail
          go_ret3
          exact ⟨rfl, _, rfl⟩
      | true =>
        have e : lit (s.data.toList.drop a) = some (Lib.cut (s.data.toList.drop (a + 1)) [c]).1 := by
          rw [hd, lit, if_pos (by rcases hq with rfl | rfl <;> rfl), hf]; rfl
        rw [e]
        rw [hf] at HQ
        generalize (Lib.cut (s.data.toList.drop (a + 1)) [c]).1 = r1 at HQ hlen
        generalize (Lib.cut (s.data.toList.drop (a + 1)) [c]).2.1 = r2 at HQ
        have hbl : (bs r1).size = r1.length := List.size_toArray
        obtain ⟨B1, hB1⟩ : ∃ B, bs r1 = B := ⟨_, rfl⟩
        rw [hB1] at HQ hbl
        have HB := Lib.hid hB1
        have v1 : IntKind.i64.wrap ((a : Int) + (B1.size : Int)) = (a : Int) + (B1.size : Int) := w64i _ (by omega) (by omega)
        have v2 : IntKind.i64.wrap ((a : Int) + (B1.size : Int) + 2) = (a : Int) + (B1.size : Int) + 2 := w64i _ (by omega) (by omega)
        have HL := Lib.hid hbl
        clear e hd hf hlen hB1 hbl
        rcases hq with rfl | rfl
        all_goals
          go_enter Tryd.func25, Tryd.ntmps25
          go_wp2_with fail
          all_goals first | (exfalso; omega) | skip
          go_quiet ((go_at_call 47; exact Calls.quiet_of (HQ _ (env_drewN hE _))))
          go_wp2_with fail
          go_ret3
          refine ⟨?_, _, rfl⟩
          show _ = Ending.returned (.tuple #[.string (bs r1), .int .i64 ((a : Int) + (r1.length : Int) + 2), .bool true])
          rw [HB.out, ← HL.out]
          rfl
    · have e : lit (s.data.toList.drop a) = none := by
        rw [hd, lit, if_neg]
        simp only [Bool.or_eq_true, beq_iff_eq]
        exact hq
      rw [e]
      have k1 : ((c.toNat : Int) != 34) = true := by
        rw [bne_iff_ne]; intro h; apply hq; left; apply UInt8.toNat_inj.1; show c.toNat = 34; omega
      have k2 : ((c.toNat : Int) != 39) = true := by
        rw [bne_iff_ne]; intro h; apply hq; right; apply UInt8.toNat_inj.1; show c.toNat = 39; omega
      have k3 : (c.toNat : Int) ≠ 34 := bne_iff_ne.1 k1
      clear e hd hq
      go_enter Tryd.func25, Tryd.ntmps25
      go_wp2_with fail
      all_goals first | (go_ret3; exact ⟨rfl, 0, rfl⟩) | skip
  · obtain rfl : a = s.size := by omega
    have e : lit (s.data.toList.drop s.size) = none := by rw [List.drop_eq_nil_of_le (by simp)]; rfl
    rw [e]
    clear e
    go_enter Tryd.func25, Tryd.ntmps25
    go_wp2_with fail
    go_ret3
    exact ⟨rfl, 0, rfl⟩
end Go.Proofs.YtmjdjpelhhibgaaDoor.DA
namespace Go.Proofs.YtmjdjpelhhibgaaDoor.DA
open Go.RowKit Go.Proofs.YtmjdjpelhhibgaaDoor.Ow Go.Proofs.YtmjdjpelhhibgaaDoor.DS Go.Proofs.YtmjdjpelhhibgaaDoor.Spec Go.Proofs.YtmjdjpelhhibgaaDoor.Giv
set_option linter.unusedVariables false
set_option linter.unusedSimpArgs false
theorem lit_len {r t : List UInt8} (h : lit r = some t) : t.length + 2 ≤ r.length := by
  cases r with
  | nil => cases h
  | cons c l =>
    rw [lit] at h
    split at h
    · split at h
      · rename_i h1 h2
        obtain rfl := Option.some.inj h
        unfold Lib.cut at h2 ⊢
        split
        · rename_i h3
          have := DNames.find_lt (l := l) (p := (· == c)) (j := (Lib.index l [c]).toNat) (by
            rw [Lib.index_one, DNames.indexByte_find] at h3 ⊢
            cases hf : l.findIdx? (· == c) with
            | none => rw [hf] at h3; simp at h3
            | some j => simp)
          simp
          omega
        · rename_i h3
          rw [if_neg h3] at h2
          cases h2
      · cases h
    · cases h
set_option maxRecDepth 100000 in
set_option maxHeartbeats 1000000 in
theorem literal_any (p : Nat) (s : ByteArray) (x : St) (nm : ByteArray) (ve va : Value) (w : World) (h : IsR w p s x nm ve va) :
    Calls Tryd.prog 44 #[.pointer (some ⟨p, 0, none⟩)] w (Step p s (litX x) nm ve va (.string (bs (litS x))) w) := by
  obtain ⟨a, hs, ha, hr, c0, c1, c2, f1, f2, hp⟩ := h.open_
  have hE := h.env
  have HI := Lib.hid h
  clear h
  have HL := fun W hE => Literal_any s a W hs ha hE
  rw [← hr] at HL
  unfold LitQ at HL
  cases hl : lit x.r with
  | none =>
    have e1 : litX x = ⟨x.r, true⟩ := by simp [litX, hl]
    have e2 : litS x = [] := by simp [litS, hl]
    rw [e1, e2]
    rw [hl] at HL
    simp only at HL
    clear hl e1 e2 hr
    cases hb : x.bad
    all_goals
      rw [hb] at c2
      clear hb
      go_enter Tryd.func44, Tryd.ntmps44
      go_wp2_with fail
      go_quiet ((go_at_call 25; exact Calls.quiet_of (HL _ (env_drewN hE _))))
      go_wp2_with fail
      go_ret
      exact ⟨rfl, (HI.out.drewN _).setBad true, (Tn.refl.drewN _).set _ _⟩
  | some t =>
    have e2 : litS x = t := by simp [litS, hl]
    have hlen := lit_len hl
    rw [hr] at hlen
    simp at hlen
    rw [hl] at HL
    simp only at HL
    rw [e2]
    cases hb : x.bad with
    | true =>
      have e1 : litX x = x := by simp [litX, hl, hb]
      rw [e1]
      rw [hb] at c2
      have HB := Lib.hid hb
      clear hl e1 e2 hr hb hlen
      go_enter Tryd.func44, Tryd.ntmps44
      go_wp2_with fail
      go_quiet ((go_at_call 25; exact Calls.quiet_of (HL _ (env_drewN hE _))))
      go_wp2_with fail
      go_ret
      refine ⟨rfl, ?_, (Tn.refl.drewN _).set _ _⟩
      have := (HI.out.drewN nq).setBad true
      rw [show (⟨x.r, true⟩ : St) = x by rw [← HB.out]] at this
      exact this
    | false =>
      have e1 : litX x = ⟨s.data.toList.drop (a + (t.length + 2)), x.bad⟩ := by simp only [litX, hl, hb, Bool.false_eq_true, if_false]; rw [hr, List.drop_drop]
      rw [e1]
      rw [hb] at c2
      have HB := Lib.hid hb
      have hcast : ((a + (t.length + 2) : Nat) : Int) = (a : Int) + (t.length : Int) + 2 := by omega
      have HC := Lib.hid hcast
      clear hl e1 e2 hr hb hcast
      go_enter Tryd.func44, Tryd.ntmps44
      go_wp2_with fail
      go_quiet ((go_at_call 25; exact Calls.quiet_of (HL _ (env_drewN hE _))))
      go_wp2_with fail
      go_ret
      refine ⟨rfl, ?_, ((Tn.refl.drewN _).set _ _).set _ _⟩
      have := ((HI.out.drewN nq).setBad false).setAt (a + (t.length + 2)) (by omega) _ rfl
      rw [HC.out] at this
      rw [HB.out]
      exact this
/-! ### a sign between a name and a value -/
set_option maxRecDepth 100000 in
theorem eq_any (p : Nat) (s : ByteArray) (x : St) (nm : ByteArray) (ve va : Value) (w : World) (h : IsR w p s x nm ve va) :
    Calls Tryd.prog 43 #[.pointer (some ⟨p, 0, none⟩)] w (Step p s (eqX x) nm ve va unitV w) := by
  have H1 := space_any p s x nm ve va w h
  clear h
  go_enter Tryd.func43, Tryd.ntmps43
  go_wp2_with fail
  refine H1.mono ?_
  clear H1
  rintro e w1 ⟨rfl, hI1, hT1⟩
  have H2 := must_any p s (spaceX x) nm ve va ⟨#[61]⟩ w1 hI1
  clear hI1
  go_wp2_with fail
  refine H2.mono ?_
  clear H2
  rintro e w2 ⟨rfl, hI2, hT2⟩
  have H3 := space_any p s _ nm ve va w2 hI2
  clear hI2
  go_wp2_with fail
  refine H3.mono ?_
  clear H3
  rintro e w3 ⟨rfl, hI3, hT3⟩
  go_wp2_with fail
  go_end0
  exact ⟨rfl, hI3, (hT1.trans hT2).trans hT3⟩
end Go.Proofs.YtmjdjpelhhibgaaDoor.DA
