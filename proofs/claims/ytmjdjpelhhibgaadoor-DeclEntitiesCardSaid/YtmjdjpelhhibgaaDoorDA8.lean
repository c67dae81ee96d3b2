/- The contracts of the package of what stands ahead: a default. The contracts of the package of what stands ahead: versions. -/
import Derived.Test.YtmjdjpelhhibgaaDoorDA6
namespace Go.Proofs.YtmjdjpelhhibgaaDoor.DA
open Go.RowKit Go.Proofs.YtmjdjpelhhibgaaDoor.Ow Go.Proofs.YtmjdjpelhhibgaaDoor.DS Go.Proofs.YtmjdjpelhhibgaaDoor.Spec Go.Proofs.YtmjdjpelhhibgaaDoor.Giv
set_option linter.unusedVariables false
set_option linter.unusedSimpArgs false
abbrev TA : TypeId := 58
/-- What a step of the reader turns that writes to an attribute, too. -/
structure Tn2 (p q : Nat) (w w' : World) : Prop where
  os : w'.os = w.os
  tape : w'.tape = w.tape
  output : w'.output = w.output
  size : w.heap.size ≤ w'.heap.size
  block : ∀ k, k < w.heap.size → k ≠ p → k ≠ q → w'.heap[k]? = w.heap[k]?
theorem Tn2.of_tn {p q : Nat} {w w' : World} (h : Tn p w w') : Tn2 p q w w' := ⟨h.os, h.tape, h.output, h.size, fun k hk h1 _ => h.block k hk h1⟩
theorem Tn2.trans {p q : Nat} {w w' w'' : World} (h : Tn2 p q w w') (h' : Tn2 p q w' w'') : Tn2 p q w w'' :=
  ⟨h'.os.trans h.os, h'.tape.trans h.tape, h'.output.trans h.output, Nat.le_trans h.size h'.size, fun k hk hp hq => (h'.block k (Nat.lt_of_lt_of_le hk h.size) hp hq).trans (h.block k hk hp hq)⟩
theorem Tn2.setq {p q : Nat} {w w' : World} (h : Tn2 p q w w') (o : Nat) (v : Value) : Tn2 p q w (w'.setCell ⟨q, o, none⟩ v) :=
  ⟨h.os, h.tape, h.output, by simpa [World.setCell] using h.size, fun k hk hp hq => (Below.heap_setCell _ _ _ _ hq).trans (h.block k hk hp hq)⟩
theorem Tn2.setp {p q : Nat} {w w' : World} (h : Tn2 p q w w') (o : Nat) (v : Value) : Tn2 p q w (w'.setCell ⟨p, o, none⟩ v) :=
  ⟨h.os, h.tape, h.output, by simpa [World.setCell] using h.size, fun k hk hp hq => (Below.heap_setCell _ _ _ _ hp).trans (h.block k hk hp hq)⟩
theorem Tn2.fresh {p q : Nat} {w w0 w' : World} (h : Tn2 p q w w') (h0 : Tn p w0 w) (hq : w0.heap.size ≤ q) : Tn p w0 w' :=
  ⟨h.os.trans h0.os, h.tape.trans h0.tape, h.output.trans h0.output, Nat.le_trans h0.size h.size, fun k hk hp => (h.block k (Nat.lt_of_lt_of_le hk h0.size) hp (by omega)).trans (h0.block k hk hp)⟩
section
variable {w : World} {p : Nat} {s : ByteArray} {x : St} {nm : ByteArray} {ve va : Value}
theorem IsR.len (h : IsR w p s x nm ve va) : x.r.length < 4294967281 := by
  obtain ⟨a, hs, ha, hr, _⟩ := h.open_
  rw [hr]; simp; omega
/-- A store to a block made later changes nothing of the reader. -/
theorem IsR.far (h : IsR w p s x nm ve va) {q : Nat} (hq : p < q) (o : Nat) (v : Value) : IsR (w.setCell ⟨q, o, none⟩ v) p s x nm ve va := by
  obtain ⟨⟨W0, e1, e2, e3⟩, h0, a, h1, h2, hc⟩ := h
  refine ⟨⟨W0, e1, ⟨e2.os, e2.tape, e2.output, by simpa [World.setCell] using e2.size, fun k hk => (Below.heap_setCell _ _ _ _ (show k ≠ q by omega)).trans (e2.block k hk)⟩, e3⟩, h0, a, h1, h2, ?_⟩
  rw [Below.heap_setCell _ _ _ _ (show p ≠ q by omega)]
  exact hc
end
/-- Block q is an attribute. -/
def IsA (w : World) (q : Nat) (a : Att) : Prop := w.heap[q]? = some (.cells #[.string (bs a.el), .string (bs a.nm), .int .i64 a.ty, .bool a.has, .string (bs a.vl)] TA (0, 0))
theorem IsA.lt {w : World} {q : Nat} {a : Att} (h : IsA w q a) : q < w.heap.size := (Array.getElem?_eq_some_iff.1 h).1
theorem IsA.tn {w w' : World} {p q : Nat} {a : Att} (h : IsA w q a) (ht : Tn p w w') (hq : p < q) : IsA w' q a := (ht.block q h.lt (by omega)).trans h
theorem IsA.open_ {w : World} {q : Nat} {a : Att} (h : IsA w q a) : w.cell? ⟨q, 0, none⟩ = some (.string (bs a.el)) ∧ w.cell? ⟨q, 1, none⟩ = some (.string (bs a.nm)) ∧ w.cell? ⟨q, 2, none⟩ = some (.int .i64 a.ty) ∧ w.cell? ⟨q, 3, none⟩ = some (.bool a.has) ∧ w.cell? ⟨q, 4, none⟩ = some (.string (bs a.vl)) ∧
    w.frozen? ⟨q, 2, none⟩ = false ∧ w.frozen? ⟨q, 3, none⟩ = false ∧ w.frozen? ⟨q, 4, none⟩ = false ∧ q < w.heap.size :=
  ⟨cell_of h 0, cell_of h 1, cell_of h 2, cell_of h 3, cell_of h 4, frozen_of h 2, frozen_of h 3, frozen_of h 4, h.lt⟩
theorem IsA.set {w : World} {q : Nat} {a : Att} (h : IsA w q a) : IsA (w.setCell ⟨q, 2, none⟩ (.int .i64 7)) q ⟨a.el, a.nm, 7, a.has, a.vl⟩ := by
  unfold IsA at *
  simp only [World.setCell, Array.getElem?_modify, h]
  simp
theorem IsA.set2 {w : World} {q : Nat} {a : Att} (h : IsA w q a) (t : Int) : IsA (w.setCell ⟨q, 2, none⟩ (.int .i64 t)) q ⟨a.el, a.nm, t, a.has, a.vl⟩ := by
  unfold IsA at *
  simp only [World.setCell, Array.getElem?_modify, h]
  simp
theorem IsA.set34 {w : World} {q : Nat} {a : Att} (h : IsA w q a) (v : List UInt8) : IsA ((w.setCell ⟨q, 3, none⟩ (.bool true)).setCell ⟨q, 4, none⟩ (.string (bs v))) q ⟨a.el, a.nm, a.ty, true, v⟩ := by
  unfold IsA at *
  simp only [World.setCell, Array.getElem?_modify, h]
  simp
theorem IsA.farp {w : World} {p q o : Nat} {a : Att} {v : Value} (h : IsA w q a) (hq : p < q) : IsA (w.setCell ⟨p, o, none⟩ v) q a := (Below.heap_setCell _ _ _ _ (show q ≠ p by omega)).trans h
def StepA (p q : Nat) (s : ByteArray) (x' : St) (nm : ByteArray) (ve va : Value) (a : Att) (v : Value) (w : World) (e : Ending) (w' : World) : Prop := e = .returned v ∧ IsR w' p s x' nm ve va ∧ IsA w' q a ∧ Tn2 p q w w'
/-! ### value -/
set_option maxRecDepth 100000 in
set_option maxHeartbeats 2000000 in
theorem value_none (p q : Nat) (s : ByteArray) (x : St) (nm : ByteArray) (ve va : Value) (a : Att) (w : World) (h : IsR w p s x nm ve va) (hA : IsA w q a) (hpq : p < q) (hn : valNone x = true) :
    Calls Tryd.prog 93 #[.pointer (some ⟨p, 0, none⟩), .pointer (some ⟨q, 0, none⟩)] w (StepA p q s (valX x) nm ve va a unitV w) := by
  have em : (⟨#[35, 82, 69, 81, 85, 73, 82, 69, 68]⟩ : ByteArray).data.toList = requiredM := rfl
  have em2 : (⟨#[35, 73, 77, 80, 76, 73, 69, 68]⟩ : ByteArray).data.toList = impliedM := rfl
  have H1 := has_any p s x nm ve va ⟨#[35, 82, 69, 81, 85, 73, 82, 69, 68]⟩ w h
  rw [em] at H1
  cases hx : has requiredM x with
  | true =>
    have e1 : valX x = hasX requiredM x := by simp [valX, hx]
    rw [e1]
    rw [hx] at H1
    have HA := Lib.hid hA
    clear h hA hn hx e1
    go_enter Tryd.func93, Tryd.ntmps93
    go_wp2_with fail
    refine H1.mono ?_
    clear H1
    rintro e w1 ⟨rfl, hI1, hT1⟩
    go_wp2_with fail
    refine bodyPost_ret (results_none rfl _ _ _) rfl ?_
    exact ⟨rfl, hI1, HA.out.tn hT1 hpq, .of_tn hT1⟩
  | false =>
    have hx2 : has impliedM x = true := by simpa [valNone, hx] using hn
    have e0 : hasX requiredM x = x := by simp [hasX, hx]
    have e1 : valX x = hasX impliedM x := by simp [valX, hx, hx2]
    rw [e1]
    rw [hx, e0] at H1
    have HA := Lib.hid hA
    clear h hA hn hx e1 e0
    go_enter Tryd.func93, Tryd.ntmps93
    go_wp2_with fail
    refine H1.mono ?_
    clear H1
    rintro e w1 ⟨rfl, hI1, hT1⟩
    have H2 := has_any p s x nm ve va ⟨#[35, 73, 77, 80, 76, 73, 69, 68]⟩ w1 hI1
    rw [em2, hx2] at H2
    clear hI1 hx2
    go_wp2_with fail
    refine H2.mono ?_
    clear H2
    rintro e w2 ⟨rfl, hI2, hT2⟩
    go_wp2_with fail
    refine bodyPost_ret (results_none rfl _ _ _) rfl ?_
    exact ⟨rfl, hI2, HA.out.tn (hT1.trans hT2) hpq, .of_tn (hT1.trans hT2)⟩
set_option maxRecDepth 100000 in
set_option maxHeartbeats 4000000 in
theorem value_some (p q : Nat) (s : ByteArray) (x : St) (nm : ByteArray) (ve va : Value) (a : Att) (w : World) (h : IsR w p s x nm ve va) (hA : IsA w q a) (hpq : p < q) (hn : valNone x = false) :
    Calls Tryd.prog 93 #[.pointer (some ⟨p, 0, none⟩), .pointer (some ⟨q, 0, none⟩)] w (StepA p q s (valX x) nm ve va ⟨a.el, a.nm, a.ty, true, litS (valY x)⟩ unitV w) := by
  have em : (⟨#[35, 82, 69, 81, 85, 73, 82, 69, 68]⟩ : ByteArray).data.toList = requiredM := rfl
  have em2 : (⟨#[35, 73, 77, 80, 76, 73, 69, 68]⟩ : ByteArray).data.toList = impliedM := rfl
  have em3 : (⟨#[35, 70, 73, 88, 69, 68]⟩ : ByteArray).data.toList = fixedM := rfl
  have H1 := has_any p s x nm ve va ⟨#[35, 82, 69, 81, 85, 73, 82, 69, 68]⟩ w h
  rw [em] at H1
  have hx : has requiredM x = false := by simp [valNone] at hn; exact hn.1
  have hx2 : has impliedM x = false := by simp [valNone] at hn; exact hn.2
  have e0 : hasX requiredM x = x := by simp [hasX, hx]
  have e02 : hasX impliedM x = x := by simp [hasX, hx2]
  obtain ⟨Y, hY⟩ : ∃ y, valY x = y := ⟨_, rfl⟩
  have e1 : valX x = ⟨(litX Y).r, (litX Y).bad || Lib.contains (litS Y) [60]⟩ := by rw [← hY]; simp [valX, hx, hx2, failIf]
  have hY1 : has fixedM x = false → hasX fixedM x = Y := by intro h; rw [← hY]; simp [valY, hasX, h]
  have hY2 : has fixedM x = true → gapX (hasX fixedM x) = Y := by intro h; rw [← hY]; simp [valY, h]
  rw [e1, hY]
  rw [hx, e0] at H1
  have HA := Lib.hid hA
  clear h hA hn hx e1 e0 hY
  cases hb : (litX Y).bad <;> cases hc : Lib.contains (litS Y) [60] <;> cases hf : has fixedM x
  all_goals
    first | have HZ := Lib.hid (hY1 hf) | have HZ := Lib.hid (hY2 hf)
    clear hY1 hY2
    simp only [Bool.or_true, Bool.or_false]
    have HB := Lib.hid hb
    have HCC := Lib.hid hc
    clear hb hc
    go_enter Tryd.func93, Tryd.ntmps93
    go_wp2_with fail
    refine H1.mono ?_
    clear H1
    rintro e w1 ⟨rfl, hI1, hT1⟩
    have H2 := has_any p s x nm ve va ⟨#[35, 73, 77, 80, 76, 73, 69, 68]⟩ w1 hI1
    rw [em2, hx2, e02] at H2
    clear hI1 hx2 e02
    go_wp2_with fail
    refine H2.mono ?_
    clear H2
    rintro e w2 ⟨rfl, hI2, hT2⟩
    have H3 := has_any p s x nm ve va ⟨#[35, 70, 73, 88, 69, 68]⟩ w2 hI2
    rw [em3, hf] at H3
    clear hI2 hf
    go_wp2_with fail
    refine H3.mono ?_
    clear H3
    rintro e w3 ⟨rfl, hI3, hT3⟩
    have hT := (hT1.trans hT2).trans hT3
    clear hT1 hT2 hT3
    first
      | (rw [HZ.out] at hI3
         obtain ⟨wz, hwz⟩ : ∃ wz, wz = w3 := ⟨_, rfl⟩
         rw [← hwz] at hI3 hT ⊢
         have hIz := hI3
         have hTz := hT)
      | (have H4 := gap_any p s _ nm ve va w3 hI3
         clear hI3
         go_wp2_with fail
         refine H4.mono ?_
         clear H4
         rintro e w4 ⟨rfl, hI4, hT4⟩
         rw [HZ.out] at hI4
         have hTz := hT.trans hT4
         obtain ⟨wz, hwz⟩ : ∃ wz, wz = w4 := ⟨_, rfl⟩
         rw [← hwz] at hI4 hTz ⊢
         have hIz := hI4
         have hI3 := hI4
         clear hI4 hT4)
    have HTz := Lib.hid hTz
    clear hwz hI3 hT hTz HZ
    have hYl := hIz.len
    have H5 := literal_any p s _ nm ve va wz hIz
    clear hIz
    go_wp2_with fail
    refine H5.mono ?_
    clear H5
    rintro e w5 ⟨rfl, hI5, hT5⟩
    have hA5 := (HA.out.tn HTz.out hpq).tn hT5 hpq
    obtain ⟨b0, b1, b2, b3, b4, z2, z3, z4, hq⟩ := hA5.open_
    have hA6 := hA5.set34 (litS Y)
    have hI6 := (hI5.far hpq 3 (.bool true)).far hpq 4 (.string (bs (litS Y)))
    have hT6 := ((Tn2.of_tn (q := q) (HTz.out.trans hT5)).setq 3 (.bool true)).setq 4 (.string (bs (litS Y)))
    obtain ⟨W6, hW6⟩ : ∃ W, (w5.setCell ⟨q, 3, none⟩ (.bool true)).setCell ⟨q, 4, none⟩ (.string (bs (litS Y))) = W := ⟨_, rfl⟩
    rw [hW6] at hA6 hI6 hT6
    have hE6 := hI6.env
    obtain ⟨a6, hs6, ha6, hr6, d0, d1, d2, g1, g2, hp6⟩ := hI6.open_
    obtain ⟨y0, y1, y2, y3, y4, _, _, _, hq6⟩ := hA6.open_
    have HI6 := Lib.hid hI6
    have HA6 := Lib.hid hA6
    have HT6 := Lib.hid hT6
    have HW6 := Lib.hid hW6
    have hlen : (bs (litS Y)).size < 4294967281 := by
      have e1 : (bs (litS Y)).size = (litS Y).length := List.size_toArray
      have e2 : s.data.toList.length = s.size := by simp
      rw [e1]
      unfold litS
      cases hl : lit Y.r with
      | none => simp
      | some t =>
        have := lit_len hl
        simp only [Option.getD_some]
        omega
    have HC := fun W hE => strings_Contains.calls (bs (litS Y)) ⟨#[60]⟩ _ W hE (by unfold strings_Contains.f; rw [if_pos hlen])
    have HC2 : ∀ W, Env W → Calls Tryd.prog 80 #[.string (bs (litS Y)), .string ⟨#[60]⟩] W fun e w' => e = .returned (.bool (Lib.contains (litS Y) [60])) ∧ Below W.heap.size W w' := HC
    rw [HCC.out] at HC2
    rw [HB.out] at d2
    clear hA5 hI5 hA6 hI6 hT6 hW6 hT5 hs6 ha6 hr6 hlen HC
    go_upto_region 4 with (fail)
    rw [HW6.out]
    go_wp2_with fail
    first
      | (refine (HC2 _ hE6).mono ?_
         clear HC2
         rintro e w7 ⟨rfl, hb7⟩
         have q2 := (hb7.frozen (p := ⟨p, 2, none⟩) hp6).trans g2
         have q1 := (hb7.cell (p := ⟨p, 2, none⟩) hp6).trans d2
         go_wp2_with fail
         go_end0
         have hT7 : Tn p W6 w7 := Tn.of_below hb7
         exact ⟨rfl, (HI6.out.below hb7).setBad _, (HA6.out.tn hT7 hpq).farp hpq, (HT6.out.trans (.of_tn hT7)).setp _ _⟩)
      | (go_end0
         exact ⟨rfl, HI6.out.setBad _, HA6.out.farp hpq, HT6.out.setp _ _⟩)
end Go.Proofs.YtmjdjpelhhibgaaDoor.DA
namespace Go.Proofs.YtmjdjpelhhibgaaDoor.DA
open Go.RowKit Go.Proofs.YtmjdjpelhhibgaaDoor.Ow Go.Proofs.YtmjdjpelhhibgaaDoor.DS Go.Proofs.YtmjdjpelhhibgaaDoor.Spec Go.Proofs.YtmjdjpelhhibgaaDoor.Giv
set_option linter.unusedVariables false
set_option linter.unusedSimpArgs false
def digI (c : Int) : Bool := decide (48 ≤ c ∧ c ≤ 57)
theorem dig_byte (s : ByteArray) (i : Nat) (hi : i < s.size) : digI ((Utf8.decode s i).1 : Int) = digI ((s[i]'hi).toNat : Int) := by
  by_cases ha : (s[i]'hi).toNat < 128
  · rw [decode_ascii s i hi ha]
  · have := decode_high s i hi (by omega)
    have h1 : digI ((Utf8.decode s i).1 : Int) = false := by unfold digI; rw [decide_eq_false]; omega
    have h2 : digI ((s[i]'hi).toNat : Int) = false := by unfold digI; rw [decide_eq_false]; omega
    rw [h1, h2]
theorem dig_wide (s : ByteArray) (i : Nat) (hi : i < s.size) (h : digI ((Utf8.decode s i).1 : Int) = true) : (Utf8.decode s i).2 = 1 := by
  rw [dig_byte s i hi] at h
  by_cases ha : (s[i]'hi).toNat < 128
  · rw [decode_ascii s i hi ha]
  · exfalso
    unfold digI at h
    rw [decide_eq_true_eq] at h
    omega
def digFrom (s : ByteArray) (i : Nat) : Bool := (s.data.toList.drop i).all fun c => decide (48 ≤ c.toNat ∧ c.toNat ≤ 57)
theorem digFrom_step (s : ByteArray) (i : Nat) (hi : i < s.size) (c : Bool) (hc : digI ((Utf8.decode s i).1 : Int) = c) : digFrom s i = (c && digFrom s (i + (Utf8.decode s i).2)) := by
  have hb := hc
  rw [dig_byte s i hi] at hb
  have e : digFrom s i = (c && digFrom s (i + 1)) := by
    unfold digFrom
    rw [Spec.drop_cons s i hi, List.all_cons, ← hb]
    congr 1
    unfold digI
    rw [decide_eq_decide]
    omega
  cases c with
  | false => rw [e]; rfl
  | true => rw [e, dig_wide s i hi hc]
theorem digFrom_end (s : ByteArray) (i : Nat) (hi : ¬ i < s.size) : digFrom s i = true := by
  unfold digFrom
  rw [List.drop_eq_nil_of_le (by simp; omega)]
  rfl
set_option maxRecDepth 100000 in
set_option maxHeartbeats 1000000 in
theorem version_any (v : ByteArray) (w : World) (hs : v.size < 4294967281) :
    Calls Tryd.prog 45 #[.string v] w fun e w' => e = .returned (.bool (verB v.data.toList)) ∧ Below w.heap.size w w' := by
  obtain ⟨R, hR⟩ : ∃ R, verB v.data.toList = R := ⟨_, rfl⟩
  have HP := fun W => Tryd.strings_CutPrefix v ⟨#[49, 46]⟩ W
  obtain ⟨T, hT⟩ : ∃ T, (⟨(Lib.trimPrefix v.data.toList [49, 46]).toArray⟩ : ByteArray) = T := ⟨_, rfl⟩
  obtain ⟨q0, hq0⟩ : ∃ q, Lib.hasPrefix v.data.toList [49, 46] = q := ⟨_, rfl⟩
  have hP2 : ∀ W, Calls Tryd.prog 30 #[.string v, .string ⟨#[49, 46]⟩] W fun e w' => e = .returned (.tuple #[.string T, .bool q0]) ∧ w' = W := by
    intro W; rw [← hT, ← hq0]; exact HP W
  have hts : T.size ≤ v.size := by
    have e : T.size = (Lib.trimPrefix v.data.toList [49, 46]).length := by rw [← hT]; exact List.size_toArray
    rw [e]; unfold Lib.trimPrefix; split <;> simp
  have hA : (q0 && (digFrom T 0 && !(T.toList.isEmpty))) = R := by
    rw [← hR]
    unfold verB
    rw [hq0]
    cases q0 with
    | false => rfl
    | true =>
      have : T.data.toList = v.data.toList.drop 2 := by rw [← hT]; simp [Lib.trimPrefix, hq0]
      rw [ByteArray.toList_eq]
      unfold digFrom
      rw [List.drop_zero, this, Bool.and_comm (List.all _ _)]
  rw [hR]
  have HA := Lib.hid hA
  clear hA hR HP hT hq0
  go_enter Tryd.func45, Tryd.ntmps45
  go_wp2_with fail
  refine (hP2 _).mono ?_
  clear hP2
  rintro e w1 ⟨rfl, rfl⟩
  go_wp2_with fail
  go_loopw [3] (fun u wr => ∃ (q : Bool) (pos : Nat), u = .bool q ∧ wr.heap[w1.heap.size]? = some (.stringIter T pos) ∧ Below w1.heap.size w1 wr ∧ Hid ((q && (digFrom T pos && !(T.toList.isEmpty))) = R) ∧ pos ≤ T.size) (fun _ wr => T.size - wr.iterPos w1.heap.size)
  case atStart => exact ⟨q0, 0, rfl, World.iter_heap w1 T 0, (Below.refl _ _).alloc (Nat.le_refl _) _, HA, by omega⟩
  case round =>
    obtain ⟨q, pos, rfl, hit, hbw, HS, hpl⟩ := hrel
    have hpos0 := iterPos_of hit
    by_cases hp : pos < T.size
    · have hnx : ∀ ty, (Instr.next (.pointer (some ⟨w1.heap.size, 0, none⟩)) true ty).run Tryd.prog wr = _ := fun ty => Lib.run_next_any_at wr w1.heap.size T pos ty hit hp
      have hwd := width_pos T pos hp
      have hwl := width_le T pos hp
      have hit2 := Lib.iterAt_heap wr w1.heap.size T pos (pos + (Utf8.decode T pos).2) hit
      have hbw2 := Lib.below_iterAt hbw (k := w1.heap.size) (Nat.le_refl _) T (pos + (Utf8.decode T pos).2)
      obtain ⟨W1, hW1⟩ : ∃ W1, W1 = wr.iterAt w1.heap.size T (pos + (Utf8.decode T pos).2) := ⟨_, rfl⟩
      rw [← hW1] at hnx hit2 hbw2
      obtain ⟨c, hc⟩ : ∃ c, digI ((Utf8.decode T pos).1 : Int) = c := ⟨_, rfl⟩
      have hst := digFrom_step T pos hp c hc
      have HST := Lib.hid hst
      have HW := Lib.hid hW1
      have hcc : (decide ((48 : Int) ≤ ((Utf8.decode T pos).1 : Int)) && decide (((Utf8.decode T pos).1 : Int) ≤ 57)) = c := by rw [← hc]; unfold digI; rw [Bool.decide_and]
      have HC := Lib.hid hcc
      clear hW1 hit hbw hst hc hcc
      by_cases k1 : (48 : Int) ≤ ((Utf8.decode T pos).1 : Int) <;> by_cases k2 : ((Utf8.decode T pos).1 : Int) ≤ 57 <;> cases q
      all_goals
        have HD := Lib.hid HC.out
        simp only [k1, k2, decide_true, decide_false, Bool.and_true, Bool.and_false, Bool.true_and, Bool.false_and] at HD
        go_wp2_with fail
        go_roundw
        case rel =>
          refine ⟨_, pos + (Utf8.decode T pos).2, rfl, hit2, hbw2, ?_, hwl⟩
          show _ = R
          have h1 := HS.out
          have h2 := HD.out
          rw [HST.out, ← h2] at h1
          rw [← h1]
          simp [k1, k2]
        case measure =>
          rw [show W1.iterPos w1.heap.size = pos + (Utf8.decode T pos).2 from iterPos_of hit2, hpos0]
          omega
    · have hnx : ∀ ty, (Instr.next (.pointer (some ⟨w1.heap.size, 0, none⟩)) true ty).run Tryd.prog wr = _ := fun ty => Lib.run_next_end_at wr w1.heap.size T pos ty hit hp
      have HE : Hid ((q && !(T.toList.isEmpty)) = R) := by
        have := HS.out; rw [digFrom_end T pos hp] at this; exact this
      clear HS
      cases q
      all_goals
        go_wp2_with fail
        go_ret
        refine ⟨?_, hbw⟩
        rw [← HE.out]
        rfl
end Go.Proofs.YtmjdjpelhhibgaaDoor.DA
