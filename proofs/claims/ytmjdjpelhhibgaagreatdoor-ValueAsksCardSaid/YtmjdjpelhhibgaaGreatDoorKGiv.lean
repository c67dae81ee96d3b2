/- The contracts of the package of characters and names (chapter 10's seat): what a range over a string makes of a name, and the printed contracts without their numbers of rounds. -/
import Derived.Test.YtmjdjpelhhibgaaGreatDoorR0x
import Derived.Test.YtmjdjpelhhibgaaGreatDoorSpec
import Derived.Test.YtmjdjpelhhibgaaGreatDoorShelf
import Derived.Lib.OthersKept
import Derived.Lib.Hide
import Derived.WalkSmall
namespace Go.Proofs.YtmjdjpelhhibgaaGreatDoor.Giv
open Go.RowKit Go.Proofs.YtmjdjpelhhibgaaGreatDoorW.PrintWords Go.Proofs.YtmjdjpelhhibgaaGreatDoorW.PrintLast Go.Proofs.YtmjdjpelhhibgaaGreatDoor.R0 Go.Proofs.YtmjdjpelhhibgaaGreatDoor.Spec
set_option linter.unusedVariables false

/-- What the library's variables hold, as the calls need it. -/
def Env (w : World) : Prop := (∃ m : Int, w.cell? ⟨0, 0, none⟩ = some (.int .i64 m)) ∧ Lib.Utf8Tabs 1 2 w
theorem cell_lt {w : World} {p : Addr} {v : Value} (h : w.cell? p = some v) : p.block < w.heap.size := by
  unfold World.cell? at h
  cases hb : w.heap[p.block]? with
  | none => simp [hb] at h
  | some o => exact (Array.getElem?_eq_some_iff.1 hb).1
theorem Env.below {w w' : World} (h : Env w) (hb : Below w.heap.size w w') : Env w' := by
  obtain ⟨⟨m, hm⟩, hT⟩ := h
  exact ⟨⟨m, by rw [hb.cell (p := ⟨0, 0, none⟩) (cell_lt hm)]; exact hm⟩, Utf8Tabs_below hT hb⟩

theorem hidTrue : Hid (true = true) := rfl

/-! ### the printed functions, without rounds -/
theorem in_loop (a : Int) (l : List S154) (hl : l.length < 1000) : ∀ (d k i : Nat), l.length - i = d → d < k → i ≤ l.length →
    runes_in.l0 k a l (l.length : Int) (i : Int) = some ((l.drop i).any fun s => decide (s.f0 ≤ a) && decide (a ≤ s.f1)) := by
  intro d
  induction d with
  | zero =>
    intro k i h1 h2 h3
    obtain ⟨k, rfl⟩ : ∃ m, k = m + 1 := ⟨k - 1, by omega⟩
    rw [runes_in.l0, if_neg (by omega), List.drop_eq_nil_of_le (by omega)]
    rfl
  | succ d ih =>
    intro k i h1 h2 h3
    obtain ⟨k, rfl⟩ : ∃ m, k = m + 1 := ⟨k - 1, by omega⟩
    have hi : i < l.length := by omega
    rw [runes_in.l0, if_pos (by omega), if_pos (by omega), if_pos (by omega)]
    have e : wrap64 ((i : Int) + 1) = ((i + 1 : Nat) : Int) := by unfold wrap64; omega
    rw [e, ih k (i + 1) (by omega) (by omega) (by omega)]
    have er : rd_T154 l (i : Int) = l[i] := by simp [rd_T154, List.getD, List.getElem?_eq_getElem hi]
    rw [List.drop_eq_getElem_cons hi, List.any_cons, er]
    by_cases c1 : a ≥ l[i].f0
    · by_cases c2 : a ≤ l[i].f1
      · rw [if_pos c1, if_pos c2]; simp [show l[i].f0 ≤ a from c1, c2]
      · rw [if_pos c1, if_neg c2]; simp [c2]
    · rw [if_neg c1]; simp [show ¬ l[i].f0 ≤ a from c1]
theorem in_f (a : Int) (l : List S154) (hl : l.length < 1000) (k : Nat) (hk : l.length < k) : runes_in.f k a l = some (l.any fun s => decide (s.f0 ≤ a) && decide (a ≤ s.f1)) := by
  unfold runes_in.f
  have := in_loop a l hl l.length k 0 (by omega) hk (by omega)
  simpa using this
theorem Start_f (a : Int) : R0.runes_Start.f 17 a = some (startB a) := by
  unfold R0.runes_Start.f R0.runes_starts.f
  simp only [Option.bind_some]
  rw [in_f _ _ (by decide) 17 (by decide)]
  simp only [Option.bind_some, Option.some.injEq, startB]
  rw [Bool.eq_iff_iff]
  simp only [List.any_cons, List.any_nil, Bool.or_false, Bool.or_eq_true, Bool.and_eq_true, decide_eq_true_eq]
  omega
theorem Part_f (a : Int) : R0.runes_Part.f 17 a = some (partB a) := by
  unfold R0.runes_Part.f R0.runes_parts.f
  rw [Start_f]
  simp only [Option.bind_some]
  rw [in_f _ _ (by decide) 17 (by decide)]
  unfold partB
  cases hs : startB a with
  | true => simp
  | false =>
    simp only [Bool.false_eq_true, if_false, Option.bind_some, Option.some.injEq, Bool.false_or, moreB]
    rw [Bool.eq_iff_iff]
    simp only [List.any_cons, List.any_nil, Bool.or_false, Bool.or_eq_true, Bool.and_eq_true, decide_eq_true_eq]
    omega
theorem Char_f (a : Int) : R0.runes_Char.f 17 a = some (charB a) := by
  unfold R0.runes_Char.f R0.runes_chars.f
  simp only [Option.bind_some]
  rw [in_f _ _ (by decide) 17 (by decide)]
  simp only [Option.bind_some, Option.some.injEq, charB]
  rw [Bool.eq_iff_iff]
  simp only [List.any_cons, List.any_nil, Bool.or_false, Bool.or_eq_true, Bool.and_eq_true, decide_eq_true_eq]
  omega
theorem Space_f (a : Int) : R0.runes_Space.f a = some (spaceB a) := by
  unfold R0.runes_Space.f spaceB
  by_cases h1 : a = 32 <;> by_cases h2 : a = 9 <;> by_cases h3 : a = 13 <;> by_cases h4 : a = 10 <;> simp [h1, h2, h3, h4]

def runes_Start.f (a0 : Int) : Option Bool := some (startB a0)
theorem runes_Start.calls (a0 : Int) (r : Bool) (w : World) (h : runes_Start.f a0 = some r) :
    Calls Tryz.prog 99 #[.int .i32 a0] w fun e w' => e = .returned (.bool r) ∧ Below w.heap.size w w' :=
  R0.runes_Start.calls 17 a0 r w ((Start_f a0).trans h)
def runes_Part.f (a0 : Int) : Option Bool := some (partB a0)
theorem runes_Part.calls (a0 : Int) (r : Bool) (w : World) (h : runes_Part.f a0 = some r) :
    Calls Tryz.prog 100 #[.int .i32 a0] w fun e w' => e = .returned (.bool r) ∧ Below w.heap.size w w' :=
  R0.runes_Part.calls 17 a0 r w ((Part_f a0).trans h)
def runes_Char.f (a0 : Int) : Option Bool := some (charB a0)
theorem runes_Char.calls (a0 : Int) (r : Bool) (w : World) (h : runes_Char.f a0 = some r) :
    Calls Tryz.prog 55 #[.int .i32 a0] w fun e w' => e = .returned (.bool r) ∧ Below w.heap.size w w' :=
  R0.runes_Char.calls 17 a0 r w ((Char_f a0).trans h)
def runes_Space.f (a0 : Int) : Option Bool := some (spaceB a0)
theorem runes_Space.calls (a0 : Int) (r : Bool) (w : World) (h : runes_Space.f a0 = some r) :
    Calls Tryz.prog 33 #[.int .i32 a0] w fun e w' => e = .returned (.bool r) ∧ Drawn0 w w' :=
  R0.runes_Space.calls a0 r w ((Space_f a0).trans h)

theorem ret_bool {a b : Bool} (h : a = b) : Ending.returned (.bool a) = .returned (.bool b) := by rw [h]
/-! ### Name -/
def runes_Name.f (a0 : ByteArray) : Option Bool := if a0.size < 4294967281 then some (nameB a0) else none
set_option maxRecDepth 100000 in
set_option maxHeartbeats 2000000 in
theorem name_any (s : ByteArray) (w : World) (hs : s.size ≤ 9223372036854775807) (hE : Env w) :
    Calls Tryz.prog 81 #[.string s] w fun e w' => e = .returned (.bool (nameB s)) ∧ Below w.heap.size w w' := by
  obtain ⟨ANS, hANS⟩ : ∃ b, nameB s = b := ⟨_, rfl⟩
  rw [hANS]
  have HE := Lib.hid hE
  clear hE
  have HA : Hid ((runesAll nameP s s.size 0 && (!s.toList.isEmpty && Lib.validD s.data.toList)) = ANS) := hANS
  clear hANS
  go_enter Tryz.func81, Tryz.ntmps81
  go_wp2
  go_loopw [3, 4] (fun u v wr => ∃ (pos b : Nat), wr.heap[w.heap.size]? = some (.stringIter s pos) ∧ Below w.heap.size w wr ∧ Hid ((runesAll nameP s b pos && (!s.toList.isEmpty && Lib.validD s.data.toList)) = ANS) ∧ s.size ≤ pos + b) (fun _ _ wr => s.size - wr.iterPos w.heap.size)
  case atStart => exact ⟨0, s.size, World.iter_heap w s 0, (Below.refl _ _).alloc (Nat.le_refl _) _, HA, by omega⟩
  case round =>
    obtain ⟨pos, b, hit, hbw, HS, hb⟩ := hrel
    clear HA
    have hpos0 := iterPos_of hit
    by_cases hp : pos < s.size
    · have hnx : ∀ ty, (Instr.next (.pointer (some ⟨w.heap.size, 0, none⟩)) true ty).run Tryz.prog wr = _ := fun ty => Lib.run_next_any_at wr w.heap.size s pos ty hit hp
      have hwd := width_pos s pos hp
      have hit2 := Lib.iterAt_heap wr w.heap.size s pos (pos + (Utf8.decode s pos).2) hit
      have hbw2 := Lib.below_iterAt hbw (k := w.heap.size) (Nat.le_refl _) s (pos + (Utf8.decode s pos).2)
      obtain ⟨e1, g1⟩ := runesAll_step nameP s b pos hb hp
      obtain ⟨W1, hW1⟩ : ∃ W1, W1 = wr.iterAt w.heap.size s (pos + (Utf8.decode s pos).2) := ⟨_, rfl⟩
      rw [← hW1] at hnx hit2 hbw2
      obtain ⟨c1, hc1⟩ : ∃ c, startB ((Utf8.decode s pos).1 : Int) = c := ⟨_, rfl⟩
      obtain ⟨c2, hc2⟩ : ∃ c, partB ((Utf8.decode s pos).1 : Int) = c := ⟨_, rfl⟩
      have HS2 : Hid (((!((decide (pos = 0) && !c1) || !c2)) && runesAll nameP s (b - 1) (pos + (Utf8.decode s pos).2) && (!s.toList.isEmpty && Lib.validD s.data.toList)) = ANS) := by rw [← HS.out, e1, ← hc1, ← hc2]; rfl
      have cS : ∀ W, Calls Tryz.prog 99 #[.int .i32 ((Utf8.decode s pos).1 : Int)] W fun e w' => e = .returned (.bool c1) ∧ Below W.heap.size W w' := fun W => runes_Start.calls _ _ W (by rw [← hc1]; rfl)
      have cP : ∀ W, Calls Tryz.prog 100 #[.int .i32 ((Utf8.decode s pos).1 : Int)] W fun e w' => e = .returned (.bool c2) ∧ Below W.heap.size W w' := fun W => runes_Part.calls _ _ W (by rw [← hc2]; rfl)
      have hBlt := lt_of_block hit2
      clear hW1 hit hbw e1 hc1 hc2 HS
      by_cases hz : pos = 0
      · have hz1 : ((pos : Int) == 0) = true := by simp [hz]
        have HZ := Lib.hid hz
        clear hz
        cases c1 with
        | false =>
          go_wp2_with (go_at_call 99; refine (cS _).mono ?_; rintro e W2 ⟨rfl, hb2⟩)
          go_ret
          exact ⟨ret_bool (by have := HS2.out; simpa [HZ.out] using this), hbw2.trans (hb2.mono (by omega))⟩
        | true =>
          cases c2 with
          | false =>
            go_wp2_with (first | (go_at_call 99; refine (cS _).mono ?_; rintro e W2 ⟨rfl, hb2⟩) | (go_at_call 100; refine (cP _).mono ?_; rintro e W3 ⟨rfl, hb3⟩))
            go_ret
            exact ⟨ret_bool (by have := HS2.out; simpa [HZ.out] using this), (hbw2.trans (hb2.mono (by omega))).trans (hb3.mono (Nat.le_trans (by omega) hb2.size))⟩
          | true =>
            go_wp2_with (first | (go_at_call 99; refine (cS _).mono ?_; rintro e W2 ⟨rfl, hb2⟩) | (go_at_call 100; refine (cP _).mono ?_; rintro e W3 ⟨rfl, hb3⟩))
            have hb4 := (hb2.trans (hb3.mono hb2.size))
            have hit4 : W3.heap[w.heap.size]? = _ := (hb4.block _ hBlt).trans hit2
            go_roundw
            case rel => exact ⟨_, b - 1, hit4, hbw2.trans (hb4.mono (by omega)), (show _ = ANS by have := HS2.out; simpa using this), g1⟩
            case measure =>
              rw [iterPos_of hit4, hpos0]
              omega
      · have hz1 : ((pos : Int) == 0) = false := by simpa using hz
        have HZ := Lib.hid hz
        clear hz
        cases c2 with
        | false =>
          go_wp2_with (first | (go_at_call 100; refine (cP _).mono ?_; rintro e W3 ⟨rfl, hb3⟩))
          go_ret
          exact ⟨ret_bool (by have := HS2.out; simpa [HZ.out] using this), hbw2.trans (hb3.mono (by omega))⟩
        | true =>
          go_wp2_with (first | (go_at_call 100; refine (cP _).mono ?_; rintro e W3 ⟨rfl, hb3⟩))
          have hit4 : W3.heap[w.heap.size]? = _ := (hb3.block _ hBlt).trans hit2
          go_roundw
          case rel => exact ⟨_, b - 1, hit4, hbw2.trans (hb3.mono (by omega)), (show _ = ANS by have := HS2.out; simpa [HZ.out] using this), g1⟩
          case measure =>
            rw [iterPos_of hit4, hpos0]
            omega
    · have hnx : ∀ ty, (Instr.next (.pointer (some ⟨w.heap.size, 0, none⟩)) true ty).run Tryz.prog wr = _ := fun ty => Lib.run_next_end_at wr w.heap.size s pos ty hit hp
      have HR : Hid ((!s.toList.isEmpty && Lib.validD s.data.toList) = ANS) := by have := HS.out; rw [runesAll_end _ _ _ _ hp] at this; exact this
      clear HS
      obtain ⟨v, hv⟩ : ∃ v, Lib.validD s.data.toList = v := ⟨_, rfl⟩
      have cV : ∀ W, Env W → Calls Tryz.prog 101 #[.string s] W fun e w' => e = .returned (.bool v) ∧ Below W.heap.size W w' := fun W h => hv ▸ Tryz.utf8_ValidString s W hs h.2
      have HV := Lib.hid hv
      have HEr := Lib.hid (Env.below HE.out hbw)
      clear hv
      by_cases he : s.toList = []
      · have he2 : (!s.toList.isEmpty) = false := by simp [he]
        have he3 : (s.toList != []) = false := by simp [he]
        clear he
        go_wp2
        go_ret
        exact ⟨ret_bool (by have := HR.out; rw [he2] at this; simpa using this), hbw⟩
      · have he2 : (!s.toList.isEmpty) = true := by simp [he]
        have he3 : (s.toList != []) = true := by simp [he]
        clear he
        go_wp2_with (go_at_call 101; refine (cV _ HEr.out).mono ?_; rintro e W2 ⟨rfl, hb2⟩)
        go_ret
        exact ⟨ret_bool (by have := HR.out; rw [he2, HV.out] at this; simpa using this), hbw.trans (hb2.mono hbw.size)⟩
theorem runes_Name.calls (a0 : ByteArray) (r : Bool) (w : World) (hE : Env w) (h : runes_Name.f a0 = some r) :
    Calls Tryz.prog 81 #[.string a0] w fun e w' => e = .returned (.bool r) ∧ Below w.heap.size w w' := by
  unfold runes_Name.f at h
  by_cases hs : a0.size < 4294967281
  · rw [if_pos hs] at h
    obtain rfl := Option.some.inj h
    exact name_any a0 w (by omega) hE
  · rw [if_neg hs] at h
    cases h

/-! ### the library's -/
def str (l : List UInt8) : ByteArray := ⟨l.toArray⟩
def strings_Cut.f (a0 a1 : ByteArray) : Option (ByteArray × ByteArray × Bool) :=
  if a0.size < 4294967281 then some (str (Lib.cut a0.data.toList a1.data.toList).1, str (Lib.cut a0.data.toList a1.data.toList).2.1, (Lib.cut a0.data.toList a1.data.toList).2.2) else none
theorem strings_Cut.calls (a0 a1 : ByteArray) (r1 r2 : ByteArray) (r3 : Bool) (w : World) (hE : Env w) (h : strings_Cut.f a0 a1 = some (r1, r2, r3)) :
    Calls Tryz.prog 35 #[.string a0, .string a1] w fun e w' => e = .returned (.tuple #[.string r1, .string r2, .bool r3]) ∧ Below w.heap.size w w' := by
  unfold strings_Cut.f at h
  by_cases hs : a0.size < 4294967281
  · rw [if_pos hs] at h
    simp only [Option.some.injEq, Prod.mk.injEq] at h
    obtain ⟨rfl, rfl, rfl⟩ := h
    obtain ⟨⟨m, hm⟩, -⟩ := hE
    refine (Tryz.strings_Cut a0 a1 m w hs hm).mono ?_
    rintro e w' ⟨rfl, n, rfl⟩
    exact ⟨rfl, rfl, rfl, rfl, Nat.le_refl _, fun _ _ => rfl⟩
  · rw [if_neg hs] at h
    cases h
def strings_Contains.f (a0 a1 : ByteArray) : Option Bool := if a0.size < 4294967281 then some (Lib.contains a0.data.toList a1.data.toList) else none
theorem strings_Contains.calls (a0 a1 : ByteArray) (r : Bool) (w : World) (hE : Env w) (h : strings_Contains.f a0 a1 = some r) :
    Calls Tryz.prog 82 #[.string a0, .string a1] w fun e w' => e = .returned (.bool r) ∧ Below w.heap.size w w' := by
  unfold strings_Contains.f at h
  by_cases hs : a0.size < 4294967281
  · rw [if_pos hs] at h
    obtain rfl := Option.some.inj h
    obtain ⟨⟨m, hm⟩, -⟩ := hE
    refine (Tryz.strings_Contains a0 a1 m w hs hm).mono ?_
    rintro e w' ⟨rfl, rfl⟩
    exact ⟨rfl, Below.refl _ _⟩
  · rw [if_neg hs] at h
    cases h
theorem in_c (a b c : Int) : R0.brackenref1_in.f a b c = some (decide (b ≤ a ∧ a ≤ c)) := by
  unfold R0.brackenref1_in.f
  by_cases h : a ≥ b
  · rw [if_pos h]; simp [show b ≤ a from h]
  · rw [if_neg h]; simp [show ¬ b ≤ a from h]
theorem ite_p {p : Prop} {i : Decidable p} (d : Bool) : (@ite _ p i (some true) (some d)) = some (decide p || d) := by
  by_cases h : p <;> simp [h]
theorem CharR_f (a : Int) : R0.brackenref1_Char.f a = some (charB a) := by
  unfold R0.brackenref1_Char.f charB
  simp only [in_c, Option.bind_some, ite_p]
  congr 1
  rw [Bool.eq_iff_iff]
  simp only [Bool.or_eq_true, decide_eq_true_eq]
  omega
def brackenref1_Char.f (a0 : Int) : Option Bool := some (charB a0)
theorem brackenref1_Char.calls (a0 : Int) (r : Bool) (w : World) (h : brackenref1_Char.f a0 = some r) :
    Calls Tryz.prog 26 #[.int .i32 a0] w fun e w' => e = .returned (.bool r) ∧ Drawn0 w w' := R0.brackenref1_Char.calls a0 r w ((CharR_f a0).trans h)
def strings_HasPrefix.f (a0 a1 : ByteArray) : Option Bool := some (Lib.hasPrefix a0.data.toList a1.data.toList)
theorem strings_HasPrefix.calls (a0 a1 : ByteArray) (r : Bool) (w : World) (h : strings_HasPrefix.f a0 a1 = some r) :
    Calls Tryz.prog 124 #[.string a0, .string a1] w fun e w' => e = .returned (.bool r) ∧ Below w.heap.size w w' := by
  obtain rfl := Option.some.inj h
  refine (Tryz.strings_HasPrefix a0 a1 w).mono ?_
  rintro e w' ⟨rfl, rfl⟩
  exact ⟨rfl, Below.refl _ _⟩

end Go.Proofs.YtmjdjpelhhibgaaGreatDoor.Giv
