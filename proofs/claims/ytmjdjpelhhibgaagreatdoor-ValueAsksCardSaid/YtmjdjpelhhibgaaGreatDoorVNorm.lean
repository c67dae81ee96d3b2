/- A value without needless blanks: the pieces between blanks, one blank between each two; plain, over bytes; and the program's function of that name. -/
import Derived.Test.YtmjdjpelhhibgaaGreatDoorVTxt3
import Derived.Test.YtmjdjpelhhibgaaGreatDoorShelf4
import Derived.Lib.FieldsP
import Derived.Lib.Join
namespace Go.Proofs.YtmjdjpelhhibgaaGreatDoor.Val
open Go Go.RowKit Go.Proofs.YtmjdjpelhhibgaaGreatDoor.Rf Go.Proofs.YtmjdjpelhhibgaaGreatDoor.Spec Go.Proofs.YtmjdjpelhhibgaaGreatDoor.Giv
set_option linter.unusedVariables false
set_option linter.unusedSimpArgs false
/-- The pieces between blanks. -/
def fl (cur : List UInt8) : List UInt8 → List (List UInt8)
  | [] => if cur = [] then [] else [cur]
  | c :: t => if c = 32 then (if cur = [] then fl [] t else cur :: fl [] t) else fl (cur ++ [c]) t
def normB (l : List UInt8) : List UInt8 := Lib.join (fl [] l) [32]
theorem fl_plain : ∀ (p : List UInt8) (cur t : List UInt8), (∀ c ∈ p, c ≠ 32) → fl cur (p ++ t) = fl (cur ++ p) t
  | [], cur, t, _ => by simp
  | c :: p, cur, t, h => by
    rw [List.cons_append, fl, if_neg (h c (by simp)), fl_plain p (cur ++ [c]) t (fun x hx => h x (by simp [hx]))]
    simp
def sp32 (x : Nat) : Bool := decide (x = 32)
/-- The bytes of a character that is no blank. -/
theorem no32 (s : ByteArray) (i : Nat) (hi : i < s.size) (h : (s[i]'hi).toNat ≠ 32) : ∀ c ∈ (s.extract i (i + (Utf8.decode s i).2)).data.toList, c ≠ 32 := by
  intro c hc
  obtain ⟨j, hj, rfl⟩ := List.getElem_of_mem hc
  have hsz : (s.extract i (i + (Utf8.decode s i).2)).data.toList.length = (Utf8.decode s i).2 := by
    have := width_le s i hi
    show (s.extract i (i + (Utf8.decode s i).2)).size = _
    simp; omega
  rw [hsz] at hj
  by_cases ha : (s[i]'hi).toNat < 128
  · rw [dec_one s i hi ha] at hj
    obtain rfl : j = 0 := by omega
    have e : (s.extract i (i + (Utf8.decode s i).2)).data.toList[0]'(by omega) = s[i]'hi := by simp [ByteArray.getElem_eq_getElem_data]
    rw [e]
    intro h2
    rw [h2] at h
    exact h rfl
  · obtain ⟨hk, hb⟩ := hi_bytes s i hi (by omega) j hj
    have e : (s.extract i (i + (Utf8.decode s i).2)).data.toList[j]'(by omega) = s[i + j]'hk := by simp [ByteArray.getElem_eq_getElem_data]
    rw [e]
    intro h2
    rw [h2] at hb
    exact absurd hb (by decide)
theorem spans_fl (s : ByteArray) : ∀ (f pos : Nat) (st : Option Nat) (acc : List (Nat × Nat)), s.size ≤ pos + f → pos ≤ s.size → (∀ a, st = some a → a < pos) →
    ((Lib.closeSpans s (Lib.spansFromP sp32 s f pos st acc)).map fun x => (s.extract x.1 x.2).data.toList) = (acc.map fun x => (s.extract x.1 x.2).data.toList) ++ fl (match st with | some a => (s.extract a pos).data.toList | none => []) (s.data.toList.drop pos) := by
  have hne : ∀ a p, a < p → p ≤ s.size → (s.extract a p).data.toList ≠ [] := by
    intro a p h1 h2 h0
    have := congrArg List.length h0
    have e : (s.extract a p).data.toList.length = (s.extract a p).size := rfl
    rw [e] at this
    simp at this
    omega
  have hlen : s.data.toList.length = s.size := rfl
  have hend : ∀ (pos : Nat) (st : Option Nat) (acc : List (Nat × Nat)), pos = s.size → (∀ a, st = some a → a < pos) →
      ((Lib.closeSpans s (acc, st)).map fun x => (s.extract x.1 x.2).data.toList) = (acc.map fun x => (s.extract x.1 x.2).data.toList) ++ fl (match st with | some a => (s.extract a pos).data.toList | none => []) (s.data.toList.drop pos) := by
    intro pos st acc hp hst
    subst hp
    rw [List.drop_eq_nil_of_le (by omega)]
    cases st with
    | none => simp [Lib.closeSpans, fl]
    | some a => simp only [Lib.closeSpans, fl, if_neg (hne a s.size (hst a rfl) (Nat.le_refl _)), List.map_append]; rfl
  intro f
  induction f with
  | zero =>
    intro pos st acc h hp hst
    exact hend pos st acc (by omega) hst
  | succ f ih =>
    intro pos st acc h hp hst
    by_cases hlt : pos < s.size
    · have hw := width_pos s pos hlt
      have hwl := width_le s pos hlt
      have h32 := dec_sign s pos hlt 32 (by omega)
      unfold Lib.spansFromP
      rw [if_pos hlt]
      by_cases hb : (s[pos]'hlt).toNat = 32
      · have hp1 : sp32 (Utf8.decode s pos).1 = true := by unfold sp32; rw [decide_eq_true_eq]; exact h32.2 hb
        have hd1 := dec_one s pos hlt (by omega)
        have hc : s[pos]'hlt = 32 := by apply UInt8.toNat_inj.1; rw [hb]; rfl
        rw [hp1, if_pos rfl, hd1, drop_at s pos hlt, hc]
        cases st with
        | none =>
          rw [ih (pos + 1) none acc (by omega) (by omega) (fun a h => by cases h)]
          simp [fl]
        | some a =>
          rw [ih (pos + 1) none _ (by omega) (by omega) (fun a h => by cases h)]
          have hn := hne a pos (hst a rfl) (by omega)
          rw [fl, if_pos rfl, if_neg hn, List.map_append, List.append_assoc]
          rfl
      · have hp1 : sp32 (Utf8.decode s pos).1 = false := by unfold sp32; rw [decide_eq_false_iff_not]; exact fun e => hb (h32.1 e)
        rw [hp1, if_neg (by decide), split_drop s pos (pos + (Utf8.decode s pos).2) (by omega)]
        have hno := no32 s pos hlt hb
        cases st with
        | none =>
          rw [ih _ (some pos) acc (by omega) hwl (fun a h => by obtain rfl := Option.some.inj h; omega)]
          rw [fl_plain _ _ _ hno]
          rfl
        | some a =>
          have hap := hst a rfl
          rw [ih _ (some a) acc (by omega) hwl (fun a' h => by obtain rfl := Option.some.inj h; omega)]
          rw [fl_plain _ _ _ hno]
          have e : (s.extract a pos).data.toList ++ (s.extract pos (pos + (Utf8.decode s pos).2)).data.toList = (s.extract a (pos + (Utf8.decode s pos).2)).data.toList := by
            have h1 := split_drop s a pos (by omega)
            have h2 := split_drop s a (pos + (Utf8.decode s pos).2) (by omega)
            have h3 := split_drop s pos (pos + (Utf8.decode s pos).2) (by omega)
            rw [h3, ← List.append_assoc] at h1
            rw [h1] at h2
            exact List.append_cancel_right h2
          simp only
          rw [e]
    · rw [Lib.spansFromP_end _ _ _ _ _ _ hlt]
      exact hend pos st acc (by omega) hst
theorem goFields_fl (s : ByteArray) : (Lib.goFieldsP sp32 s).map (·.data.toList) = fl [] s.data.toList := by
  have := spans_fl s s.size 0 none [] (by omega) (by omega) (fun a h => by cases h)
  unfold Lib.goFieldsP Lib.spansOfP
  rw [List.map_map]
  simp only [List.map_nil, List.nil_append, List.drop_zero] at this
  exact this
/-- A value's pieces, put together, are no longer than it. -/
theorem joinT_len : ∀ (xs : List (List UInt8)), (Lib.joinTail [32] xs).length = (xs.map fun x => x.length + 1).sum
  | [] => rfl
  | x :: xs => by
    have ih := joinT_len xs
    unfold Lib.joinTail at ih ⊢
    simp only [List.map_cons, List.flatten_cons, List.length_append, List.sum_cons, List.length_cons, List.length_nil] at ih ⊢
    omega
theorem fl_len : ∀ (l cur : List UInt8), ((fl cur l).map fun x => x.length + 1).sum ≤ cur.length + l.length + 1
  | [], cur => by
    unfold fl
    split <;> simp
  | c :: t, cur => by
    unfold fl
    split
    · split
      · have := fl_len t []
        simp at this ⊢; omega
      · have := fl_len t []
        simp at this ⊢; omega
    · have := fl_len t (cur ++ [c])
      simp at this ⊢; omega
theorem normB_len (l : List UInt8) : (normB l).length ≤ l.length := by
  have h := fl_len l []
  unfold normB
  cases hf : fl [] l with
  | nil => simp [Lib.join_nil]
  | cons x xs =>
    rw [hf] at h
    rw [Lib.join_cons, List.length_append, joinT_len]
    simp at h
    omega
theorem sumLen (xs : List (List UInt8)) : xs.length ≤ (xs.map fun x => x.length + 1).sum := by
  induction xs with
  | nil => simp
  | cons x xs ih => simp; omega
/-! ### the program's -/
theorem blank_gives (w : World) : PredAtRunes Tryz.prog 31 #[] sp32 w := by
  intro W x hx hb
  show Calls Tryz.prog 31 #[.int .i32 (x : Int)] W _
  have e : ((x : Int) == 32) = sp32 x := by unfold sp32; rw [Bool.eq_iff_iff]; simp; omega
  obtain ⟨b, hb2⟩ : ∃ b, sp32 x = b := ⟨_, rfl⟩
  rw [hb2] at e ⊢
  go_enter Tryz.func31, Tryz.ntmps31
  go_wp2
  go_ret
  exact ⟨rfl, 0, rfl⟩
set_option maxRecDepth 100000 in
set_option maxHeartbeats 1000000 in
theorem norm_any (s : ByteArray) (w : World) (hs : s.size < 4294967281) :
    Calls Tryz.prog 15 #[.string s] w fun e w' => e = .returned (.string ⟨(normB s.data.toList).toArray⟩) ∧ Below w.heap.size w w' := by
  have eg : ∀ (args : Array Value) (w : World), (callFunc 31 args).run Tryz.prog w = .ok (.enter 31 args) w := fun args w => enters_of Tryz.func31 (by kernel_rfl) rfl args w
  have cF := Tryz.strings_FieldsFunc_runes 31 #[] eg sp32 s w (by omega) (blank_gives w)
  have hfl := goFields_fl s
  have hN : normB s.data.toList = Lib.join ((Lib.goFieldsP sp32 s).map (·.data.toList)) [32] := by rw [hfl]; rfl
  have hl1 : (Lib.goFieldsP sp32 s).length ≤ s.size + 1 := by
    have h1 := fl_len s.data.toList []
    have h2 := sumLen (fl [] s.data.toList)
    have h3 : (Lib.goFieldsP sp32 s).length = (fl [] s.data.toList).length := by rw [← hfl, List.length_map]
    have h4 : s.data.toList.length = s.size := rfl
    simp at h1
    omega
  have hl2 := normB_len s.data.toList
  rw [hN] at hl2 ⊢
  have h4 : s.data.toList.length = s.size := rfl
  rw [h4] at hl2
  generalize Lib.goFieldsP sp32 s = X at *
  have cJ : ∀ (W : World) (A : Nat) (B : Nat), W.ownsRow B 9 1 (.slice (some ⟨A, 0, none⟩) X.length X.length) X.length (X.map Value.string) →
      Calls Tryz.prog 29 #[.slice (some ⟨A, 0, none⟩) X.length X.length, .string ⟨#[32]⟩] W fun e w' => e = .returned (.string ⟨(Lib.join (X.map (·.data.toList)) [32]).toArray⟩) ∧ Below W.heap.size W w' := fun W A B hown => by
    have hA : A < W.heap.size := (hown.lt A rfl).2
    refine Tryz.strings_Join A 0 X.length X ⟨#[32]⟩ W ?_ hA (by omega) (Nat.le_refl _) (by show (Lib.join (X.map (·.data.toList)) [32]).length ≤ _; omega)
    intro j x hj
    have := hown.cells (g := A) rfl j (.string x) (by simp [hj])
    by_cases hj0 : j = 0
    · subst hj0; simpa [Addr.add] using this
    · simpa [Addr.add, hj0] using this
  clear hfl hN hl2 h4 eg
  go_enter Tryz.func15, Tryz.ntmps15
  go_wp2_with (first | (go_at_call 30; refine cF.mono ?_; rintro e w1 ⟨A, rfl, hA, hown, hb1⟩) | (go_at_call 29; refine (cJ _ A _ hown).mono ?_; rintro e w2 ⟨rfl, hb2⟩))
  go_ret
  exact ⟨rfl, hb1.trans (hb2.mono hb1.size)⟩
end Go.Proofs.YtmjdjpelhhibgaaGreatDoor.Val
