/- Names as the reference reads them: from place to place, by whole characters. Plain facts on bytes; no program here. -/
import Derived.Test.YtmjdjpelhhibgaaGreatDoorSpec
namespace Go.Proofs.YtmjdjpelhhibgaaGreatDoor.Spec
open Go

def goAll (q : Nat → Bool) (s : ByteArray) : Nat → Nat → Bool
  | 0, _ => true
  | b + 1, pos => if pos < s.size then q pos && goAll q s b (pos + (Utf8.decode s pos).2) else true
theorem goAll_end (q : Nat → Bool) (s : ByteArray) (b pos : Nat) (h : ¬ pos < s.size) : goAll q s b pos = true := by
  cases b with
  | zero => rfl
  | succ b => simp [goAll, h]
theorem goAll_succ (q : Nat → Bool) (s : ByteArray) (b pos : Nat) (h : pos < s.size) : goAll q s (b + 1) pos = (q pos && goAll q s b (pos + (Utf8.decode s pos).2)) := by
  simp [goAll, h]
theorem runesAll_go (p : Nat → Int → Bool) (s : ByteArray) : ∀ (b pos : Nat), runesAll p s b pos = goAll (fun i => p i (Utf8.decode s i).1) s b pos
  | 0, _ => rfl
  | b + 1, pos => by simp only [runesAll, goAll, runesAll_go p s b]
theorem goAll_and (q r : Nat → Bool) (s : ByteArray) : ∀ (b pos : Nat), (goAll q s b pos && goAll r s b pos) = goAll (fun i => q i && r i) s b pos
  | 0, _ => rfl
  | b + 1, pos => by
    simp only [goAll]
    split
    · rw [← goAll_and q r s b]
      cases q pos <;> cases r pos <;> simp
    · rfl
theorem goAll_congr {q r : Nat → Bool} (s : ByteArray) (h : ∀ i, i < s.size → q i = r i) : ∀ (b pos : Nat), goAll q s b pos = goAll r s b pos
  | 0, _ => rfl
  | b + 1, pos => by
    simp only [goAll]
    split
    · rename_i hp; rw [h pos hp, goAll_congr s h b]
    · rfl

/-- Are the bytes at a place a character? -/
def okAt (s : ByteArray) (i : Nat) : Bool := !(decide ((Utf8.decode s i).1 = 65533) && decide ((Utf8.decode s i).2 = 1))
theorem valid_go (s : ByteArray) : ∀ (n pos : Nat), Lib.validGoD n (s.data.toList.drop pos) = goAll (okAt s) s n pos
  | 0, _ => rfl
  | n + 1, pos => by
    have hl : (s.data.toList.drop pos = []) ↔ ¬ pos < s.size := by
      rw [List.drop_eq_nil_iff]
      have : s.data.toList.length = s.size := rfl
      omega
    simp only [Lib.validGoD, goAll, Lib.decodeL_drop, List.drop_drop]
    by_cases hp : pos < s.size
    · rw [if_neg (fun h => (hl.1 h) hp), if_pos hp]
      by_cases hd : (Utf8.decode s pos).1 = 65533 ∧ (Utf8.decode s pos).2 = 1
      · rw [if_pos hd]; simp [okAt, hd.1, hd.2]
      · rw [if_neg hd, valid_go s n]
        have : okAt s pos = true := by
          unfold okAt
          by_cases h1 : (Utf8.decode s pos).1 = 65533
          · have h2 : ¬ (Utf8.decode s pos).2 = 1 := fun h => hd ⟨h1, h⟩
            simp [h2]
          · simp [h1]
        rw [this, Bool.true_and]
    · rw [if_pos (hl.2 hp), if_neg hp]
theorem validD_go (s : ByteArray) : Lib.validD s.data.toList = goAll (okAt s) s s.size 0 := by
  unfold Lib.validD
  have := valid_go s s.data.toList.length 0
  rw [List.drop_zero] at this
  rw [this]
  rfl

def nameQ (s : ByteArray) (i : Nat) : Bool := okAt s i && (partB (Utf8.decode s i).1 && (!decide (i = 0) || startB (Utf8.decode s i).1))
theorem nameB_go (s : ByteArray) : nameB s = (!s.toList.isEmpty && goAll (nameQ s) s s.size 0) := by
  unfold nameB
  rw [validD_go, runesAll_go]
  cases he : s.toList.isEmpty with
  | true => simp
  | false =>
    simp only [Bool.not_false, Bool.true_and]
    rw [goAll_and]
    refine goAll_congr s (fun i hi => ?_) _ _
    simp only [nameP, nameQ]
    cases okAt s i <;> cases partB (Utf8.decode s i).1 <;> cases startB (Utf8.decode s i).1 <;> by_cases h : i = 0 <;> simp [h]

theorem width_le (s : ByteArray) (i : Nat) (hi : i < s.size) : i + (Utf8.decode s i).2 ≤ s.size := by
  have h := Lib.decodeL_le (s.data.toList.drop i) (by
    intro h0
    rw [List.drop_eq_nil_iff] at h0
    have : s.data.toList.length = s.size := rfl
    omega)
  rw [Lib.decodeL_drop, List.length_drop] at h
  have : s.data.toList.length = s.size := rfl
  omega

/-- What the reference makes of a place: a character and its width; nothing. -/
def oneR (s : ByteArray) (i : Nat) : Int × Int := if okAt s i then (((Utf8.decode s i).1 : Int), ((Utf8.decode s i).2 : Int)) else (0, 0)

/-! ### texts -/
def ncB (s : ByteArray) : Bool := nameB s && !(s.data.toList.contains 58)
def colon (s : ByteArray) : Option Nat := s.data.toList.findIdx? (· == 58)
def splitB (s : ByteArray) : ByteArray × ByteArray × Bool :=
  match colon s with
  | some i => if ncB (s.extract 0 i) && ncB (s.extract (i + 1) s.size) then (s.extract 0 i, s.extract (i + 1) s.size, true) else (⟨#[]⟩, ⟨#[]⟩, false)
  | none => if ncB s then (⟨#[]⟩, s, true) else (⟨#[]⟩, ⟨#[]⟩, false)

/-- Blank: each byte is a space. -/
theorem blank_byte (s : ByteArray) (i : Nat) (hi : i < s.size) : spaceB ((Utf8.decode s i).1 : Int) = spaceB ((s[i]'hi).toNat : Int) := by
  by_cases ha : (s[i]'hi).toNat < 128
  · rw [decode_ascii s i hi ha]
  · have := decode_high s i hi (by omega)
    have h1 : spaceB ((Utf8.decode s i).1 : Int) = false := by unfold spaceB; rw [decide_eq_false]; omega
    have h2 : spaceB ((s[i]'hi).toNat : Int) = false := by unfold spaceB; rw [decide_eq_false]; omega
    rw [h1, h2]
theorem space_wide (s : ByteArray) (i : Nat) (hi : i < s.size) (h : spaceB ((s[i]'hi).toNat : Int) = true) : (Utf8.decode s i).2 = 1 := by
  by_cases ha : (s[i]'hi).toNat < 128
  · rw [decode_ascii s i hi ha]
  · exfalso
    unfold spaceB at h
    rw [decide_eq_true_eq] at h
    omega
def blankFrom (s : ByteArray) (i : Nat) : Bool := (s.data.toList.drop i).all fun c => spaceB (c.toNat : Int)
theorem blankFrom_step (s : ByteArray) (i : Nat) (hi : i < s.size) : blankFrom s i = (spaceB ((s[i]'hi).toNat : Int) && blankFrom s (i + 1)) := by
  unfold blankFrom
  have hl : i < s.data.toList.length := hi
  rw [List.drop_eq_getElem_cons hl, List.all_cons]
  rfl
theorem blankFrom_end (s : ByteArray) (i : Nat) (hi : ¬ i < s.size) : blankFrom s i = true := by
  unfold blankFrom
  rw [List.drop_eq_nil_of_le (Nat.le_of_not_lt hi)]
  rfl
theorem runesAll_blank (s : ByteArray) : ∀ (b pos : Nat), s.size ≤ pos + b → runesAll (fun _ r => spaceB r) s b pos = blankFrom s pos
  | 0, pos, h => by rw [blankFrom_end s pos (by omega)]; rfl
  | b + 1, pos, h => by
    by_cases hp : pos < s.size
    · simp only [runesAll, if_pos hp]
      rw [blank_byte s pos hp, blankFrom_step s pos hp]
      cases hs : spaceB ((s[pos]'hp).toNat : Int) with
      | false => simp
      | true => rw [space_wide s pos hp hs, runesAll_blank s b (pos + 1) (by omega)]
    · rw [blankFrom_end s pos hp, runesAll_end _ _ _ _ hp]
theorem blankB_bytes (s : ByteArray) : blankB s = s.data.toList.all fun c => spaceB (c.toNat : Int) := by
  unfold blankB
  rw [runesAll_blank s s.size 0 (by omega)]
  rfl

end Go.Proofs.YtmjdjpelhhibgaaGreatDoor.Spec
