/- Pieces of content: what white characters, words, references come to: plain functions over bytes. No program here. -/
import Derived.Test.YtmjdjpelhhibgaaGreatDoorSpec3
namespace Go.Proofs.YtmjdjpelhhibgaaGreatDoor.Spec
open Go
set_option linter.unusedVariables false
def spaceLen (l : List UInt8) : Nat := (l.takeWhile fun c => spaceB (c.toNat : Int)).length
theorem drop_cons (t : ByteArray) (i : Nat) (hi : i < t.size) : t.data.toList.drop i = t[i]'hi :: t.data.toList.drop (i + 1) := by
  rw [List.drop_eq_getElem_cons (by simpa using hi)]; rfl
theorem spaceLen_step (t : ByteArray) (i : Nat) (hi : i < t.size) (c : Bool) (hc : spaceB ((Utf8.decode t i).1 : Int) = c) :
    spaceLen (t.data.toList.drop i) = if c = true then spaceLen (t.data.toList.drop (i + (Utf8.decode t i).2)) + 1 else 0 := by
  rw [blank_byte t i hi] at hc
  rw [drop_cons t i hi]
  unfold spaceLen
  cases c with
  | true => rw [List.takeWhile_cons, hc, if_pos rfl, if_pos rfl, space_wide t i hi hc]; rfl
  | false => rw [List.takeWhile_cons, hc, if_neg (by decide), if_neg (by decide)]; rfl
theorem spaceLen_wide (t : ByteArray) (i : Nat) (hi : i < t.size) (hc : spaceB ((Utf8.decode t i).1 : Int) = true) : (Utf8.decode t i).2 = 1 := by
  rw [blank_byte t i hi] at hc
  exact space_wide t i hi hc
theorem spaceLen_le (l : List UInt8) : spaceLen l ≤ l.length := by unfold spaceLen; exact (List.takeWhile_sublist _).length_le
theorem spaceLen_end (t : ByteArray) (i : Nat) (hi : ¬ i < t.size) : spaceLen (t.data.toList.drop i) = 0 := by
  rw [List.drop_eq_nil_of_le (by simp; omega)]; rfl
/-- Where characters that names may have end. -/
def wordFrom (t : ByteArray) : Nat → Nat → Nat
  | 0, pos => pos
  | b + 1, pos => if pos < t.size then (if (okAt t pos && partB ((Utf8.decode t pos).1 : Int)) = true then wordFrom t b (pos + (Utf8.decode t pos).2) else pos) else pos
def wordLen (t : ByteArray) : Nat := wordFrom t t.size 0
theorem wordFrom_step (t : ByteArray) (b pos : Nat) (hb : t.size ≤ pos + b) (h : pos < t.size) (c : Bool) (hc : (okAt t pos && partB ((Utf8.decode t pos).1 : Int)) = c) :
    wordFrom t b pos = (if c = true then wordFrom t (b - 1) (pos + (Utf8.decode t pos).2) else pos) ∧ t.size ≤ pos + (Utf8.decode t pos).2 + (b - 1) := by
  have hw := width_pos t pos h
  cases b with
  | zero => omega
  | succ b => subst hc; exact ⟨by simp [wordFrom, h], by omega⟩
theorem wordFrom_end (t : ByteArray) (b pos : Nat) (h : ¬ pos < t.size) : wordFrom t b pos = pos := by
  cases b with
  | zero => rfl
  | succ b => simp [wordFrom, h]
theorem wordFrom_le (t : ByteArray) : ∀ (b pos : Nat), pos ≤ t.size → wordFrom t b pos ≤ t.size
  | 0, pos, h => h
  | b + 1, pos, h => by
    unfold wordFrom
    split
    · rename_i hp
      split
      · exact wordFrom_le t b _ (width_le t pos hp)
      · exact h
    · exact h
/-! ### references to characters -/
def digitV (c : Int) : Int := if 48 ≤ c ∧ c ≤ 57 then c - 48 else if 97 ≤ c ∧ c ≤ 102 then c - 87 else if 65 ≤ c ∧ c ≤ 70 then c - 55 else -1
def crAll (base : Int) (t : ByteArray) : Nat → Nat → Int → Option Int
  | 0, _, r => some r
  | b + 1, pos, r => if pos < t.size then (if digitV (Utf8.decode t pos).1 < 0 ∨ base ≤ digitV (Utf8.decode t pos).1 then none else crAll base t b (pos + (Utf8.decode t pos).2) (min (r * base + digitV (Utf8.decode t pos).1) 1114112)) else some r
theorem crAll_step (base : Int) (t : ByteArray) (b pos : Nat) (r : Int) (hb : t.size ≤ pos + b) (h : pos < t.size) :
    crAll base t b pos r = (if digitV (Utf8.decode t pos).1 < 0 ∨ base ≤ digitV (Utf8.decode t pos).1 then none else crAll base t (b - 1) (pos + (Utf8.decode t pos).2) (min (r * base + digitV (Utf8.decode t pos).1) 1114112)) ∧ t.size ≤ pos + (Utf8.decode t pos).2 + (b - 1) := by
  have hw := width_pos t pos h
  cases b with
  | zero => omega
  | succ b => exact ⟨by simp [crAll, h], by omega⟩
theorem crAll_end (base : Int) (t : ByteArray) (b pos : Nat) (r : Int) (h : ¬ pos < t.size) : crAll base t b pos r = some r := by
  cases b with
  | zero => rfl
  | succ b => simp [crAll, h]
def crS (l : List UInt8) : ByteArray := ⟨l.toArray⟩
def crBody (s : ByteArray) : List UInt8 := Lib.trimSuffix (Lib.trimPrefix s.data.toList [38, 35]) [59]
def crHex (s : ByteArray) : Bool := Lib.hasPrefix (crBody s) [120]
def crText (s : ByteArray) : ByteArray := crS (Lib.trimPrefix (crBody s) [120])
def crBase (s : ByteArray) : Int := if crHex s = true then 16 else 10
def crNum (s : ByteArray) : Option Int := crAll (crBase s) (crText s) (crText s).size 0 0
def crGood (s : ByteArray) : Bool := Lib.hasPrefix s.data.toList [38, 35] && (Lib.hasSuffix (Lib.trimPrefix s.data.toList [38, 35]) [59] && !((crText s).toList == []))
/-- The character of a reference to one. -/
def charRefV (s : ByteArray) : Int × Bool := match crNum s with
  | none => (0, false)
  | some r => if (crGood s && charB r) = true then (r, true) else (0, false)
end Go.Proofs.YtmjdjpelhhibgaaGreatDoor.Spec
