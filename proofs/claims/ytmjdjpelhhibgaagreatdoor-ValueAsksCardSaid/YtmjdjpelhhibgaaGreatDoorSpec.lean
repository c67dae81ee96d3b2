/- Characters, names, their parts: plain functions over numbers and bytes, and what holds of them. No program here. -/
import Derived.Lib.MapLaws
import Derived.Lib.ValidU
import Derived.Lib.TrimUEq
import Derived.Lib.IndexMore
import Derived.Laws.RangeAny
namespace Go.Proofs.YtmjdjpelhhibgaaGreatDoor.Spec
open Go

def charB (r : Int) : Bool := decide (9 ≤ r ∧ r ≤ 10 ∨ r = 13 ∨ 32 ≤ r ∧ r ≤ 55295 ∨ 57344 ≤ r ∧ r ≤ 65533 ∨ 65536 ≤ r ∧ r ≤ 1114111)
def spaceB (r : Int) : Bool := decide (r = 32 ∨ r = 9 ∨ r = 13 ∨ r = 10)
def startB (r : Int) : Bool := decide (r = 58 ∨ 65 ≤ r ∧ r ≤ 90 ∨ r = 95 ∨ 97 ≤ r ∧ r ≤ 122 ∨ 192 ≤ r ∧ r ≤ 214 ∨ 216 ≤ r ∧ r ≤ 246 ∨ 248 ≤ r ∧ r ≤ 767 ∨ 880 ≤ r ∧ r ≤ 893 ∨ 895 ≤ r ∧ r ≤ 8191 ∨ 8204 ≤ r ∧ r ≤ 8205 ∨ 8304 ≤ r ∧ r ≤ 8591 ∨ 11264 ≤ r ∧ r ≤ 12271 ∨ 12289 ≤ r ∧ r ≤ 55295 ∨ 63744 ≤ r ∧ r ≤ 64975 ∨ 65008 ≤ r ∧ r ≤ 65533 ∨ 65536 ≤ r ∧ r ≤ 983039)
def moreB (r : Int) : Bool := decide (45 ≤ r ∧ r ≤ 46 ∨ 48 ≤ r ∧ r ≤ 57 ∨ r = 183 ∨ 768 ≤ r ∧ r ≤ 879 ∨ 8255 ≤ r ∧ r ≤ 8256)
def partB (r : Int) : Bool := startB r || moreB r

/-- Does each rune that a range over the string yields, from a place on, pass? -/
def runesAll (p : Nat → Int → Bool) (s : ByteArray) : Nat → Nat → Bool
  | 0, _ => true
  | b + 1, pos => if pos < s.size then p pos (Utf8.decode s pos).1 && runesAll p s b (pos + (Utf8.decode s pos).2) else true

def nameP (pos : Nat) (r : Int) : Bool := !((decide (pos = 0) && !startB r) || !partB r)
def blankB (s : ByteArray) : Bool := runesAll (fun _ r => spaceB r) s s.size 0
def nameB (s : ByteArray) : Bool := runesAll nameP s s.size 0 && (!s.toList.isEmpty && Lib.validD s.data.toList)

theorem runesAll_end (p : Nat → Int → Bool) (s : ByteArray) (b pos : Nat) (h : ¬ pos < s.size) : runesAll p s b pos = true := by
  cases b with
  | zero => rfl
  | succ b => simp [runesAll, h]
theorem width_pos (s : ByteArray) (pos : Nat) (h : pos < s.size) : 1 ≤ (Utf8.decode s pos).2 := by
  by_cases ha : (s[pos]'h).toNat < 128
  · rw [decode_ascii s pos h ha]
    exact Nat.le_refl _
  · exact (decode_high s pos h (by omega)).2
theorem runesAll_step (p : Nat → Int → Bool) (s : ByteArray) (b pos : Nat) (hb : s.size ≤ pos + b) (h : pos < s.size) :
    runesAll p s b pos = (p pos (Utf8.decode s pos).1 && runesAll p s (b - 1) (pos + (Utf8.decode s pos).2)) ∧ s.size ≤ pos + (Utf8.decode s pos).2 + (b - 1) := by
  have hw := width_pos s pos h
  cases b with
  | zero => omega
  | succ b => exact ⟨by simp [runesAll, h], by omega⟩
/-- The number of rounds does not matter, where it is enough. -/
theorem runesAll_enough (p : Nat → Int → Bool) (s : ByteArray) (b : Nat) : ∀ (c pos : Nat), s.size ≤ pos + b → s.size ≤ pos + c → runesAll p s b pos = runesAll p s c pos := by
  induction b with
  | zero => intro c pos h1 h2; rw [runesAll_end p s c pos (by omega)]; rfl
  | succ b ih =>
    intro c pos h1 h2
    by_cases h : pos < s.size
    · have hw := width_pos s pos h
      obtain ⟨e1, -⟩ := runesAll_step p s (b + 1) pos h1 h
      obtain ⟨e2, g2⟩ := runesAll_step p s c pos h2 h
      rw [e1, e2, Nat.add_sub_cancel]
      rw [ih (c - 1) _ (by omega) g2]
    · rw [runesAll_end p s _ pos h, runesAll_end p s _ pos h]

end Go.Proofs.YtmjdjpelhhibgaaGreatDoor.Spec
