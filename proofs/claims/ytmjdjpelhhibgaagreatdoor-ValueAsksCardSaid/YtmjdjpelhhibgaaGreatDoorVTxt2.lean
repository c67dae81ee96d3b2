/- The reader of values: a text, from the left. -/
import Derived.Test.YtmjdjpelhhibgaaGreatDoorVTxt
namespace Go.Proofs.YtmjdjpelhhibgaaGreatDoor.Val
open Go Go.RowKit Go.Proofs.YtmjdjpelhhibgaaGreatDoor.Rf Go.Proofs.YtmjdjpelhhibgaaGreatDoor.Spec Go.Proofs.YtmjdjpelhhibgaaGreatDoor.Giv
set_option linter.unusedVariables false
set_option linter.unusedSimpArgs false
/-! ### what a character is, by its first byte -/
theorem dec_sign (s : ByteArray) (i : Nat) (hi : i < s.size) (t : Nat) (ht : t < 128) : ((Utf8.decode s i).1 = t ↔ (s[i]'hi).toNat = t) := by
  by_cases ha : (s[i]'hi).toNat < 128
  · rw [decode_ascii s i hi ha]
  · have := decode_high s i hi (by omega)
    omega
theorem dec_one (s : ByteArray) (i : Nat) (hi : i < s.size) (h : (s[i]'hi).toNat < 128) : (Utf8.decode s i).2 = 1 := by rw [decode_ascii s i hi h]
theorem drop_at (s : ByteArray) (i : Nat) (hi : i < s.size) : s.data.toList.drop i = (s[i]'hi) :: s.data.toList.drop (i + 1) := drop_cons s i hi
/-- A character that is neither white nor one of the two signs: its bytes are plain. -/
theorem plain_wide (s : ByteArray) (i : Nat) (hi : i < s.size) (h1 : spaceB ((s[i]'hi).toNat : Int) = false) (h2 : (s[i]'hi).toNat ≠ 60) (h3 : (s[i]'hi).toNat ≠ 38) :
    ((s.extract i (i + (Utf8.decode s i).2)).data.toList).all plainC = true := by
  by_cases ha : (s[i]'hi).toNat < 128
  · rw [dec_one s i hi ha]
    have e : (s.extract i (i + 1)).data.toList = [s[i]'hi] := by
      have hl : i < s.data.toList.length := hi
      simp only [ByteArray.data_extract, Array.toList_extract, List.extract_eq_take_drop]
      rw [show i + 1 - i = 1 by omega, drop_at s i hi]
      rfl
    rw [e]
    unfold plainC
    simp [h1, h2, h3]
  · rw [List.all_eq_true]
    intro c hc
    obtain ⟨j, hj, rfl⟩ := List.getElem_of_mem hc
    have hsz : (s.extract i (i + (Utf8.decode s i).2)).data.toList.length = (Utf8.decode s i).2 := by
      have := width_le s i hi
      show (s.extract i (i + (Utf8.decode s i).2)).size = _
      simp; omega
    obtain ⟨hk, hb⟩ := hi_bytes s i hi (by omega) j (by omega)
    have e : (s.extract i (i + (Utf8.decode s i).2)).data.toList[j] = s[i + j]'hk := by
      simp [ByteArray.getElem_eq_getElem_data]
    rw [e]
    unfold plainC spaceB
    simp
    omega
theorem skip_le (s : ByteArray) (i dn : Nat) (hi : i < s.size) (h : i < dn) (hd : s.data.toList[dn - 1]? = some 59) : i + (Utf8.decode s i).2 ≤ dn := by
  rcases Nat.lt_or_ge dn (i + (Utf8.decode s i).2) with hlt | hge
  · exfalso
    by_cases ha : (s[i]'hi).toNat < 128
    · rw [dec_one s i hi ha] at hlt; omega
    · obtain ⟨hk, hb⟩ := hi_bytes s i hi (by omega) (dn - 1 - i) (by omega)
      have e : i + (dn - 1 - i) = dn - 1 := by omega
      have hk2 : dn - 1 < s.size := by omega
      have hv : s[dn - 1]'hk2 = 59 := by
        have := Lib.data_getElem? s (dn - 1) hk2
        rw [hd] at this; exact (Option.some.inj this).symm
      have : s[i + (dn - 1 - i)]'hk = 59 := by simpa [e] using hv
      rw [this] at hb
      exact absurd hb (by decide)
  · exact hge
theorem split_drop (s : ByteArray) (i j : Nat) (h : i ≤ j) : s.data.toList.drop i = (s.extract i j).data.toList ++ s.data.toList.drop j := by
  have e : (s.extract i j).data.toList = (s.data.toList.drop i).take (j - i) := by
    simp only [ByteArray.data_extract, Array.toList_extract, List.extract_eq_take_drop]
  rw [e, show s.data.toList.drop j = (s.data.toList.drop i).drop (j - i) by rw [List.drop_drop]; congr 1; omega, List.take_append_drop]
/-- Where a reference ends. -/
theorem ref_end (s : ByteArray) (i : Nat) (hi : i < s.size) (hc : cutIs (s.data.toList.drop i) = true) :
    i + (cutA (s.data.toList.drop i)).length + 1 ≤ s.size ∧ cutB (s.data.toList.drop i) = s.data.toList.drop (i + (cutA (s.data.toList.drop i)).length + 1) ∧ s.data.toList[i + (cutA (s.data.toList.drop i)).length]? = some 59 := by
  have h := cut_is _ hc
  have hl := congrArg List.length h
  have hsz : s.data.toList.length = s.size := rfl
  rw [List.length_drop, List.length_append, List.length_cons, hsz] at hl
  generalize cutA (s.data.toList.drop i) = A at *
  generalize cutB (s.data.toList.drop i) = B at *
  refine ⟨by omega, ?_, ?_⟩
  · rw [show i + A.length + 1 = i + (A.length + 1) by omega, ← List.drop_drop, h, ← List.drop_drop, List.drop_left]
    rfl
  · rw [← List.getElem?_drop, h]
    simp
theorem VS.plt {w0 w : World} {p rb : Nat} {E : List Ent} {most : Int} {st : St} (h : VS w0 w p rb E most st) : p < w.heap.size := by
  obtain ⟨bm, v, hI, _⟩ := h.rs
  exact hI.lt
theorem Fr.iter {p rb : Nat} {w wr : World} (h : Fr p rb w wr) {s : ByteArray} {pos : Nat} (hk : wr.heap[w.heap.size]? = some (.stringIter s pos)) (pos' : Nat) : Fr p rb w (wr.iterAt w.heap.size s pos') := fun k o hko h1 h2 h3 h4 => by
  rw [Lib.iterAt_other _ _ _ _ _ (by have := (Array.getElem?_eq_some_iff.1 hko).1; omega)]
  exact h k o hko h1 h2 h3 h4
theorem Fr.at {p rb : Nat} {w wr : World} (h : Fr p rb w wr) {k : Nat} {s : ByteArray} {pos : Nat} (hk : w.heap[k]? = some (.stringIter s pos)) (hp : p ≠ k) (hb : rb ≠ k) : wr.heap[k]? = some (.stringIter s pos) :=
  h k _ hk (fun e => hp e.symm) (fun e => hb e.symm) (by intro c fz e; cases e) (by intro c fz e; cases e)
end Go.Proofs.YtmjdjpelhhibgaaGreatDoor.Val
