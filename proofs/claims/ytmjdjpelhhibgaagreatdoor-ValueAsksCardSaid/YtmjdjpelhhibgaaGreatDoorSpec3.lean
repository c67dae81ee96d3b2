/- Characters of texts put side by side: what the first text's characters are stays; the second's are read behind them; an encoded character is read as itself. Plain facts on bytes; no program here. -/
import Derived.Test.YtmjdjpelhhibgaaGreatDoorSpec2
namespace Go.Proofs.YtmjdjpelhhibgaaGreatDoor.Spec
open Go

/-! ### sides -/
theorem app_list (a t : ByteArray) : (a ++ t).data.toList = a.data.toList ++ t.data.toList := by
  rw [ByteArray.data_append, Array.toList_append]
theorem app_size (a t : ByteArray) : (a ++ t).size = a.size + t.size := ByteArray.size_append
theorem dec_shift (a t : ByteArray) (j : Nat) : Utf8.decode (a ++ t) (a.size + j) = Utf8.decode t j := by
  rw [← Lib.decodeL_drop, ← Lib.decodeL_drop, app_list]
  congr 1
  rw [List.drop_append]
  have : a.data.toList.length = a.size := rfl
  rw [List.drop_eq_nil_of_le (by omega), this]
  simp
set_option maxRecDepth 100000 in
theorem decN_more (n m b0 b1 b2 b3 c1 c2 c3 : Nat) (h1 : 1 < n → c1 = b1) (h2 : 2 < n → c2 = b2) (h3 : 3 < n → c3 = b3)
    (hok : ¬ ((Lib.decodeN n b0 b1 b2 b3).1 = 65533 ∧ (Lib.decodeN n b0 b1 b2 b3).2 = 1)) : Lib.decodeN (n + m) b0 c1 c2 c3 = Lib.decodeN n b0 b1 b2 b3 := by
  unfold Lib.decodeN at hok ⊢
  by_cases g0 : b0 < 128
  · rw [if_pos g0, if_pos g0]
  rw [if_neg g0] at hok
  rw [if_neg g0, if_neg g0]
  by_cases g1 : b0 / 32 = 6 ∧ (1 < n ∧ b1 / 64 = 2)
  · have e1 := h1 g1.2.1
    subst e1
    rw [if_pos g1, if_pos (show b0 / 32 = 6 ∧ (1 < n + m ∧ c1 / 64 = 2) from ⟨g1.1, by omega, g1.2.2⟩)]
  rw [if_neg g1] at hok
  rw [if_neg g1]
  by_cases g2 : b0 / 16 = 14 ∧ (1 < n ∧ b1 / 64 = 2) ∧ (2 < n ∧ b2 / 64 = 2)
  · have e1 := h1 g2.2.1.1
    have e2 := h2 g2.2.2.1
    subst e1 e2
    rw [if_pos g2, if_neg (by omega), if_pos (show b0 / 16 = 14 ∧ (1 < n + m ∧ c1 / 64 = 2) ∧ (2 < n + m ∧ c2 / 64 = 2) from ⟨g2.1, ⟨by omega, g2.2.1.2⟩, by omega, g2.2.2.2⟩)]
  rw [if_neg g2] at hok
  rw [if_neg g2]
  by_cases g3 : b0 / 8 = 30 ∧ (1 < n ∧ b1 / 64 = 2) ∧ (2 < n ∧ b2 / 64 = 2) ∧ (3 < n ∧ b3 / 64 = 2)
  · have e1 := h1 g3.2.1.1
    have e2 := h2 g3.2.2.1.1
    have e3 := h3 g3.2.2.2.1
    subst e1 e2 e3
    rw [if_pos g3, if_neg (by omega), if_neg (by omega), if_pos (show b0 / 8 = 30 ∧ (1 < n + m ∧ c1 / 64 = 2) ∧ (2 < n + m ∧ c2 / 64 = 2) ∧ (3 < n + m ∧ c3 / 64 = 2) from ⟨g3.1, ⟨by omega, g3.2.1.2⟩, ⟨by omega, g3.2.2.1.2⟩, by omega, g3.2.2.2.2⟩)]
  rw [if_neg g3] at hok
  exact absurd ⟨rfl, rfl⟩ hok
theorem okAt_iff (s : ByteArray) (i : Nat) : okAt s i = true ↔ ¬ ((Utf8.decode s i).1 = 65533 ∧ (Utf8.decode s i).2 = 1) := by
  unfold okAt
  by_cases h1 : (Utf8.decode s i).1 = 65533 <;> by_cases h2 : (Utf8.decode s i).2 = 1 <;> simp [h1, h2]
theorem get_app (a t : ByteArray) (i : Nat) (h : i < a.size) : (a ++ t).get! i = a.get! i := by
  have h2 : i < (a ++ t).size := by rw [app_size]; omega
  have e1 : (a ++ t).data.toList[i]'(by exact h2) = (a ++ t).get! i := by simp only [ByteArray.get!]; exact (getElem!_pos (a ++ t).data i h2).symm
  have e2 : a.data.toList[i]'(by exact h) = a.get! i := by simp only [ByteArray.get!]; exact (getElem!_pos a.data i h).symm
  rw [← e1, ← e2]
  have := app_list a t
  simp only [this]
  exact List.getElem_append_left _
theorem dec_app (a t : ByteArray) (i : Nat) (hi : i < a.size) (hok : okAt a i = true) : Utf8.decode (a ++ t) i = Utf8.decode a i := by
  rw [okAt_iff] at hok
  rw [Lib.decode_at] at hok
  rw [Lib.decode_at, Lib.decode_at, app_size, show a.size + t.size - i = (a.size - i) + t.size by omega, get_app a t i hi]
  exact decN_more _ _ _ _ _ _ _ _ _ (fun h => by rw [get_app a t _ (by omega)]) (fun h => by rw [get_app a t _ (by omega)]) (fun h => by rw [get_app a t _ (by omega)]) hok

/-- Two sides, the first of whole characters. -/
theorem go_app (q : Nat → Bool) (a t : ByteArray) (c : Nat) (hc : t.size ≤ c) : ∀ (b i : Nat), a.size ≤ i + b → i ≤ a.size → goAll (okAt a) a b i = true →
    goAll q (a ++ t) (b + c) i = (goAll q a b i && goAll (fun j => q (a.size + j)) t c 0) := by
  have tail : ∀ (c j : Nat), goAll q (a ++ t) c (a.size + j) = goAll (fun j => q (a.size + j)) t c j := by
    intro c
    induction c with
    | zero => intro j; rfl
    | succ c ih =>
      intro j
      simp only [goAll, app_size, dec_shift]
      by_cases h : j < t.size
      · rw [if_pos (by omega), if_pos h, Nat.add_assoc, ih]
      · rw [if_neg (by omega), if_neg h]
  intro b
  induction b with
  | zero =>
    intro i h1 h2 _
    obtain rfl : i = a.size := by omega
    rw [Nat.zero_add]
    have := tail c 0
    rw [Nat.add_zero] at this
    rw [this]
    rfl
  | succ b ih =>
    intro i h1 h2 hok
    by_cases h : i < a.size
    · rw [goAll_succ _ _ _ _ h] at hok
      rw [Bool.and_eq_true] at hok
      have hw := width_pos a i h
      have hw2 := width_le a i h
      rw [show b + 1 + c = (b + c) + 1 by omega, goAll_succ _ _ _ _ (by rw [app_size]; omega), goAll_succ _ _ _ _ h, dec_app a t i h hok.1]
      rw [ih (i + (Utf8.decode a i).2) (by omega) (by omega) hok.2, Bool.and_assoc]
    · obtain rfl : i = a.size := by omega
      rw [goAll_end q a _ _ h, Bool.true_and]
      have := tail (b + 1 + c) 0
      rw [show a.size + 0 = a.size from rfl] at this
      rw [this]
      rw [goAll_fuel (fun j => q (a.size + j)) t (b + 1 + c) c 0 (by omega) (by omega)]
where
  goAll_fuel (q : Nat → Bool) (s : ByteArray) : ∀ (b c i : Nat), s.size ≤ i + b → s.size ≤ i + c → goAll q s b i = goAll q s c i
    | 0, c, i, h1, _ => by rw [goAll_end q s c i (by omega)]; rfl
    | b + 1, 0, i, _, h2 => by rw [goAll_end q s (b + 1) i (by omega)]; rfl
    | b + 1, c + 1, i, h1, h2 => by
      by_cases h : i < s.size
      · have hw := width_pos s i h
        rw [goAll_succ _ _ _ _ h, goAll_succ _ _ _ _ h, goAll_fuel q s b c _ (by omega) (by omega)]
      · rw [goAll_end _ _ _ _ h, goAll_end _ _ _ _ h]

def validB (s : ByteArray) : Bool := goAll (okAt s) s s.size 0
theorem okAt_app (a t : ByteArray) (i : Nat) (hi : i < a.size) (hok : okAt a i = true) : okAt (a ++ t) i = true := by
  unfold okAt; rw [dec_app a t i hi hok]; exact hok
theorem okAt_shift (a t : ByteArray) (j : Nat) : okAt (a ++ t) (a.size + j) = okAt t j := by unfold okAt; rw [dec_shift]
/-- What holds at each place of a text stays when the property is as good there. -/
theorem goAll_imp {q r : Nat → Bool} (s : ByteArray) (h : ∀ i, i < s.size → q i = true → r i = true) : ∀ (b i : Nat), goAll q s b i = true → goAll r s b i = true
  | 0, _, _ => rfl
  | b + 1, i, hq => by
    by_cases hi : i < s.size
    · rw [goAll_succ _ _ _ _ hi, Bool.and_eq_true] at hq ⊢
      exact ⟨h i hi hq.1, goAll_imp s h b _ hq.2⟩
    · rw [goAll_end _ _ _ _ hi]
theorem goAll_with {q r : Nat → Bool} (s : ByteArray) (ok : Nat → Bool) (h : ∀ i, i < s.size → ok i = true → q i = r i) : ∀ (b i : Nat), goAll ok s b i = true → goAll q s b i = goAll r s b i
  | 0, _, _ => rfl
  | b + 1, i, hq => by
    by_cases hi : i < s.size
    · rw [goAll_succ _ _ _ _ hi, Bool.and_eq_true] at hq
      rw [goAll_succ _ _ _ _ hi, goAll_succ _ _ _ _ hi, h i hi hq.1, goAll_with s ok h b _ hq.2]
    · rw [goAll_end _ _ _ _ hi, goAll_end _ _ _ _ hi]
/-- A property of characters, place by place, of two sides. -/
theorem go_two (p : Nat × Nat → Bool) (a t : ByteArray) (hv : validB a = true) :
    goAll (fun i => okAt (a ++ t) i && p (Utf8.decode (a ++ t) i)) (a ++ t) (a ++ t).size 0 =
      (goAll (fun i => okAt a i && p (Utf8.decode a i)) a a.size 0 && goAll (fun i => okAt t i && p (Utf8.decode t i)) t t.size 0) := by
  rw [app_size, go_app _ a t t.size (Nat.le_refl _) a.size 0 (by omega) (by omega) hv]
  congr 1
  · refine goAll_with a (okAt a) (fun i hi hok => ?_) _ _ hv
    rw [okAt_app a t i hi hok, dec_app a t i hi hok, hok]
  · refine goAll_congr t (fun j _ => ?_) _ _
    show (okAt (a ++ t) (a.size + j) && p (Utf8.decode (a ++ t) (a.size + j))) = _
    rw [okAt_shift, dec_shift]

/-! ### names put side by side -/
def partsB (s : ByteArray) : Bool := goAll (fun i => okAt s i && partB (Utf8.decode s i).1) s s.size 0
theorem partsB_two (a t : ByteArray) (hv : validB a = true) : partsB (a ++ t) = (partsB a && partsB t) := go_two (fun d => partB d.1) a t hv
theorem valid_of_parts {s : ByteArray} (h : partsB s = true) : validB s = true :=
  goAll_imp s (fun i _ hq => by rw [Bool.and_eq_true] at hq; exact hq.1) _ _ h
theorem toList_isEmpty (s : ByteArray) : s.toList.isEmpty = decide (s.size = 0) := by
  rw [ByteArray.toList_eq, Bool.eq_iff_iff, List.isEmpty_iff, decide_eq_true_eq]
  have : s.data.toList.length = s.size := rfl
  rw [← this]
  exact List.length_eq_zero_iff.symm
/-- A name: not empty, begun by a start, all parts. -/
theorem nameB_parts (s : ByteArray) : nameB s = (decide (0 < s.size) && (startB (Utf8.decode s 0).1 && partsB s)) := by
  rw [nameB_go, toList_isEmpty]
  by_cases h0 : s.size = 0
  · simp [h0]
  · have hs : 0 < s.size := by omega
    simp only [h0, decide_false, Bool.not_false, Bool.true_and, hs, decide_true]
    unfold partsB
    obtain ⟨n, hn⟩ : ∃ n, s.size = n + 1 := ⟨s.size - 1, by omega⟩
    rw [hn, goAll_succ _ _ _ _ hs, goAll_succ _ _ _ _ hs]
    have hw := width_pos s 0 hs
    have e : ∀ (b i : Nat), 0 < i → goAll (nameQ s) s b i = goAll (fun i => okAt s i && partB (Utf8.decode s i).1) s b i := by
      intro b
      induction b with
      | zero => intro i _; rfl
      | succ b ih =>
        intro i hi
        by_cases hlt : i < s.size
        · rw [goAll_succ _ _ _ _ hlt, goAll_succ _ _ _ _ hlt, ih _ (by omega)]
          congr 1
          unfold nameQ
          simp [show ¬ i = 0 by omega]
        · rw [goAll_end _ _ _ _ hlt, goAll_end _ _ _ _ hlt]
    rw [e n _ (by omega)]
    unfold nameQ
    cases okAt s 0 <;> cases partB (Utf8.decode s 0).1 <;> cases startB (Utf8.decode s 0).1 <;> simp
theorem name_then (a t : ByteArray) (ha : nameB a = true) (ht : partsB t = true) : nameB (a ++ t) = true := by
  rw [nameB_parts] at ha ⊢
  simp only [Bool.and_eq_true, decide_eq_true_eq] at ha
  obtain ⟨h0, hst, hp⟩ := ha
  have hv := valid_of_parts hp
  have hok : okAt a 0 = true := by
    obtain ⟨n, hn⟩ : ∃ n, a.size = n + 1 := ⟨a.size - 1, by omega⟩
    unfold validB at hv
    rw [hn, goAll_succ _ _ _ _ h0, Bool.and_eq_true] at hv
    exact hv.1
  rw [app_size, dec_app a t 0 h0 hok, hst, partsB_two a t hv, hp, ht]
  simp; omega
theorem parts_of_name {s : ByteArray} (h : nameB s = true) : partsB s = true := by
  rw [nameB_parts] at h
  simp only [Bool.and_eq_true] at h
  exact h.2.2

end Go.Proofs.YtmjdjpelhhibgaaGreatDoor.Spec
