/- The plain law of TokenAside. -/
import Derived.Test.YtmjdjpelhhibgaaDoorKPTold
import Derived.Test.YtmjdjpelhhibgaaDoorR1x17
namespace Go.Proofs.YtmjdjpelhhibgaaDoor.TP
open Go Go.RowKit Go.Proofs.YtmjdjpelhhibgaaDoor.Giv Go.Proofs.YtmjdjpelhhibgaaDoor.Spec Go.Proofs.YtmjdjpelhhibgaaDoor.R1 Go.Proofs.YtmjdjpelhhibgaaDoorW.PrintWords Go.Proofs.YtmjdjpelhhibgaaDoorW.PrintLast
set_option linter.unusedVariables false
set_option linter.unusedSimpArgs false
def dd : List UInt8 := [45, 45]
def qq : List UInt8 := [63, 62]
theorem pre_short {m l : List UInt8} (h : l.length < m.length) : pre m l = false := by
  cases hp : pre m l with
  | false => rfl
  | true => have := pre_len hp; omega
/-- Where a mark stands first: behind the text, if none begins in it. -/
theorem index_behind (s m r : List UInt8) (hno : ∀ j, j < s.length → pre m ((s ++ (m ++ r)).drop j) = false) : Lib.index (s ++ (m ++ r)) m = (s.length : Int) := by
  refine Lib.index_first (by simp) ?_ fun j hj => hno j hj
  unfold Lib.occAt
  rw [List.isPrefixOf_iff_prefix, List.drop_left']
  · exact List.prefix_append _ _
  · rfl
theorem cut_behind (s m r : List UInt8) (hno : ∀ j, j < s.length → pre m ((s ++ (m ++ r)).drop j) = false) : (Lib.cut (s ++ (m ++ r)) m).1 = s ∧ (Lib.cut (s ++ (m ++ r)) m).2.2 = true := by
  unfold Lib.cut
  rw [index_behind s m r hno, if_pos (by omega)]
  simp
theorem cut_before (s m r : List UInt8) (j : Nat) (hj : j < s.length) (h : pre m ((s ++ (m ++ r)).drop j) = true) : (Lib.cut (s ++ (m ++ r)) m).1 ≠ s := by
  have hi : Lib.index (s ++ (m ++ r)) m ≤ (j : Int) ∧ 0 ≤ Lib.index (s ++ (m ++ r)) m := by
    rcases Lib.index_spec (s ++ (m ++ r)) m with ⟨h1, h2⟩ | ⟨i, h1, h2, h3, h4⟩
    · have := h2 j (by simp; omega)
      unfold Lib.occAt at this
      unfold pre at h
      rw [h] at this; cases this
    · rw [h1]
      refine ⟨?_, by omega⟩
      by_cases hij : i ≤ j
      · omega
      · have := h4 j (by omega)
        unfold Lib.occAt at this
        unfold pre at h
        rw [h] at this; cases this
  intro e
  unfold Lib.cut at e
  rw [if_pos hi.2] at e
  have := congrArg List.length e
  simp at this
  omega
theorem drop_app (s t : List UInt8) (j : Nat) (hj : j < s.length) : (s ++ t).drop j = s.drop j ++ t := List.drop_append_of_le_length (by omega)
theorem pre_app {m l t : List UInt8} (h : m.length ≤ l.length) : pre m (l ++ t) = pre m l := by
  rw [pre_take, pre_take, List.take_append_of_le_length h]
/-- No mark of two begins in a text that holds none, and does not end in its first sign where the two are alike. -/
theorem no_two (a b : UInt8) (s r : List UInt8) (hno : ∀ j, j < s.length → pre [a, b] (s.drop j) = false) (he : a ≠ b ∨ ∀ c, s.getLast? = some c → c ≠ a) : ∀ j, j < s.length → pre [a, b] ((s ++ ([a, b] ++ r)).drop j) = false := by
  intro j hj
  rw [drop_app _ _ _ hj]
  by_cases h2 : j + 1 < s.length
  · rw [pre_app (by simp; omega)]
    exact hno j hj
  · have hd : s.drop j = [s[j]] := by
      rw [List.drop_eq_getElem_cons hj, List.drop_eq_nil_of_le (by omega)]
    rw [hd]
    have hlast : s.getLast? = some s[j] := by
      rw [List.getLast?_eq_getElem?, List.getElem?_eq_getElem (by omega)]
      congr 2
      omega
    show pre [a, b] (s[j] :: a :: b :: r) = false
    unfold pre
    rw [List.isPrefixOf_cons_cons, List.isPrefixOf_cons_cons]
    rcases he with he | he
    · have : (b == a) = false := by rw [beq_eq_false_iff_ne]; exact fun e => he e.symm
      rw [this]; simp
    · have : (a == s[j]) = false := by rw [beq_eq_false_iff_ne]; exact fun e => he _ hlast e.symm
      rw [this]; simp
theorem no_cd (s r : List UInt8) (hno : ∀ j, j < s.length → pre cd (s.drop j) = false) : ∀ j, j < s.length → pre cd ((s ++ (cd ++ r)).drop j) = false := by
  intro j hj
  rw [drop_app _ _ _ hj]
  by_cases h3 : j + 2 < s.length
  · rw [pre_app (by simp [cd]; omega)]
    exact hno j hj
  · by_cases h2 : j + 1 < s.length
    · have hd : s.drop j = [s[j], s[j + 1]] := by
        rw [List.drop_eq_getElem_cons hj, List.drop_eq_getElem_cons h2, List.drop_eq_nil_of_le (by omega)]
      rw [hd]
      show pre [93, 93, 62] (s[j] :: s[j + 1] :: 93 :: 93 :: 62 :: r) = false
      unfold pre
      rw [List.isPrefixOf_cons_cons, List.isPrefixOf_cons_cons, List.isPrefixOf_cons_cons]
      simp
    · have hd : s.drop j = [s[j]] := by
        rw [List.drop_eq_getElem_cons hj, List.drop_eq_nil_of_le (by omega)]
      rw [hd]
      show pre [93, 93, 62] (s[j] :: 93 :: 93 :: 62 :: r) = false
      unfold pre
      rw [List.isPrefixOf_cons_cons, List.isPrefixOf_cons_cons, List.isPrefixOf_cons_cons]
      simp
theorem none_of {m l : List UInt8} {i : Nat} (h : occUpTo m l i = false) : ∀ j, j < i → pre m (l.drop j) = false := by
  intro j hj
  cases hp : pre m (l.drop j) with
  | false => rfl
  | true =>
    have : occUpTo m l i = true := (occUpTo_iff m l i).2 ⟨j, hj, hp⟩
    rw [h] at this; cases this
/-! ### the three pieces -/
theorem aside_comment (k : Nat) (s : List UInt8) (hl : s.length ≤ 60) : ∃ tz ok, token_Next.f (k + 1) (str ([60, 33, 45, 45] ++ s ++ [45, 45, 62])) 0 = nextL (some (4, ⟨#[]⟩, str (Lib.cut (s ++ (dd ++ [62])) dd).1, [], false, tz, ok)) 0 ∧ ((Lib.cut (s ++ (dd ++ [62])) dd).1 = s → tz = ((s.length + 7 : Nat) : Int) ∧ ok = true) := by
  have hz : ([60, 33, 45, 45] ++ s ++ [45, 45, 62] : List UInt8).length = s.length + 7 := by simp
  have hd4 : List.drop 4 ([60, 33, 45, 45] ++ s ++ [45, 45, 62]) = s ++ (dd ++ [62]) := by simp [dd]
  have hcl : (Lib.cut (s ++ (dd ++ [62])) dd).1.length + 2 ≤ s.length + 3 ∧ (Lib.cut (s ++ (dd ++ [62])) dd).2.2 = true := by
    have hc : 0 ≤ Lib.index (s ++ (dd ++ [62])) dd := by
      rcases Lib.index_spec (s ++ (dd ++ [62])) dd with ⟨h1, h2⟩ | ⟨i, h1, _⟩
      · have := h2 s.length (by simp)
        unfold Lib.occAt at this
        rw [List.drop_left' rfl] at this
        exact absurd this (by decide)
      · rw [h1]; omega
    have hr := Lib.index_room (s ++ (dd ++ [62])) dd hc
    unfold Lib.cut
    rw [if_pos hc]
    simp [dd] at hr ⊢
    omega
  obtain ⟨hc1, hc2⟩ := hcl
  have e4 : wrap64 (((0 : Nat) : Int) + 4) = ((4 : Nat) : Int) := by unfold wrap64; omega
  have hone : oneL k ([60, 33, 45, 45] ++ s ++ [45, 45, 62]) 0 = token_comment.f (str ([60, 33, 45, 45] ++ s ++ [45, 45, 62])) ((0 : Nat) : Int) := by
    unfold oneL
    rw [if_pos]
    rw [List.drop_zero]
    unfold pre
    rw [List.isPrefixOf_iff_prefix]
    exact ⟨s ++ [45, 45, 62], by simp⟩
  have hcom : ∃ ok, token_comment.f (str ([60, 33, 45, 45] ++ s ++ [45, 45, 62])) ((0 : Nat) : Int) = some (4, ⟨#[]⟩, str (Lib.cut (s ++ (dd ++ [62])) dd).1, [], false, (((Lib.cut (s ++ (dd ++ [62])) dd).1.length + 7 : Nat) : Int), ok) ∧ ((Lib.cut (s ++ (dd ++ [62])) dd).1 = s → ok = true) := by
    unfold token_comment.f
    rw [e4, show (⟨#[45, 45]⟩ : ByteArray) = str dd from rfl, upto_f _ dd 4 (by omega) (by omega) (by decide), hd4, Option.bind_some]
    simp only
    have hdl : dd.length = 2 := rfl
    rw [if_pos hc2, if_pos (by omega), if_pos (by rw [str_size]; omega), Int.toNat_natCast, str_size, str_from]
    rw [show ∀ X : List UInt8, strings_HasPrefix.f (str X) ⟨#[62]⟩ = some (pre [62] X) from fun _ => rfl, Option.bind_some]
    refine ⟨pre [62] (List.drop (4 + (Lib.cut (s ++ (dd ++ [62])) dd).1.length + dd.length) ([60, 33, 45, 45] ++ s ++ [45, 45, 62])), ?_, fun he => ?_⟩
    · congr 6
      rw [w64 _ (by omega) (by omega)]
      congr 1
      omega
    · rw [he]
      have : List.drop (4 + s.length + dd.length) ([60, 33, 45, 45] ++ s ++ [45, 45, 62]) = [62] := by
        rw [show ([60, 33, 45, 45] ++ s ++ [45, 45, 62] : List UInt8) = ([60, 33, 45, 45] ++ s ++ [45, 45]) ++ [62] by simp]
        exact List.drop_left' (by simp [dd]; omega)
      rw [this]
      rfl
  obtain ⟨ok, h1, h2⟩ := hcom
  refine ⟨(((Lib.cut (s ++ (dd ++ [62])) dd).1.length + 7 : Nat) : Int), ok, ((next_f k _ 0 (by omega)).trans ?_), fun he => ⟨by rw [he], h2 he⟩⟩
  rw [hone, h1]
  rfl
theorem aside_cdata (k : Nat) (s : List UInt8) (hl : s.length ≤ 60) : ∃ tz, token_Next.f (k + 1) (str ([60, 33, 91, 67, 68, 65, 84, 65, 91] ++ s ++ [93, 93, 62])) 0 = some (6, ⟨#[]⟩, str (Lib.cut (s ++ (cd ++ [])) cd).1, [], false, tz, 0) ∧ ((Lib.cut (s ++ (cd ++ [])) cd).1 = s → tz = ((s.length + 12 : Nat) : Int)) := by
  have hz : ([60, 33, 91, 67, 68, 65, 84, 65, 91] ++ s ++ [93, 93, 62] : List UInt8).length = s.length + 12 := by simp
  have hd9 : List.drop 9 ([60, 33, 91, 67, 68, 65, 84, 65, 91] ++ s ++ [93, 93, 62]) = s ++ (cd ++ []) := by simp [cd]
  have hc2 : (Lib.cut (s ++ (cd ++ [])) cd).2.2 = true := by
    have hc : 0 ≤ Lib.index (s ++ (cd ++ [])) cd := by
      rcases Lib.index_spec (s ++ (cd ++ [])) cd with ⟨h1, h2⟩ | ⟨i, h1, _⟩
      · have := h2 s.length (by simp)
        unfold Lib.occAt at this
        rw [List.drop_left' rfl] at this
        exact absurd this (by decide)
      · rw [h1]; omega
    unfold Lib.cut
    rw [if_pos hc]
  have e9 : wrap64 (((0 : Nat) : Int) + 9) = ((9 : Nat) : Int) := by unfold wrap64; omega
  have hone : oneL k ([60, 33, 91, 67, 68, 65, 84, 65, 91] ++ s ++ [93, 93, 62]) 0 = token_cdata.f (str ([60, 33, 91, 67, 68, 65, 84, 65, 91] ++ s ++ [93, 93, 62])) ((0 : Nat) : Int) := by
    unfold oneL
    rw [if_neg, if_pos]
    · rw [List.drop_zero]
      unfold pre
      rw [List.isPrefixOf_iff_prefix]
      exact ⟨s ++ [93, 93, 62], by simp⟩
    · rw [List.drop_zero]
      intro h
      exact absurd h (by simp [pre, List.isPrefixOf])
  refine ⟨((9 + (Lib.cut (s ++ (cd ++ [])) cd).1.length + cd.length : Nat) : Int), ((next_f k _ 0 (by omega)).trans ?_), fun he => by rw [he]; simp [cd]; omega⟩
  rw [hone]
  unfold token_cdata.f
  rw [e9, show (⟨#[93, 93, 62]⟩ : ByteArray) = str cd from rfl, upto_f _ cd 9 (by omega) (by omega) (by decide), hd9, Option.bind_some]
  simp only [hc2]
  rfl
theorem word_from (c : UInt8) (t : List UInt8) (hc : c.toNat < 128) (hcp : partB (c.toNat : Int) = false) : ∀ (p q : List UInt8) (b : Nat), (∀ x ∈ p, x.toNat < 128 ∧ partB (x.toNat : Int) = true) → p.length < b → wordFrom (str (q ++ (p ++ c :: t))) b q.length = q.length + p.length
  | [], q, b, _, hb => by
    obtain ⟨b, rfl⟩ : ∃ m, b = m + 1 := ⟨b - 1, by simp at hb; omega⟩
    have hq : q.length < (str (q ++ ([] ++ c :: t))).size := by rw [str_size]; simp
    have hg : (str (q ++ ([] ++ c :: t)))[q.length]'hq = c := by
      have h1 := Lib.data_getElem? _ q.length hq
      rw [str_data] at h1
      simpa using h1.symm
    have hdec : Utf8.decode (str (q ++ ([] ++ c :: t))) q.length = (c.toNat, 1) := by
      rw [decode_ascii _ q.length hq (by rw [hg]; exact hc), hg]
    rw [wordFrom, if_pos hq, hdec]
    simp only [hcp, Bool.and_false, Bool.false_eq_true, if_false]
    simp
  | x :: p, q, b, hp, hb => by
    obtain ⟨b, rfl⟩ : ∃ m, b = m + 1 := ⟨b - 1, by simp at hb; omega⟩
    obtain ⟨x1, x2⟩ := hp x (by simp)
    have hq : q.length < (str (q ++ (x :: p ++ c :: t))).size := by rw [str_size]; simp
    have hg : (str (q ++ (x :: p ++ c :: t)))[q.length]'hq = x := by
      have h1 := Lib.data_getElem? _ q.length hq
      rw [str_data] at h1
      simpa using h1.symm
    have hdec : Utf8.decode (str (q ++ (x :: p ++ c :: t))) q.length = (x.toNat, 1) := by
      rw [decode_ascii _ q.length hq (by rw [hg]; exact x1), hg]
    have hok : okAt (str (q ++ (x :: p ++ c :: t))) q.length = true := by
      unfold okAt
      rw [hdec]
      simp
      omega
    rw [wordFrom, if_pos hq, hok, hdec]
    simp only [x2, Bool.and_self, if_true]
    have e : q ++ (x :: p ++ c :: t) = (q ++ [x]) ++ (p ++ c :: t) := by simp
    have ih := word_from c t hc hcp p (q ++ [x]) b (fun y hy => hp y (by simp [hy])) (by simp at hb; omega)
    rw [e]
    rw [List.length_append, List.length_singleton] at ih
    rw [ih]
    simp
    omega
theorem word_len (p : List UInt8) (c : UInt8) (t : List UInt8) (hp : ∀ x ∈ p, x.toNat < 128 ∧ partB (x.toNat : Int) = true) (hc : c.toNat < 128) (hcp : partB (c.toNat : Int) = false) : wordLen (str (p ++ c :: t)) = p.length := by
  have := word_from c t hc hcp p [] (str (p ++ c :: t)).size hp (by rw [str_size]; simp)
  unfold wordLen
  simpa using this
theorem word_f (l : List UInt8) (a : Nat) (ha : a ≤ l.length) (hl : l.length < 4294967281) (p : List UInt8) (c : UInt8) (t : List UInt8) (hd : l.drop a = p ++ c :: t) (hp : ∀ x ∈ p, x.toNat < 128 ∧ partB (x.toNat : Int) = true) (hc : c.toNat < 128) (hcp : partB (c.toNat : Int) = false) :
    token_Word.f (str l) (a : Int) = some ((a + p.length : Nat) : Int) := by
  unfold token_Word.f
  rw [if_pos ⟨by omega, by rw [str_size]; omega, by rw [str_size]; exact hl⟩, Int.toNat_natCast, str_size, str_from, hd, word_len p c t hp hc hcp]
  congr 1
theorem space_f (l : List UInt8) (a : Nat) (ha : a ≤ l.length) (hl : l.length < 4294967281) : token_Spaces.f (str l) (a : Int) = some ((a + spaceLen (l.drop a) : Nat) : Int) := by
  unfold token_Spaces.f
  rw [if_pos ⟨by omega, by rw [str_size]; omega, by rw [str_size]; exact hl⟩, Int.toNat_natCast, str_data]
  congr 1
theorem target_q : token_Target.f (str [113]) = some true := by decide +kernel
theorem aside_pi (k : Nat) (s : List UInt8) (hl : s.length ≤ 60) : ∃ tz, token_Next.f (k + 1) (str ([60, 63, 113, 32, 120] ++ s ++ [63, 62])) 0 = some (5, str [113], str (Lib.cut (120 :: s ++ (qq ++ [])) qq).1, [], false, tz, 0) ∧ ((Lib.cut (120 :: s ++ (qq ++ [])) qq).1 = 120 :: s → tz = ((s.length + 7 : Nat) : Int)) := by
  have hz : ([60, 63, 113, 32, 120] ++ s ++ [63, 62] : List UInt8).length = s.length + 7 := by simp
  have hd4 : List.drop 4 ([60, 63, 113, 32, 120] ++ s ++ [63, 62]) = 120 :: s ++ (qq ++ []) := by simp [qq]
  have hc2 : (Lib.cut (120 :: s ++ (qq ++ [])) qq).2.2 = true := by
    have hc : 0 ≤ Lib.index (120 :: s ++ (qq ++ [])) qq := by
      rcases Lib.index_spec (120 :: s ++ (qq ++ [])) qq with ⟨h1, h2⟩ | ⟨i, h1, _⟩
      · have := h2 (120 :: s).length (by simp)
        unfold Lib.occAt at this
        rw [List.drop_left' rfl] at this
        exact absurd this (by decide)
      · rw [h1]; omega
    unfold Lib.cut
    rw [if_pos hc]
  have e2 : wrap64 (((0 : Nat) : Int) + 2) = ((2 : Nat) : Int) := by unfold wrap64; omega
  have hone : oneL k ([60, 63, 113, 32, 120] ++ s ++ [63, 62]) 0 = token_pi.f (str ([60, 63, 113, 32, 120] ++ s ++ [63, 62])) ((0 : Nat) : Int) := by
    unfold oneL
    rw [if_neg, if_neg, if_pos]
    · rw [List.drop_zero]
      unfold pre
      rw [List.isPrefixOf_iff_prefix]
      exact ⟨[113, 32, 120] ++ s ++ [63, 62], by simp⟩
    · rw [List.drop_zero]
      intro h
      exact absurd h (by simp [pre, List.isPrefixOf])
    · rw [List.drop_zero]
      intro h
      exact absurd h (by simp [pre, List.isPrefixOf])
  have hW : token_Word.f (str ([60, 63, 113, 32, 120] ++ s ++ [63, 62])) ((2 : Nat) : Int) = some ((3 : Nat) : Int) :=
    word_f _ 2 (by omega) (by omega) [113] 32 (120 :: s ++ [63, 62]) (by simp) (by decide) (by decide) (by decide)
  have hS : token_Spaces.f (str ([60, 63, 113, 32, 120] ++ s ++ [63, 62])) ((3 : Nat) : Int) = some ((4 : Nat) : Int) := by
    rw [space_f _ 3 (by omega) (by omega)]
    have : List.drop 3 ([60, 63, 113, 32, 120] ++ s ++ [63, 62]) = 32 :: 120 :: (s ++ [63, 62]) := by simp
    rw [this]
    rfl
  refine ⟨((4 + (Lib.cut (120 :: s ++ (qq ++ [])) qq).1.length + qq.length : Nat) : Int), ((next_f k _ 0 (by omega)).trans ?_), fun he => by rw [he]; simp [qq]; omega⟩
  rw [hone]
  unfold token_pi.f
  rw [e2, hW, Option.bind_some, if_pos (by omega), if_pos (by omega), if_pos (by rw [str_size]; omega), hS, Option.bind_some, show (⟨#[63, 62]⟩ : ByteArray) = str qq from rfl, upto_f _ qq 4 (by omega) (by omega) (by decide), hd4, Option.bind_some]
  simp only [hc2, if_true]
  have he : (str ([60, 63, 113, 32, 120] ++ s ++ [63, 62])).extract (((2 : Nat) : Int)).toNat (((3 : Nat) : Int)).toNat = str [113] := by
    rw [Int.toNat_natCast, Int.toNat_natCast, str_ext]
    simp
  rw [he, target_q, Option.bind_some, if_pos rfl, if_pos (by omega)]
  rfl
/-! ### the law -/
theorem aside_step (k : Nat) (s : List UInt8) (hl : s.length ≤ 60) (b1 b2 b3 : Bool) (i : Nat) (hi : i + 1 < s.length) :
    brackenlaw10_TokenAside.l0 (k + 1) (str s) b1 b2 b3 (i : Int) = brackenlaw10_TokenAside.l0 k (str s) (b1 || pre dd (s.drop i)) (b2 || pre qq (s.drop i)) (b3 || pre cd (s.drop i)) ((i + 1 : Nat) : Int) := by
  have e1 : wrap64 ((i : Int) + 1) = ((i + 1 : Nat) : Int) := by rw [w64 _ (by omega) (by omega)]; omega
  have e2 : wrap64 ((i : Int) + 2) = ((i + 2 : Nat) : Int) := by rw [w64 _ (by omega) (by omega)]; omega
  have e3 : wrap64 ((i : Int) + 3) = ((i + 3 : Nat) : Int) := by rw [w64 _ (by omega) (by omega)]; omega
  have x2 : ((str s).extract ((i : Int)).toNat (((i + 2 : Nat) : Int)).toNat).toList = (s.drop i).take 2 := by
    rw [Int.toNat_natCast, Int.toNat_natCast, str_ext, str_toList, show i + 2 - i = 2 by omega]
  have x3 : ((str s).extract ((i : Int)).toNat (((i + 3 : Nat) : Int)).toNat).toList = (s.drop i).take 3 := by
    rw [Int.toNat_natCast, Int.toNat_natCast, str_ext, str_toList, show i + 3 - i = 3 by omega]
  have p1 : pre dd (s.drop i) = ((s.drop i).take 2 == [45, 45]) := pre_take _ _
  have p2 : pre qq (s.drop i) = ((s.drop i).take 2 == [63, 62]) := pre_take _ _
  have p3 : pre cd (s.drop i) = ((s.drop i).take 3 == [93, 93, 62]) := pre_take _ _
  have c1 : ((i + 1 : Nat) : Int) < ((str s).size : Int) := by rw [str_size]; omega
  have c0 : (0 : Int) ≤ (i : Int) := by omega
  have c2 : (i : Int) ≤ ((i + 2 : Nat) : Int) := by omega
  have c3 : (i : Int) ≤ ((i + 3 : Nat) : Int) := by omega
  have c4 : ((i + 2 : Nat) : Int) ≤ ((str s).size : Int) := by rw [str_size]; omega
  rw [brackenlaw10_TokenAside.l0, e1, e2, e3, if_pos c1, x2, x3, p1, p2]
  by_cases h3 : i + 2 < s.length
  · have c5 : ((i + 2 : Nat) : Int) < ((str s).size : Int) := by rw [str_size]; omega
    have c6 : ((i + 3 : Nat) : Int) ≤ ((str s).size : Int) := by rw [str_size]; omega
    rw [p3]
    cases b1 <;> cases b2 <;> cases b3
    all_goals simp only [Bool.false_eq_true, if_true, if_false, c0, c2, c3, c4, c5, c6, Bool.true_or, Bool.false_or]
  · have c5 : ¬ ((i + 2 : Nat) : Int) < ((str s).size : Int) := by rw [str_size]; omega
    have p4 : pre cd (s.drop i) = false := pre_short (by simp [cd]; omega)
    rw [p4]
    cases b1 <;> cases b2 <;> cases b3
    all_goals simp only [Bool.false_eq_true, if_true, if_false, c0, c2, c3, c4, c5, Bool.true_or, Bool.false_or]
theorem aside_j2 (k : Nat) (hk : 60 ≤ k) (s c2 c3 : List UInt8) (hl : s.length ≤ 60) (b2 b3 : Bool) (t2 t3 : Int) (y1 y2 : Int) (z1 z2 : ByteArray) (q1 q2 : List S42) (r1 r2 : Bool)
    (h2 : b2 = false → c2 = 120 :: s ∧ t2 = ((s.length + 7 : Nat) : Int)) (h3 : b3 = false → c3 = s ∧ t3 = ((s.length + 12 : Nat) : Int)) :
    brackenlaw10_TokenAside.j2 (k + 1) (str s) b2 b3 t2 0 t3 0 false y1 z1 (str c2) q1 r1 y2 z2 (str c3) q2 r2 = some true := by
  have T := told_k k hk
  have w7 : wrap64 ((s.length : Int) + 7) = ((s.length + 7 : Nat) : Int) := by rw [w64 _ (by omega) (by omega)]; omega
  have w12 : wrap64 ((s.length : Int) + 12) = ((s.length + 12 : Nat) : Int) := by rw [w64 _ (by omega) (by omega)]; omega
  rw [brackenlaw10_TokenAside.j2, if_neg (by decide)]
  simp only [str_size, w7, w12, T, Option.bind_some, if_true, str_toList]
  have F3 : b3 = true ∨ (c3 = s ∧ t3 = ((s.length + 12 : Nat) : Int)) := by cases b3; exact .inr (h3 rfl); exact .inl rfl
  have F2 : b2 = true ∨ (c2 = 120 :: s ∧ t2 = ((s.length + 7 : Nat) : Int)) := by cases b2; exact .inr (h2 rfl); exact .inl rfl
  have hx : ((⟨#[120]⟩ : ByteArray) ++ str s).toList = 120 :: s := by rw [show (⟨#[120]⟩ : ByteArray) = str [120] from rfl, str_app, str_toList]; rfl
  rw [hx]
  by_cases h0 : s.length = 0
  · have g0 : ¬ ((s.length : Int) > 0) := by omega
    have g1 : (s.length : Int) = 0 := by omega
    rcases F3 with rfl | ⟨rfl, rfl⟩ <;> rcases F2 with rfl | ⟨rfl, rfl⟩
    all_goals first | (simp [g1]; done) | (simp [g1]; omega)
  · have g0 : (s.length : Int) > 0 := by omega
    have g1 : ¬ ((s.length : Int) = 0) := by omega
    have w1 : wrap64 ((s.length : Int) - 1) = ((s.length - 1 : Nat) : Int) := by rw [w64 _ (by omega) (by omega)]; omega
    have g2 : (0 : Int) ≤ ((s.length - 1 : Nat) : Int) := by omega
    have g3 : ((s.length - 1 : Nat) : Int) < (s.length : Int) := by omega
    have g4 : 1 + s.length ≤ 9223372036854775807 := by omega
    simp only [w1, g0, g1, g2, g3, g4, if_true, if_false]
    generalize bt (str s) ((s.length - 1 : Nat) : Int) = B
    by_cases e1 : B = 93 <;> by_cases e2 : B = 63
    all_goals
      rcases F3 with rfl | ⟨rfl, rfl⟩ <;> rcases F2 with rfl | ⟨rfl, rfl⟩
    all_goals simp [e1, e2]
theorem aside_end (k : Nat) (hk : 65 ≤ k) (s : List UInt8) (hl : s.length ≤ 60) (b1 b2 b3 : Bool) (i : Nat) (hi : s.length ≤ i + 1) (hi2 : i ≤ 61)
    (h1 : b1 = false → ∀ j, j < s.length → pre dd ((s ++ (dd ++ [62])).drop j) = false) (h1' : b1 = true → ∃ j, j < s.length ∧ pre dd ((s ++ (dd ++ [62])).drop j) = true)
    (h2 : b2 = false → ∀ j, j < (120 :: s).length → pre qq ((120 :: s ++ (qq ++ [])).drop j) = false)
    (h3 : b3 = false → ∀ j, j < s.length → pre cd ((s ++ (cd ++ [])).drop j) = false) :
    brackenlaw10_TokenAside.l0 k (str s) b1 b2 b3 (i : Int) = some true := by
  obtain ⟨k, rfl⟩ : ∃ m, k = m + 3 := ⟨k - 3, by omega⟩
  have e1 : wrap64 ((i : Int) + 1) = ((i + 1 : Nat) : Int) := by rw [w64 _ (by omega) (by omega)]; omega
  obtain ⟨to1, ok1, n1, r1⟩ := aside_comment (k + 1) s hl
  obtain ⟨to2, n2, r2⟩ := aside_pi (k + 1) s hl
  obtain ⟨to3, n3, r3⟩ := aside_cdata (k + 1) s hl
  have w7 : wrap64 (((str s).size : Int) + 7) = ((s.length + 7 : Nat) : Int) := by rw [str_size, w64 _ (by omega) (by omega)]; omega
  have j2 := fun (y1 y2 : Int) (z1 z2 : ByteArray) (q1 q2 : List S42) (p1 p2 : Bool) => aside_j2 (k + 1) (by omega) s (Lib.cut (120 :: s ++ (qq ++ [])) qq).1 (Lib.cut (s ++ (cd ++ [])) cd).1 hl b2 b3 to2 to3 y1 y2 z1 z2 q1 q2 p1 p2
    (fun e => by have := (cut_behind _ _ _ (h2 e)).1; exact ⟨this, r2 this⟩) (fun e => by have := (cut_behind _ _ _ (h3 e)).1; exact ⟨this, r3 this⟩)
  rw [brackenlaw10_TokenAside.l0, e1, if_neg (by rw [str_size]; omega), if_pos (by rw [str_size]; omega), if_pos (by rw [str_size]; omega)]
  rw [show (⟨#[60, 33, 45, 45]⟩ : ByteArray) = str [60, 33, 45, 45] from rfl, show (⟨#[45, 45, 62]⟩ : ByteArray) = str [45, 45, 62] from rfl, str_app, str_app, n1]
  rw [show (⟨#[60, 63, 113, 32, 120]⟩ : ByteArray) = str [60, 63, 113, 32, 120] from rfl, show (⟨#[63, 62]⟩ : ByteArray) = str [63, 62] from rfl, str_app, str_app, n2]
  rw [show (⟨#[60, 33, 91, 67, 68, 65, 84, 65, 91]⟩ : ByteArray) = str [60, 33, 91, 67, 68, 65, 84, 65, 91] from rfl, show (⟨#[93, 93, 62]⟩ : ByteArray) = str [93, 93, 62] from rfl, str_app, str_app, n3]
  have z1 : 5 + (str s).size ≤ 9223372036854775807 := by rw [str_size]; omega
  have z2 : 5 + (str s).size + 2 ≤ 9223372036854775807 := by rw [str_size]; omega
  have z3 : 9 + (str s).size ≤ 9223372036854775807 := by rw [str_size]; omega
  have z4 : 9 + (str s).size + 3 ≤ 9223372036854775807 := by rw [str_size]; omega
  cases hb : b1 with
  | true =>
    obtain ⟨j, hj, hp⟩ := h1' hb
    have hne := cut_before s dd [62] j hj hp
    have hne2 : ((str (Lib.cut (s ++ (dd ++ [62])) dd).1).toList == (str s).toList) = false := by rw [str_toList, str_toList, beq_eq_false_iff_ne]; exact hne
    cases ok1
    · simp only [nextL, Option.bind_some, z1, z2, z3, z4, if_true, Bool.false_eq_true, if_false]
      rw [if_neg (by decide)]
      exact j2 _ _ _ _ _ _ _ _
    · simp only [nextL, Option.bind_some, z1, z2, z3, z4, if_true, hne2]
      exact j2 _ _ _ _ _ _ _ _
  | false =>
    have he := (cut_behind _ _ _ (h1 hb)).1
    obtain ⟨rfl, rfl⟩ := r1 he
    simp only [nextL, Option.bind_some, z1, z2, z3, z4, if_true, he, w7, Bool.false_eq_true, if_false]
    exact j2 _ _ _ _ _ _ _ _
theorem occ_cons (m : List UInt8) (c : UInt8) (s : List UInt8) (hc : ∀ l, pre m (c :: l) = false) (h : ∀ j, j < s.length → pre m (s.drop j) = false) : ∀ j, j < (c :: s).length → pre m ((c :: s).drop j) = false := by
  intro j hj
  cases j with
  | zero => exact hc s
  | succ j => exact h j (by simpa using hj)
theorem aside_loop (s : List UInt8) (hl : s.length ≤ 60) (b0 : Bool) (hb0 : b0 = true ↔ s.getLast? = some 45) : ∀ (d k i : Nat), s.length - i = d → i ≤ s.length → d + 70 < k →
    brackenlaw10_TokenAside.l0 k (str s) (b0 || occUpTo dd s i) (occUpTo qq s i) (occUpTo cd s i) (i : Int) = some true := by
  intro d
  induction d using Nat.strongRecOn with
  | _ d ih =>
    intro k i hd hi hk
    by_cases hlt : i + 1 < s.length
    · obtain ⟨k, rfl⟩ : ∃ m, k = m + 1 := ⟨k - 1, by omega⟩
      rw [aside_step k s hl _ _ _ i hlt, Bool.or_assoc]
      exact ih (d - 1) (by omega) k (i + 1) (by omega) (by omega) (by omega)
    · have hup : ∀ m : List UInt8, 2 ≤ m.length → ∀ b, occUpTo m s i = b → occUpTo m s s.length = b := by
        intro m hm b hb
        by_cases e : i = s.length
        · rw [← e]; exact hb
        · have e2 : s.length = i + 1 := by omega
          have : pre m (s.drop i) = false := pre_short (by simp; omega)
          rw [e2]
          show (occUpTo m s i || pre m (s.drop i)) = b
          rw [hb, this, Bool.or_false]
      refine aside_end k (by omega) s hl _ _ _ i (by omega) (by omega) ?_ ?_ ?_ ?_
      · intro h
        rw [Bool.or_eq_false_iff] at h
        refine no_two 45 45 s [62] (none_of (hup dd (by decide) _ h.2)) (.inr fun c hc e => ?_)
        rw [e] at hc
        rw [hb0.2 hc] at h
        cases h.1
      · intro h
        rw [Bool.or_eq_true] at h
        rcases h with h | h
        · have hla := hb0.1 h
          have hs0 : 0 < s.length := by cases s with | nil => cases hla | cons _ _ => simp
          refine ⟨s.length - 1, by omega, ?_⟩
          have hd1 : s.drop (s.length - 1) = [45] := by
            rw [List.getLast?_eq_getElem?] at hla
            rw [List.drop_eq_getElem_cons (by omega), List.drop_eq_nil_of_le (by omega)]
            have := List.getElem?_eq_getElem (l := s) (i := s.length - 1) (by omega)
            rw [hla] at this
            rw [← Option.some.inj this]
          rw [drop_app _ _ _ (by omega), hd1]
          rfl
        · obtain ⟨j, hj, hp⟩ := (occUpTo_iff dd s i).1 h
          have := pre_len hp
          simp [dd] at this
          refine ⟨j, by omega, ?_⟩
          rw [drop_app _ _ _ (by omega), pre_app (by simp [dd]; omega)]
          exact hp
      · intro h
        exact no_two 63 62 (120 :: s) [] (occ_cons _ _ _ (fun l => rfl) (none_of (hup qq (by decide) _ h))) (.inl (by decide))
      · intro h
        exact no_cd s [] (none_of (hup cd (by decide) _ h))
theorem aside_pure : brackenlaw10_TokenAside.Pure := by
  intro a0 _
  refine ⟨200, ?_⟩
  unfold brackenlaw10_TokenAside.f
  have ht := told_k 200 (by omega)
  obtain ⟨s, rfl⟩ : ∃ l, a0 = str l := ⟨_, of_str a0⟩
  rw [str_size]
  by_cases h1 : (s.length : Int) > 60
  · rw [if_pos h1, ht]; rfl
  · rw [if_neg h1]
    by_cases h2 : (s.length : Int) > 0
    · have w1 : wrap64 ((s.length : Int) - 1) = ((s.length - 1 : Nat) : Int) := by rw [w64 _ (by omega) (by omega)]; omega
      rw [if_pos h2, w1, if_pos (by omega), if_pos (by omega), brackenlaw10_TokenAside.j0, bt_str s (s.length - 1) (by omega)]
      have := aside_loop s (by omega) (((s[s.length - 1]'(by omega)).toNat : Int) == 45) (by
        rw [beq_iff_eq, List.getLast?_eq_getElem?, List.getElem?_eq_getElem (by omega)]
        constructor
        · intro h
          congr 1
          rw [← UInt8.toNat_inj]
          show _ = 45
          omega
        · intro h
          rw [Option.some.inj h]; rfl) s.length 199 0 (by omega) (by omega) (by omega)
      simpa [occUpTo] using this
    · rw [if_neg h2, brackenlaw10_TokenAside.j0]
      have hs : s = [] := by cases s with | nil => rfl | cons _ _ => simp at h2
      subst hs
      exact aside_loop [] (by simp) false (by simp) 0 199 0 rfl (by simp) (by omega)
end Go.Proofs.YtmjdjpelhhibgaaDoor.TP
