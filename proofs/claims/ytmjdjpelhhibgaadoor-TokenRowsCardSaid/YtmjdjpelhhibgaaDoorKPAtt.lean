/- Attributes and starts: the printed functions over texts as lists of bytes. -/
import Derived.Test.YtmjdjpelhhibgaaDoorKPTold
namespace Go.Proofs.YtmjdjpelhhibgaaDoor.TA
open Go Go.RowKit Go.Proofs.YtmjdjpelhhibgaaDoor.Giv Go.Proofs.YtmjdjpelhhibgaaDoor.Spec Go.Proofs.YtmjdjpelhhibgaaDoor.R1 Go.Proofs.YtmjdjpelhhibgaaDoorW.PrintWords Go.Proofs.YtmjdjpelhhibgaaDoorW.PrintLast
open Go.Proofs.YtmjdjpelhhibgaaDoor.TP
set_option linter.unusedVariables false
set_option linter.unusedSimpArgs false
theorem index_behind (s m r : List UInt8) (hno : ∀ j, j < s.length → pre m ((s ++ (m ++ r)).drop j) = false) : Lib.index (s ++ (m ++ r)) m = (s.length : Int) := by
  refine Lib.index_first (by simp) ?_ fun j hj => hno j hj
  unfold Lib.occAt
  rw [List.isPrefixOf_iff_prefix, List.drop_left']
  · exact List.prefix_append _ _
  · rfl
theorem cut_behind (s m r : List UInt8) (hno : ∀ j, j < s.length → pre m ((s ++ (m ++ r)).drop j) = false) : (Lib.cut (s ++ (m ++ r)) m).1 = s ∧ (Lib.cut (s ++ (m ++ r)) m).2.2 = true := by
  unfold Lib.cut
  rw [index_behind s m r hno, if_pos (by omega)]
  simp
theorem word_from (c : UInt8) (t : List UInt8) (hc : c.toNat < 128) (hcp : partB (c.toNat : Int) = false) : ∀ (p q : List UInt8) (b : Nat), (∀ x ∈ p, x.toNat < 128 ∧ partB (x.toNat : Int) = true) → p.length < b → wordFrom (str (q ++ (p ++ c :: t))) b q.length = q.length + p.length
  | [], q, b, _, hb => by
    obtain ⟨b, rfl⟩ : ∃ m, b = m + 1 := ⟨b - 1, by simp at hb; omega⟩
    have hq : q.length < (str (q ++ ([] ++ c :: t))).size := by rw [str_size]; simp
    have hg : (str (q ++ ([] ++ c :: t)))[q.length]'hq = c := by
      have h1 := Lib.data_getElem? _ q.length hq
      rw [str_data] at h1
      simpa using h1.symm
    have hdec : Utf8.decode (str (q ++ ([] ++ c :: t))) q.length = (c.toNat, 1) := by
      rw [decode_ascii _ q.length hq (by rw [hg]; exact hc), hg]
    rw [wordFrom, if_pos hq, hdec]
    simp only [hcp, Bool.and_false, Bool.false_eq_true, if_false]
    simp
  | x :: p, q, b, hp, hb => by
    obtain ⟨b, rfl⟩ : ∃ m, b = m + 1 := ⟨b - 1, by simp at hb; omega⟩
    obtain ⟨x1, x2⟩ := hp x (by simp)
    have hq : q.length < (str (q ++ (x :: p ++ c :: t))).size := by rw [str_size]; simp
    have hg : (str (q ++ (x :: p ++ c :: t)))[q.length]'hq = x := by
      have h1 := Lib.data_getElem? _ q.length hq
      rw [str_data] at h1
      simpa using h1.symm
    have hdec : Utf8.decode (str (q ++ (x :: p ++ c :: t))) q.length = (x.toNat, 1) := by
      rw [decode_ascii _ q.length hq (by rw [hg]; exact x1), hg]
    have hok : okAt (str (q ++ (x :: p ++ c :: t))) q.length = true := by
      unfold okAt
      rw [hdec]
      simp
      omega
    rw [wordFrom, if_pos hq, hok, hdec]
    simp only [x2, Bool.and_self, if_true]
    have e : q ++ (x :: p ++ c :: t) = (q ++ [x]) ++ (p ++ c :: t) := by simp
    have ih := word_from c t hc hcp p (q ++ [x]) b (fun y hy => hp y (by simp [hy])) (by simp at hb; omega)
    rw [e]
    rw [List.length_append, List.length_singleton] at ih
    rw [ih]
    simp
    omega
theorem word_len (p : List UInt8) (c : UInt8) (t : List UInt8) (hp : ∀ x ∈ p, x.toNat < 128 ∧ partB (x.toNat : Int) = true) (hc : c.toNat < 128) (hcp : partB (c.toNat : Int) = false) : wordLen (str (p ++ c :: t)) = p.length := by
  have := word_from c t hc hcp p [] (str (p ++ c :: t)).size hp (by rw [str_size]; simp)
  unfold wordLen
  simpa using this
theorem word_f (l : List UInt8) (a : Nat) (ha : a ≤ l.length) (hl : l.length < 4294967281) (p : List UInt8) (c : UInt8) (t : List UInt8) (hd : l.drop a = p ++ c :: t) (hp : ∀ x ∈ p, x.toNat < 128 ∧ partB (x.toNat : Int) = true) (hc : c.toNat < 128) (hcp : partB (c.toNat : Int) = false) :
    token_Word.f (str l) (a : Int) = some ((a + p.length : Nat) : Int) := by
  unfold token_Word.f
  rw [if_pos ⟨by omega, by rw [str_size]; omega, by rw [str_size]; exact hl⟩, Int.toNat_natCast, str_size, str_from, hd, word_len p c t hp hc hcp]
  congr 1
theorem space_f (l : List UInt8) (a : Nat) (ha : a ≤ l.length) (hl : l.length < 4294967281) : token_Spaces.f (str l) (a : Int) = some ((a + spaceLen (l.drop a) : Nat) : Int) := by
  unfold token_Spaces.f
  rw [if_pos ⟨by omega, by rw [str_size]; omega, by rw [str_size]; exact hl⟩, Int.toNat_natCast, str_data]
  congr 1
theorem spaceLen_behind (s : List UInt8) (c : UInt8) (t : List UInt8) (hs : ∀ x ∈ s, spaceB (x.toNat : Int) = true) (hc : spaceB (c.toNat : Int) = false) : spaceLen (s ++ c :: t) = s.length := by
  unfold spaceLen
  induction s with
  | nil => rw [List.nil_append, List.takeWhile_cons, if_neg (by rw [hc]; decide)]
  | cons x s ih =>
    rw [List.cons_append, List.takeWhile_cons, if_pos (hs x (by simp)), List.length_cons, ih fun y hy => hs y (by simp [hy]), List.length_cons]
theorem drop_more {T x y : List UInt8} {a : Nat} (h : T.drop a = x ++ y) : T.drop (a + x.length) = y := by
  rw [← List.drop_drop, h, List.drop_left]
theorem len_of {T x : List UInt8} {a : Nat} (ha : a ≤ T.length) (h : T.drop a = x) : T.length = a + x.length := by
  have := congrArg List.length h
  rw [List.length_drop] at this
  omega
theorem ext_of {T x y : List UInt8} {a : Nat} (h : T.drop a = x ++ y) : (str T).extract ((a : Int)).toNat (((a + x.length : Nat) : Int)).toNat = str x := by
  rw [Int.toNat_natCast, Int.toNat_natCast, str_ext, h, Nat.add_sub_cancel_left, List.take_left]
theorem from_of {T y : List UInt8} {a : Nat} (h : T.drop a = y) : (str T).extract ((a : Int)).toNat (str T).size = str y := by
  rw [Int.toNat_natCast, str_size, str_from, h]
theorem bt_of {T t : List UInt8} {a : Nat} {c : UInt8} (h : T.drop a = c :: t) : bt (str T) (a : Int) = (c.toNat : Int) := by
  have hlt : a < T.length := by
    by_cases e : a < T.length
    · exact e
    · rw [List.drop_eq_nil_of_le (by omega)] at h; cases h
  rw [bt_str T a hlt]
  rw [List.drop_eq_getElem_cons hlt] at h
  rw [(List.cons.inj h).1]
theorem none_lt (v : List UInt8) (hv : ∀ x ∈ v, x ≠ 60) : Lib.contains v [60] = false := by
  rw [contains_occ [60] v (by decide)]
  cases h : occUpTo [60] v v.length with
  | false => rfl
  | true =>
    obtain ⟨j, hj, ho⟩ := (occUpTo_iff [60] v v.length).1 h
    unfold Lib.occAt at ho
    rw [List.drop_eq_getElem_cons hj, List.isPrefixOf_cons_cons] at ho
    have : v[j] ≠ 60 := hv _ (List.getElem_mem hj)
    have h2 : ((60 : UInt8) == v[j]) = false := by rw [beq_eq_false_iff_ne]; exact fun e => this e.symm
    rw [h2] at ho; cases ho
theorem attr_j1 (k : Nat) (T : List UInt8) (a : Nat) (ha : a ≤ T.length) (hT : T.length < 4294967281) (Q : UInt8) (v t : List UInt8) (hd : T.drop a = Q :: (v ++ ([Q] ++ t))) (hv : ∀ x ∈ v, x ≠ Q ∧ x ≠ 60) (n1 n2 : ByteArray) :
    token_attr.j1 (k + 1) (str T) (a : Int) false n1 n2 = some (n1, str v, ((a + 1 + v.length + 1 : Nat) : Int), true) := by
  have hl := len_of ha hd
  simp only [List.length_cons, List.length_append, List.length_nil] at hl
  have e1 : wrap64 ((a : Int) + 1) = ((a + 1 : Nat) : Int) := by rw [w64 _ (by omega) (by omega)]; omega
  have hd1 : T.drop (a + 1) = v ++ ([Q] ++ t) := drop_more (x := [Q]) (y := v ++ ([Q] ++ t)) hd
  have hq : (str T).extract ((a : Int)).toNat (((a + 1 : Nat) : Int)).toNat = str [Q] := ext_of (x := [Q]) (y := v ++ ([Q] ++ t)) hd
  obtain ⟨c1, c2⟩ := cut_behind v [Q] t (by
    intro j hj
    rw [List.drop_append_of_le_length (by omega), List.drop_eq_getElem_cons hj]
    show pre [Q] (v[j] :: _) = false
    unfold pre
    rw [List.isPrefixOf_cons_cons]
    have : (Q == v[j]) = false := by rw [beq_eq_false_iff_ne]; exact fun e => (hv _ (List.getElem_mem hj)).1 e.symm
    rw [this]; rfl)
  rw [token_attr.j1, if_neg (by decide), if_pos (by omega), e1, if_pos (by omega), if_pos (by rw [str_size]; omega), hq, upto_f T [Q] (a + 1) (by omega) hT (by simp), hd1, Option.bind_some]
  simp only [c2, c1, if_true]
  unfold strings_Contains.f
  rw [if_pos (by rw [str_size]; omega), Option.bind_some, str_data]
  rw [show Lib.contains v (⟨#[60]⟩ : ByteArray).data.toList = false from none_lt v fun x hx => (hv x hx).2]
  rfl
/-- An attribute as it is written, and what stands behind it. -/
def attrB (nm s1 s2 : List UInt8) (Q : UInt8) (v : List UInt8) : List UInt8 := nm ++ (s1 ++ (61 :: (s2 ++ (Q :: (v ++ [Q])))))
theorem attrB_app (nm s1 s2 : List UInt8) (Q : UInt8) (v t : List UInt8) : attrB nm s1 s2 Q v ++ t = nm ++ (s1 ++ (61 :: (s2 ++ (Q :: (v ++ ([Q] ++ t)))))) := by simp [attrB]
theorem attrB_len (nm s1 s2 : List UInt8) (Q : UInt8) (v : List UInt8) : (attrB nm s1 s2 Q v).length = nm.length + s1.length + 1 + s2.length + 1 + v.length + 1 := by simp only [attrB, List.length_append, List.length_cons, List.length_nil]; omega
theorem attr_f (k : Nat) (T : List UInt8) (a : Nat) (ha : a ≤ T.length) (hT : T.length < 4294967281) (nm s1 s2 v t : List UInt8) (Q : UInt8) (hd : T.drop a = attrB nm s1 s2 Q v ++ t)
    (hnm : ∀ x ∈ nm, x.toNat < 128 ∧ partB (x.toNat : Int) = true) (hN : runes_Name.f (str nm) = some true) (hs1 : ∀ x ∈ s1, x = 32) (hs2 : ∀ x ∈ s2, x = 32 ∨ x = 9) (hQ : Q = 39 ∨ Q = 34) (hv : ∀ x ∈ v, x ≠ Q ∧ x ≠ 60) :
    token_attr.f (k + 2) (str T) (a : Int) = some (str nm, str v, ((a + (attrB nm s1 s2 Q v).length : Nat) : Int), true) := by
  rw [attrB_app] at hd
  have hl := len_of ha hd
  rw [attrB_len]
  simp only [List.length_cons, List.length_append, List.length_nil] at hl
  obtain ⟨R, hR⟩ : ∃ R, s2 ++ (Q :: (v ++ ([Q] ++ t))) = R := ⟨_, rfl⟩
  rw [hR] at hd
  obtain ⟨c, r, hcr, hc⟩ : ∃ c r, s1 ++ (61 :: R) = c :: r ∧ (c = 32 ∨ c = 61) := by
    cases s1 with
    | nil => exact ⟨61, R, rfl, .inr rfl⟩
    | cons x s => exact ⟨x, s ++ 61 :: R, rfl, .inl (hs1 x (by simp))⟩
  have hW : token_Word.f (str T) (a : Int) = some ((a + nm.length : Nat) : Int) := word_f T a ha hT nm c r (by rw [hd, hcr]) hnm (by rcases hc with rfl | rfl <;> decide) (by rcases hc with rfl | rfl <;> decide)
  have hd1 : T.drop (a + nm.length) = s1 ++ (61 :: R) := drop_more hd
  have hS1 : token_Spaces.f (str T) ((a + nm.length : Nat) : Int) = some ((a + nm.length + s1.length : Nat) : Int) := by
    rw [space_f T (a + nm.length) (by omega) hT, hd1, spaceLen_behind s1 61 R (fun x hx => by rw [hs1 x hx]; decide) (by decide)]
  have hd2 : T.drop (a + nm.length + s1.length) = 61 :: R := drop_more hd1
  have hd3 : T.drop (a + nm.length + s1.length + 1) = R := drop_more (x := [61]) (y := R) hd2
  have e1 : wrap64 (((a + nm.length + s1.length : Nat) : Int) + 1) = ((a + nm.length + s1.length + 1 : Nat) : Int) := by rw [w64 _ (by omega) (by omega)]; omega
  have hQs : spaceB (Q.toNat : Int) = false := by rcases hQ with rfl | rfl <;> decide
  have hS2 : token_Spaces.f (str T) ((a + nm.length + s1.length + 1 : Nat) : Int) = some ((a + nm.length + s1.length + 1 + s2.length : Nat) : Int) := by
    rw [space_f T _ (by omega) hT, hd3, ← hR, spaceLen_behind s2 Q _ (fun x hx => by rcases hs2 x hx with rfl | rfl <;> decide) hQs]
  have hd4 : T.drop (a + nm.length + s1.length + 1 + s2.length) = Q :: (v ++ ([Q] ++ t)) := drop_more (x := s2) (y := Q :: (v ++ ([Q] ++ t))) (by rw [hd3, hR])
  have hj := fun n1 n2 => attr_j1 k T _ (by omega) hT Q v t hd4 hv n1 n2
  unfold token_attr.f
  rw [hW, Option.bind_some, if_pos (by omega), if_pos (by omega), if_pos (by rw [str_size]; omega), hS1, Option.bind_some, ext_of hd, hN, Option.bind_some, if_pos rfl, if_pos (by omega), if_pos (by rw [str_size]; omega), from_of hd2,
    show strings_HasPrefix.f (str (61 :: R)) ⟨#[61]⟩ = some true from by
      show some (List.isPrefixOf [61] (61 :: R)) = some true
      simp, Option.bind_some, token_attr.j0, if_neg (by decide), e1, hS2, Option.bind_some, if_neg (by rw [str_size]; omega), if_pos (by omega), if_pos (by rw [str_size]; omega), bt_of hd4, hj]
  have hne : (((Q.toNat : Int)) != 39) = false ∨ (Q.toNat : Int) = 34 := by rcases hQ with rfl | rfl; exact .inl rfl; exact .inr rfl
  have ht : ((a + nm.length + s1.length + 1 + s2.length + 1 + v.length + 1 : Nat) : Int) = ((a + (nm.length + s1.length + 1 + s2.length + 1 + v.length + 1) : Nat) : Int) := by omega
  rw [← ht]
  by_cases h34 : (Q.toNat : Int) = 34
  · rw [if_pos h34]
  · rw [if_neg h34, hne.resolve_right h34, hj]
/-! ### a start -/
def nm (i : Nat) : List UInt8 := [120, UInt8.ofNat (97 + i)]
def pa : List UInt8 := [112, 58, 97]
theorem nm_ok : ∀ i, i < 8 → ((nm i).all fun x => decide (x.toNat < 128) && partB (x.toNat : Int)) = true ∧ runes_Name.f (str (nm i)) = some true := by decide +kernel
theorem pa_ok : runes_Name.f (str pa) = some true := by decide +kernel
theorem nm_mem {i : Nat} (hi : i < 8) : ∀ x ∈ nm i, x.toNat < 128 ∧ partB (x.toNat : Int) = true := fun x hx => by
  have := List.all_eq_true.1 (nm_ok i hi).1 x hx
  rw [Bool.and_eq_true, decide_eq_true_eq] at this
  exact this
def gapP (g : List UInt8) : Prop := ∀ x ∈ g, x = 32 ∨ x = 10
theorem gap_space {g : List UInt8} (h : gapP g) : ∀ x ∈ g, spaceB (x.toNat : Int) = true := fun x hx => by rcases h x hx with rfl | rfl <;> decide
structure Sty where
  (g s1 s2 v : List UInt8) (Q : UInt8)
  hg : gapP g
  hg0 : g ≠ []
  hs1 : ∀ x ∈ s1, x = 32
  hs2 : ∀ x ∈ s2, x = 32 ∨ x = 9
  hQ : Q = 39 ∨ Q = 34
  hv : ∀ x ∈ v, x ≠ Q ∧ x ≠ 60
def Sty.A (S : Sty) (i : Nat) : List UInt8 := attrB (nm i) S.s1 S.s2 S.Q S.v
/-- n attributes from the i-th on, and what is behind. -/
def Sty.tl (S : Sty) (Z : List UInt8) : Nat → Nat → List UInt8
  | 0, _ => Z
  | n + 1, i => S.g ++ (S.A i ++ S.tl Z n (i + 1))
def Sty.raw (S : Sty) (i : Nat) : S42 := ⟨str (nm i), str S.v⟩
def fin (e : Bool) : List UInt8 := if e = true then [47, 62] else [62]
theorem hp_cons (p l : List UInt8) : strings_HasPrefix.f (str l) (str p) = some (pre p l) := rfl
theorem pre_ne {p c : UInt8} {ps l : List UInt8} (h : p ≠ c) : pre (p :: ps) (c :: l) = false := by
  unfold pre
  rw [List.isPrefixOf_cons_cons]
  have : (p == c) = false := by rw [beq_eq_false_iff_ne]; exact h
  rw [this]; rfl
theorem start_end (k : Nat) (T : List UInt8) (a : Nat) (ha : a ≤ T.length) (hT : T.length < 4294967281) (zs rest : List UInt8) (e : Bool) (hz : gapP zs) (hd : T.drop a = zs ++ (fin e ++ rest)) (n0 n1 : ByteArray) (ys : List S42) :
    token_start.l0 (k + 1) (str T) (a : Int) 2 n0 n1 ys false = some (2, n0, n1, ys, e, ((a + zs.length + (fin e).length : Nat) : Int), true) := by
  have hl := len_of ha hd
  simp only [List.length_append] at hl
  obtain ⟨c, r, hcr, hc⟩ : ∃ c r, fin e ++ rest = c :: r ∧ (c = 47 ∨ c = 62) := by
    cases e
    · exact ⟨62, rest, rfl, .inr rfl⟩
    · exact ⟨47, 62 :: rest, rfl, .inl rfl⟩
  have hS : token_Spaces.f (str T) (a : Int) = some ((a + zs.length : Nat) : Int) := by
    rw [space_f T a ha hT, hd, hcr, spaceLen_behind zs c r (gap_space hz) (by rcases hc with rfl | rfl <;> decide)]
  have hd1 : T.drop (a + zs.length) = fin e ++ rest := drop_more hd
  have hp : ∀ p, strings_HasPrefix.f (str (fin e ++ rest)) (str p) = some (pre p (fin e ++ rest)) := fun p => rfl
  rw [token_start.l0, hS, Option.bind_some, if_pos (by omega), if_pos (by rw [str_size]; omega), from_of hd1, show (⟨#[47, 62]⟩ : ByteArray) = str [47, 62] from rfl, show (⟨#[62]⟩ : ByteArray) = str [62] from rfl, hp, hp, Option.bind_some, Option.bind_some]
  cases e
  · have p1 : pre [47, 62] (fin false ++ rest) = false := pre_ne (by decide)
    have p2 : pre [62] (fin false ++ rest) = true := by simp [pre, fin]
    have hf : (fin false).length = 1 := rfl
    rw [p1, p2, if_neg (by decide), if_pos rfl, w64 _ (by omega) (by rw [hf] at hl; omega)]
    rfl
  · have p1 : pre [47, 62] (fin true ++ rest) = true := by simp [pre, fin]
    have hf : (fin true).length = 2 := rfl
    rw [p1, if_pos rfl, w64 _ (by omega) (by rw [hf] at hl; omega)]
    rfl
theorem start_loop (S : Sty) (T zs rest : List UInt8) (e : Bool) (hT : T.length < 4294967281) (hz : gapP zs) (n0 n1 : ByteArray) : ∀ (n i a k : Nat) (ys : List S42), i + n ≤ 8 → ys.length + n ≤ 8 → a ≤ T.length → T.drop a = S.tl (zs ++ (fin e ++ rest)) n i →
    token_start.l0 (k + n + 3) (str T) (a : Int) 2 n0 n1 ys false = some (2, n0, n1, ys ++ (List.range' i n).map S.raw, e, ((T.length - rest.length : Nat) : Int), true) := by
  intro n
  induction n with
  | zero =>
    intro i a k ys _ _ ha hd
    have hl := len_of ha hd
    rw [start_end (k + 2) T a ha hT zs rest e hz hd]
    simp only [Sty.tl, List.length_append] at hl
    rw [show a + zs.length + (fin e).length = T.length - rest.length by omega]
    simp
  | succ n ih =>
    intro i a k ys hi has ha hd
    have hl := len_of ha hd
    simp only [Sty.tl, List.length_append] at hl
    have hgl : 0 < S.g.length := List.length_pos_iff.2 S.hg0
    obtain ⟨R, hR⟩ : ∃ R, S.tl (zs ++ (fin e ++ rest)) n (i + 1) = R := ⟨_, rfl⟩
    have hd0 : T.drop a = S.g ++ (S.A i ++ R) := by rw [hd, ← hR]; rfl
    obtain ⟨r, hr⟩ : ∃ r, S.A i ++ R = 120 :: r := ⟨_, rfl⟩
    have hd1 : T.drop (a + S.g.length) = S.A i ++ R := drop_more hd0
    have hd2 : T.drop (a + S.g.length + (S.A i).length) = R := drop_more hd1
    have hS : token_Spaces.f (str T) (a : Int) = some ((a + S.g.length : Nat) : Int) := by
      rw [space_f T a ha hT, hd0, hr, spaceLen_behind S.g 120 r (gap_space S.hg) (by decide)]
    have hA := attr_f (k + n + 1) T (a + S.g.length) (by omega) hT (nm i) S.s1 S.s2 S.v R S.Q hd1 (nm_mem (by omega)) (nm_ok i (by omega)).2 S.hs1 S.hs2 S.hQ S.hv
    have hp : ∀ p, strings_HasPrefix.f (str (S.A i ++ R)) (str p) = some (pre p (S.A i ++ R)) := fun p => rfl
    have hrec := ih (i + 1) (a + S.g.length + (S.A i).length) k (ys ++ [S.raw i]) (by omega) (by simp; omega) (by omega) (by rw [hd2, hR])
    rw [show k + (n + 1) + 3 = (k + n + 3) + 1 by omega, token_start.l0, hS, Option.bind_some, if_pos (by omega), if_pos (by rw [str_size]; omega), from_of hd1, show (⟨#[47, 62]⟩ : ByteArray) = str [47, 62] from rfl, show (⟨#[62]⟩ : ByteArray) = str [62] from rfl, hp, hp, Option.bind_some, Option.bind_some]
    rw [hr, pre_ne (by decide), pre_ne (by decide), if_neg (by decide), if_neg (by decide), if_neg (by omega), show k + n + 3 = k + n + 1 + 2 by omega, hA, Option.bind_some]
    simp only [if_true]
    rw [if_pos (by omega)]
    refine Eq.trans ?_ (hrec.trans ?_)
    · rfl
    · rw [List.range'_succ, List.map_cons, List.append_assoc]; rfl
theorem tl_head (S : Sty) (zs rest : List UInt8) (e : Bool) (hz : gapP zs) (n i : Nat) : ∃ c r, S.tl (zs ++ (fin e ++ rest)) n i = c :: r ∧ (c = 32 ∨ c = 10 ∨ c = 47 ∨ c = 62) := by
  have fe : ∃ c r, fin e ++ rest = c :: r ∧ (c = 32 ∨ c = 10 ∨ c = 47 ∨ c = 62) := by
    cases e
    · exact ⟨62, rest, rfl, by simp⟩
    · exact ⟨47, 62 :: rest, rfl, by simp⟩
  cases n with
  | zero =>
    show ∃ c r, zs ++ (fin e ++ rest) = c :: r ∧ _
    cases zs with
    | nil => exact fe
    | cons x s => exact ⟨x, s ++ (fin e ++ rest), rfl, by rcases hz x (by simp) with h | h <;> simp [h]⟩
  | succ n =>
    show ∃ c r, S.g ++ (S.A i ++ S.tl (zs ++ (fin e ++ rest)) n (i + 1)) = c :: r ∧ _
    obtain ⟨g, s1, s2, v, Q, hg, hg0, _, _, _, _⟩ := S
    cases g with
    | nil => exact absurd rfl hg0
    | cons x s => exact ⟨x, _, rfl, by rcases hg x (by simp) with h | h <;> simp [h]⟩
theorem start_f (S : Sty) (zs rest : List UInt8) (e : Bool) (hz : gapP zs) (n k : Nat) (hn : n ≤ 8) (hT : (60 :: pa ++ S.tl (zs ++ (fin e ++ rest)) n 0).length < 4294967281) :
    token_Next.f (k + n + 4) (str (60 :: pa ++ S.tl (zs ++ (fin e ++ rest)) n 0)) 0 = some (2, str pa, ⟨#[]⟩, (List.range' 0 n).map S.raw, e, (((60 :: pa ++ S.tl (zs ++ (fin e ++ rest)) n 0).length - rest.length : Nat) : Int), 0) := by
  obtain ⟨T, hTe⟩ : ∃ T, 60 :: pa ++ S.tl (zs ++ (fin e ++ rest)) n 0 = T := ⟨_, rfl⟩
  obtain ⟨c, r, hcr, hc⟩ := tl_head S zs rest e hz n 0
  have hl : 4 ≤ T.length := by rw [← hTe]; simp [pa]
  have hd1 : T.drop 1 = pa ++ (c :: r) := by rw [← hTe, hcr]; rfl
  have hd4 : T.drop 4 = S.tl (zs ++ (fin e ++ rest)) n 0 := by rw [← hTe]; rfl
  have hone : oneL (k + n + 3) T 0 = token_start.f (k + n + 3) (str T) ((0 : Nat) : Int) := by
    unfold oneL
    rw [List.drop_zero, ← hTe]
    rfl
  have hW : token_Word.f (str T) ((1 : Nat) : Int) = some ((1 + pa.length : Nat) : Int) :=
    word_f T 1 (by omega) (by rw [← hTe]; exact hT) pa c r hd1 (by decide) (by rcases hc with rfl | rfl | rfl | rfl <;> decide) (by rcases hc with rfl | rfl | rfl | rfl <;> decide)
  have e1 : wrap64 (((0 : Nat) : Int) + 1) = ((1 : Nat) : Int) := by unfold wrap64; omega
  have hpl : pa.length = 3 := rfl
  rw [hTe] at hT ⊢
  refine (next_f (k + n + 3) T 0 (by omega)).trans ?_
  rw [hone]
  unfold token_start.f
  rw [e1, hW, Option.bind_some, if_pos (by omega), if_pos (by omega), if_pos (by rw [str_size]; omega), ext_of hd1, pa_ok, Option.bind_some, if_pos rfl, hpl, start_loop S T zs rest e hT hz _ _ n 0 4 k [] (by omega) (by simp; omega) (by omega) hd4]
  rfl
end Go.Proofs.YtmjdjpelhhibgaaDoor.TA
