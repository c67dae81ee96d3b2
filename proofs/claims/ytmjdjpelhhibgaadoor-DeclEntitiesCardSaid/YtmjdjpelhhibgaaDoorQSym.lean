/- What the reader of what stands ahead comes to on texts of which a part is any text: plain steps. -/
import Derived.Test.YtmjdjpelhhibgaaDoorR3x3
namespace Go.Proofs.YtmjdjpelhhibgaaDoor.DP
open Go Go.RowKit Go.Proofs.YtmjdjpelhhibgaaDoor.Giv Go.Proofs.YtmjdjpelhhibgaaDoor.Spec Go.Proofs.YtmjdjpelhhibgaaDoor.DS Go.Proofs.YtmjdjpelhhibgaaDoor.R3 Go.Proofs.YtmjdjpelhhibgaaDoor.TP Go.Proofs.YtmjdjpelhhibgaaDoorW.PrintWords Go.Proofs.YtmjdjpelhhibgaaDoorW.PrintLast
set_option linter.unusedVariables false
set_option linter.unusedSimpArgs false
set_option maxRecDepth 100000 in
theorem told_true : brackenlaw11_told.f = some true := by decide +kernel
theorem wrap_nat (x : Int) : ∃ m : Nat, IntKind.u64.wrap x = (m : Int) ∧ m < 18446744073709551616 := by
  have hw : 0 ≤ IntKind.u64.wrap x ∧ IntKind.u64.wrap x < 18446744073709551616 := by unfold IntKind.wrap; simp [IntKind.bits, IntKind.signed]; omega
  exact ⟨(IntKind.u64.wrap x).toNat, by omega, by omega⟩
theorem wrap_small (m : Nat) (h : m < 1000) : IntKind.u64.wrap (m : Int) = (m : Int) := by unfold IntKind.wrap; simp [IntKind.bits, IntKind.signed]; omega
/-- What a law takes of a number: one of n; the number may be that one itself. -/
theorem tm (n : Nat) (hn : 0 < n) (h2 : n < 1000) (x : Int) : ∃ i : Fin n, Int.tmod (IntKind.u64.wrap x) (n : Int) = (i.val : Int) ∧ Int.tmod (IntKind.u64.wrap (i.val : Int)) (n : Int) = (i.val : Int) := by
  obtain ⟨m, hm, _⟩ := wrap_nat x
  refine ⟨⟨m % n, Nat.mod_lt _ hn⟩, ?_, ?_⟩
  · rw [hm]; rfl
  · have : m % n < n := Nat.mod_lt _ hn
    rw [wrap_small _ (by simp only; omega)]
    show ((m % n % n : Nat) : Int) = _
    rw [Nat.mod_mod]
theorem word_from (c : UInt8) (t : List UInt8) (hc : c.toNat < 128) (hcp : partB (c.toNat : Int) = false) : ∀ (p q : List UInt8) (b : Nat), (∀ x ∈ p, x.toNat < 128 ∧ partB (x.toNat : Int) = true) → p.length < b → wordFrom (str (q ++ (p ++ c :: t))) b q.length = q.length + p.length
  | [], q, b, _, hb => by
    obtain ⟨b, rfl⟩ : ∃ m, b = m + 1 := ⟨b - 1, by simp at hb; omega⟩
    have hq : q.length < (str (q ++ ([] ++ c :: t))).size := by rw [str_size]; simp
    have hg : (str (q ++ ([] ++ c :: t)))[q.length]'hq = c := by
      have h1 := Lib.data_getElem? _ q.length hq
      rw [str_data] at h1
      simpa using h1.symm
    have hdec : Utf8.decode (str (q ++ ([] ++ c :: t))) q.length = (c.toNat, 1) := by
      rw [decode_ascii _ q.length hq (by rw [hg]; exact hc), hg]
    rw [wordFrom, if_pos hq, hdec]
    simp only [hcp, Bool.and_false, Bool.false_eq_true, if_false]
    simp
  | x :: p, q, b, hp, hb => by
    obtain ⟨b, rfl⟩ : ∃ m, b = m + 1 := ⟨b - 1, by simp at hb; omega⟩
    obtain ⟨x1, x2⟩ := hp x (by simp)
    have hq : q.length < (str (q ++ (x :: p ++ c :: t))).size := by rw [str_size]; simp
    have hg : (str (q ++ (x :: p ++ c :: t)))[q.length]'hq = x := by
      have h1 := Lib.data_getElem? _ q.length hq
      rw [str_data] at h1
      simpa using h1.symm
    have hdec : Utf8.decode (str (q ++ (x :: p ++ c :: t))) q.length = (x.toNat, 1) := by
      rw [decode_ascii _ q.length hq (by rw [hg]; exact x1), hg]
    have hok : okAt (str (q ++ (x :: p ++ c :: t))) q.length = true := by
      unfold okAt
      rw [hdec]
      simp
      omega
    rw [wordFrom, if_pos hq, hok, hdec]
    simp only [x2, Bool.and_self, if_true]
    have e : q ++ (x :: p ++ c :: t) = (q ++ [x]) ++ (p ++ c :: t) := by simp
    have ih := word_from c t hc hcp p (q ++ [x]) b (fun y hy => hp y (by simp [hy])) (by simp at hb; omega)
    rw [e]
    rw [List.length_append, List.length_singleton] at ih
    rw [ih]
    simp
    omega
def asc (p : List UInt8) : Bool := p.all fun x => decide (x.toNat < 128) && partB (x.toNat : Int)
theorem wl_t (p : List UInt8) (c : UInt8) (t : List UInt8) (hp : asc p = true) (hc : (decide (c.toNat < 128) && !partB (c.toNat : Int)) = true) : wl (p ++ c :: t) = p.length := by
  have h2 : c.toNat < 128 ∧ partB (c.toNat : Int) = false := by simpa using hc
  have h1 : ∀ x ∈ p, x.toNat < 128 ∧ partB (x.toNat : Int) = true := by unfold asc at hp; simpa using hp
  have := word_from c t h2.1 h2.2 p [] (str (p ++ c :: t)).size h1 (by rw [str_size]; simp)
  show wordFrom (str (p ++ c :: t)) (str (p ++ c :: t)).size 0 = _
  simpa using this
theorem has_t (m t : List UInt8) : has m ⟨m ++ t, false⟩ = true := by
  unfold has
  rw [Bool.not_false, Bool.true_and, List.isPrefixOf_iff_prefix]
  exact List.prefix_append _ _
theorem hasX_t (m t : List UInt8) : hasX m ⟨m ++ t, false⟩ = ⟨t, false⟩ := by
  unfold hasX
  rw [if_pos (has_t m t), List.drop_left]
theorem mustX_t (m t : List UInt8) : mustX m ⟨m ++ t, false⟩ = ⟨t, false⟩ := by
  unfold mustX
  rw [if_pos (has_t m t), List.drop_left]
theorem has_n (d : UInt8) (m : List UInt8) (c : UInt8) (t : List UInt8) (h : (d == c) = false) : has (d :: m) ⟨c :: t, false⟩ = false := by
  unfold has
  rw [List.isPrefixOf_cons_cons, h]
  rfl
abbrev noSp (c : UInt8) : Prop := spaceB (c.toNat : Int) = false
theorem len0 (c : UInt8) (t : List UInt8) (h : noSp c) : spaceLen (c :: t) = 0 := by
  unfold spaceLen
  rw [List.takeWhile_cons, h]
  rfl
theorem len1 (c : UInt8) (t : List UInt8) (h : noSp c) : spaceLen (32 :: c :: t) = 1 := by
  unfold spaceLen
  rw [List.takeWhile_cons, show spaceB ((32 : UInt8).toNat : Int) = true by decide, if_pos rfl, List.takeWhile_cons, h]
  rfl
theorem space0 (c : UInt8) (t : List UInt8) (h : noSp c) : space ⟨c :: t, false⟩ = false := by unfold space; rw [len0 c t h]; rfl
theorem spaceX0 (c : UInt8) (t : List UInt8) (h : noSp c) : spaceX ⟨c :: t, false⟩ = ⟨c :: t, false⟩ := by unfold spaceX; rw [if_neg (show ¬ (false = true) by decide), len0 c t h]; rfl
theorem space1 (c : UInt8) (t : List UInt8) (h : noSp c) : space ⟨32 :: c :: t, false⟩ = true := by unfold space; rw [len1 c t h]; rfl
theorem spaceX1 (c : UInt8) (t : List UInt8) (h : noSp c) : spaceX ⟨32 :: c :: t, false⟩ = ⟨c :: t, false⟩ := by unfold spaceX; rw [if_neg (show ¬ (false = true) by decide), len1 c t h]; rfl
theorem gap1 (c : UInt8) (t : List UInt8) (h : noSp c) : gapX ⟨32 :: c :: t, false⟩ = ⟨c :: t, false⟩ := by unfold gapX; rw [if_pos (space1 c t h), spaceX1 c t h]
theorem word_t (p : List UInt8) (c : UInt8) (t : List UInt8) (hp : asc p = true) (hc : (decide (c.toNat < 128) && !partB (c.toNat : Int)) = true) : word ⟨p ++ c :: t, false⟩ = p := by
  unfold word
  rw [if_neg (show ¬ (false = true) by decide), wl_t p c t hp hc, List.take_left]
theorem wordX_t (good : List UInt8 → Bool) (p : List UInt8) (c : UInt8) (t : List UInt8) (hp : asc p = true) (hc : (decide (c.toNat < 128) && !partB (c.toNat : Int)) = true) (hg : good p = true) : wordX good ⟨p ++ c :: t, false⟩ = ⟨c :: t, false⟩ := by
  unfold wordX
  rw [if_neg (show ¬ (false = true) by decide), word_t p c t hp hc, hg, wl_t p c t hp hc, List.drop_left]
  rfl
theorem find_t (a t : List UInt8) (q : UInt8) (h : ∀ x ∈ a, x ≠ q) : (a ++ q :: t).findIdx? (· == q) = some a.length := by
  have h0 : a.findIdx? (· == q) = none := List.findIdx?_eq_none_iff.mpr fun x hx => by rw [beq_eq_false_iff_ne]; exact h x hx
  rw [List.findIdx?_append, h0]
  simp [List.findIdx?_cons]
theorem cut_t (a t : List UInt8) (q : UInt8) (h : ∀ x ∈ a, x ≠ q) : Lib.cut (a ++ q :: t) [q] = (a, t, true) := by
  rw [DNames.cut_one, find_t a t q h]
  simp
theorem lit_t (a t : List UInt8) (h : ∀ x ∈ a, x ≠ 39) : lit (39 :: (a ++ 39 :: t)) = some a := by
  simp only [lit]
  rw [cut_t a t 39 h]
  rfl
theorem litX_t (a t : List UInt8) (h : ∀ x ∈ a, x ≠ 39) : litX ⟨39 :: (a ++ 39 :: t), false⟩ = ⟨t, false⟩ := by
  unfold litX
  rw [lit_t a t h]
  simp
theorem litS_t (a t : List UInt8) (h : ∀ x ∈ a, x ≠ 39) : litS ⟨39 :: (a ++ 39 :: t), false⟩ = a := by
  unfold litS
  rw [lit_t a t h]
  rfl
/-! ### an entity that is declared -/
structure Nm (n : UInt8) : Prop where
  sp : noSp n
  a : asc [n] = true
  nc : ncL [n] = true
  spl : splitL [n] = true
theorem entX_t (n : UInt8) (a v t : List UInt8) (hn : Nm n) (h : ∀ x ∈ a, x ≠ 39) (hv : ent a = (v, true)) :
    entX ⟨32 :: n :: 32 :: 39 :: (a ++ 39 :: 62 :: t), false⟩ = (⟨[n], v, false⟩, ⟨t, false⟩) := by
  have e1 : gapX ⟨32 :: n :: 32 :: 39 :: (a ++ 39 :: 62 :: t), false⟩ = ⟨n :: 32 :: 39 :: (a ++ 39 :: 62 :: t), false⟩ := gap1 _ _ hn.sp
  have e2 : word ⟨n :: 32 :: 39 :: (a ++ 39 :: 62 :: t), false⟩ = [n] := word_t [n] 32 _ hn.a (by decide +kernel)
  have e3 : wordX ncL ⟨n :: 32 :: 39 :: (a ++ 39 :: 62 :: t), false⟩ = ⟨32 :: 39 :: (a ++ 39 :: 62 :: t), false⟩ := wordX_t ncL [n] 32 _ hn.a (by decide +kernel) hn.nc
  have e4 : entA ⟨32 :: n :: 32 :: 39 :: (a ++ 39 :: 62 :: t), false⟩ = ⟨39 :: (a ++ 39 :: 62 :: t), false⟩ := by unfold entA; rw [e1, e3]; exact gap1 _ _ (by decide)
  have e5 : external ⟨39 :: (a ++ 39 :: 62 :: t), false⟩ = false := by
    unfold external systemM publicM
    rw [has_n _ _ _ _ (by decide), has_n _ _ _ _ (by decide)]; rfl
  unfold entX
  simp only [e4, e5, entNm, e1, e2, litS_t _ _ h, hv, litX_t _ _ h, Bool.false_eq_true, if_false, failIf, Bool.not_true, Bool.or_false]
  rw [spaceX0 62 t (by decide)]
  exact congrArg _ (mustX_t [62] t)
theorem subR_ent (b : Nat) (n : UInt8) (a v t : List UInt8) (es : List Ent) (al : List Att) (hn : Nm n) (h : ∀ x ∈ a, x ≠ 39) (hv : ent a = (v, true)) :
    subR (b + 1) ⟨entityM ++ (32 :: n :: 32 :: 39 :: (a ++ 39 :: 62 :: t)), false⟩ es al = subR b ⟨t, false⟩ (addEnt es ⟨[n], v, false⟩) al := by
  have e0 : spaceX ⟨entityM ++ (32 :: n :: 32 :: 39 :: (a ++ 39 :: 62 :: t)), false⟩ = ⟨entityM ++ (32 :: n :: 32 :: 39 :: (a ++ 39 :: 62 :: t)), false⟩ := spaceX0 60 _ (by decide)
  have e1 : has [93] ⟨entityM ++ (32 :: n :: 32 :: 39 :: (a ++ 39 :: 62 :: t)), false⟩ = false := has_n 93 [] 60 _ (by decide)
  rw [subR]
  simp only [e0, e1, Bool.false_eq_true, if_false, has_t, if_true, hasX_t, entX_t n a v t hn h hv]
theorem subR_end (b : Nat) (t : List UInt8) (es : List Ent) (al : List Att) : subR (b + 1) ⟨93 :: t, false⟩ es al = some (⟨t, false⟩, es, al) := by
  have e0 : spaceX ⟨93 :: t, false⟩ = ⟨93 :: t, false⟩ := spaceX0 93 _ (by decide)
  have e1 : has [93] ⟨93 :: t, false⟩ = true := has_t [93] t
  have e2 : hasX [93] ⟨93 :: t, false⟩ = ⟨t, false⟩ := hasX_t [93] t
  rw [subR]
  simp only [e0, e1, e2, Bool.false_eq_true, if_false, if_true]
/-! ### the whole -/
theorem doc_t (x y : List UInt8) (nm : List UInt8) (es : List Ent) (al : List Att) (hx : word (gapX ⟨x, false⟩) = nm) (hd : doc1 (wordX splitL (gapX ⟨x, false⟩)) = ⟨91 :: y, false⟩)
    (h : ∀ n, subR (n + 5) ⟨y, false⟩ [] [] = some (⟨[62], false⟩, es, al)) (hy : 0 < y.length) : doc (doctypeM ++ x) = some ⟨nm, es, al, ((doctypeM ++ x).length : Int), 0⟩ := by
  have e0 : doctypeM.isPrefixOf (doctypeM ++ x) = true := by rw [List.isPrefixOf_iff_prefix]; exact List.prefix_append _ _
  have e1 : (doctypeM ++ x).drop 9 = x := List.drop_left (l₁ := doctypeM)
  have e2 : has [91] ⟨91 :: y, false⟩ = true := has_t [91] y
  have e3 : hasX [91] ⟨91 :: y, false⟩ = ⟨y, false⟩ := hasX_t [91] y
  have e4 : spaceX ⟨[62], false⟩ = ⟨[62], false⟩ := spaceX0 62 [] (by decide)
  have e5 : mustX [62] ⟨[62], false⟩ = ⟨[], false⟩ := mustX_t [62] []
  have e6 : doc2 ⟨91 :: y, false⟩ = some (⟨[62], false⟩, es, al) := by
    unfold doc2
    rw [if_pos e2, e3]
    have := h (y.length - 1)
    rw [show y.length - 1 + 5 = (91 :: y).length + 3 by simp; omega] at this
    simp only [this, Option.map_some, e4]
  unfold doc
  rw [if_pos e0, e1]
  simp only [hx, hd, e6, Option.map_some, doc3, e5, Bool.false_eq_true, if_false]
  simp
theorem doc_f (l : List UInt8) (hl : l.length < 1000000) (R : DocR) (h : doc l = some R) : decl_Doctype.f (str l) 0 = some (docS R) := by
  unfold decl_Doctype.f
  rw [if_pos ⟨rfl, by rw [str_size]; omega⟩, str_data, h]
  rfl
end Go.Proofs.YtmjdjpelhhibgaaDoor.DP
