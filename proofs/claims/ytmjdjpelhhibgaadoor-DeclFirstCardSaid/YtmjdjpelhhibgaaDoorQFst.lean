/- DeclFirst: the law over the plain functions. -/
import Derived.Test.YtmjdjpelhhibgaaDoorQSym
import Derived.Test.YtmjdjpelhhibgaaDoorR3x5
namespace Go.Proofs.YtmjdjpelhhibgaaDoor.DP
open Go Go.RowKit Go.Proofs.YtmjdjpelhhibgaaDoor.Giv Go.Proofs.YtmjdjpelhhibgaaDoor.Spec Go.Proofs.YtmjdjpelhhibgaaDoor.DS Go.Proofs.YtmjdjpelhhibgaaDoor.R3 Go.Proofs.YtmjdjpelhhibgaaDoor.TP Go.Proofs.YtmjdjpelhhibgaaDoorW.PrintWords Go.Proofs.YtmjdjpelhhibgaaDoorW.PrintLast
set_option linter.unusedVariables false
set_option linter.unusedSimpArgs false
/-- A text without signs. -/
def plainL (l : List UInt8) : Bool := l.all fun c => !(c == 39) && (!(c == 60) && (!(c == 38) && !(c == 37)))
theorem plain_loop (l : List UInt8) (hl : l.length ≤ 1000) : ∀ (d i k : Nat), l.length - i = d → i ≤ l.length → d + 1 ≤ k → brackenlaw11_plain.l0 k (str l) (i : Int) = some (plainL (l.drop i))
  | d, i, 0, _, _, hk => by omega
  | d, i, k + 1, hd, hi, hk => by
    rw [brackenlaw11_plain.l0]
    by_cases h : i < l.length
    · have e : ∀ n : Nat, n < 256 → ((((l[i]).toNat : Int) = (n : Int)) ↔ l[i] = UInt8.ofNat n) := by
        intro n hn
        rw [← UInt8.toNat_inj, UInt8.toNat_ofNat']
        omega
      rw [if_pos (by rw [str_size]; omega), if_pos (by omega), bt_str l i h, List.drop_eq_getElem_cons h]
      have ih := plain_loop l hl (d - 1) (i + 1) k (by omega) (by omega) (by omega)
      have hw : wrap64 ((i : Int) + 1) = ((i + 1 : Nat) : Int) := w64 _ (by omega) (by omega)
      rw [hw, ih]
      have hc : plainL (l[i] :: l.drop (i + 1)) = ((!(l[i] == 39) && (!(l[i] == 60) && (!(l[i] == 38) && !(l[i] == 37)))) && plainL (l.drop (i + 1))) := by unfold plainL; rw [List.all_cons]
      rw [hc]
      have e39 : (((l[i]).toNat : Int) = 39) ↔ l[i] = 39 := e 39 (by decide)
      have e60 : (((l[i]).toNat : Int) = 60) ↔ l[i] = 60 := e 60 (by decide)
      have e38 : (((l[i]).toNat : Int) = 38) ↔ l[i] = 38 := e 38 (by decide)
      have e37 : (((l[i]).toNat : Int) = 37) ↔ l[i] = 37 := e 37 (by decide)
      by_cases c1 : l[i] = 39
      · rw [if_pos (e39.mpr c1), c1]; rfl
      · rw [if_neg (fun h => c1 (e39.mp h))]
        by_cases c2 : l[i] = 60
        · rw [if_pos (e60.mpr c2), c2]; rfl
        · rw [if_neg (fun h => c2 (e60.mp h))]
          by_cases c3 : l[i] = 38
          · rw [if_pos (e38.mpr c3), c3]; rfl
          · rw [if_neg (fun h => c3 (e38.mp h))]
            by_cases c4 : l[i] = 37
            · rw [if_pos (e37.mpr c4), c4]; rfl
            · rw [if_neg (fun h => c4 (e37.mp h))]
              simp [c1, c2, c3, c4]
    · rw [if_neg (by rw [str_size]; omega), List.drop_eq_nil_of_le (by omega)]
      rfl
theorem plain_fn (s : ByteArray) (hs : s.size ≤ 1000) (k : Nat) (hk : s.size + 1 ≤ k) : brackenlaw11_plain.f k s = some (plainL s.data.toList) := by
  have h := plain_loop s.data.toList hs s.data.toList.length 0 k rfl (Nat.zero_le _) hk
  exact h
structure Pl (a : List UInt8) : Prop where
  q : ∀ x ∈ a, x ≠ 39
  lt : ∀ x ∈ a, x ≠ 60
  am : ∀ x ∈ a, x ≠ 38
  pc : ∀ x ∈ a, x ≠ 37
theorem pl_of (a : List UInt8) (h : plainL a = true) : Pl a := by
  have h2 : ∀ x ∈ a, ¬ x = 39 ∧ ¬ x = 60 ∧ ¬ x = 38 ∧ ¬ x = 37 := by
    unfold plainL at h
    rw [List.all_eq_true] at h
    intro x hx
    simpa using h x hx
  exact ⟨fun x hx => (h2 x hx).1, fun x hx => (h2 x hx).2.1, fun x hx => (h2 x hx).2.2.1, fun x hx => (h2 x hx).2.2.2⟩
theorem ent_plain : ∀ (a : List UInt8) (b : Nat), Pl a → a.length < b → entR b a = some a
  | [], 0, _, h => by simp at h
  | [], b + 1, _, _ => rfl
  | c :: a, 0, _, h => by simp at h
  | c :: a, b + 1, hp, h => by
    have h1 : ¬ ((c == 37) = true) := by rw [beq_iff_eq]; exact hp.pc c (by simp)
    have h2 : ¬ ((c == 38) = true) := by rw [beq_iff_eq]; exact hp.am c (by simp)
    rw [entR, if_neg h1, if_neg h2, ent_plain a b ⟨fun x hx => hp.q x (by simp [hx]), fun x hx => hp.lt x (by simp [hx]), fun x hx => hp.am x (by simp [hx]), fun x hx => hp.pc x (by simp [hx])⟩ (by simp at h; omega)]
    rfl
theorem ent_p (a : List UInt8) (h : Pl a) : ent a = (a, true) := by
  unfold ent
  rw [ent_plain a _ h (by omega)]
  rfl
theorem no60 (a : List UInt8) (h : ∀ x ∈ a, x ≠ 60) : Lib.contains a [60] = false := by
  rw [DNames.contains_one]
  cases hc : a.contains 60 with
  | false => rfl
  | true => exact absurd rfl (h 60 (by simpa using hc))
/-! ### attributes -/
/-- A type of attributes, and what it is. -/
structure Ty (p : List UInt8) (v : Int) : Prop where
  a : asc p = true
  go : partL p = true
  v : (if (p == cdataM) = true then (1 : Int) else 2) = v
  is : (p == cdataM || toks.any fun t => p == t) = true
  fst : ∀ t, [40].isPrefixOf (p ++ 32 :: t) = false
  sp : ∀ t, gapX ⟨32 :: (p ++ t), false⟩ = ⟨p ++ t, false⟩
theorem ty_c : Ty [67, 68, 65, 84, 65] 1 := ⟨by decide +kernel, by decide, by decide, by decide, fun _ => rfl, fun _ => gap1 67 _ (by decide)⟩
theorem ty_i : Ty [73, 68] 2 := ⟨by decide +kernel, by decide, by decide, by decide, fun _ => rfl, fun _ => gap1 73 _ (by decide)⟩
theorem attX_t (el : List UInt8) (n : UInt8) (p a t : List UInt8) (v : Int) (hn : Nm n) (hp : Ty p v) (h : ∀ x ∈ a, x ≠ 39) (h6 : ∀ x ∈ a, x ≠ 60) :
    attX el ⟨n :: 32 :: (p ++ 32 :: 39 :: (a ++ 39 :: t)), false⟩ = (⟨el, [n], v, true, a⟩, ⟨t, false⟩) := by
  have e1 : wordX splitL ⟨n :: 32 :: (p ++ 32 :: 39 :: (a ++ 39 :: t)), false⟩ = ⟨32 :: (p ++ 32 :: 39 :: (a ++ 39 :: t)), false⟩ := wordX_t splitL [n] 32 _ hn.a (by decide +kernel) hn.spl
  have e2 : word ⟨n :: 32 :: (p ++ 32 :: 39 :: (a ++ 39 :: t)), false⟩ = [n] := word_t [n] 32 _ hn.a (by decide +kernel)
  have e3 : word ⟨p ++ 32 :: 39 :: (a ++ 39 :: t), false⟩ = p := word_t p 32 _ hp.a (by decide +kernel)
  have e4 : wordX partL ⟨p ++ 32 :: 39 :: (a ++ 39 :: t), false⟩ = ⟨32 :: 39 :: (a ++ 39 :: t), false⟩ := wordX_t partL p 32 _ hp.a (by decide +kernel) hp.go
  have e5 : kind ⟨p ++ 32 :: 39 :: (a ++ 39 :: t), false⟩ = v := by
    unfold kind
    simp only [hp.fst, Bool.and_false, Bool.false_eq_true, if_false, e3]
    exact hp.v
  have e6 : kindX ⟨p ++ 32 :: 39 :: (a ++ 39 :: t), false⟩ = ⟨32 :: 39 :: (a ++ 39 :: t), false⟩ := by
    unfold kindX
    simp only [hp.fst, Bool.and_false, Bool.false_eq_true, if_false, e3, e4]
    have := hp.is
    by_cases c : (p == cdataM) = true
    · rw [if_pos c]
    · rw [if_neg c, if_pos (by simpa [c] using this)]
  have e7 : gapX ⟨32 :: 39 :: (a ++ 39 :: t), false⟩ = ⟨39 :: (a ++ 39 :: t), false⟩ := gap1 39 _ (by decide)
  have e8 : has requiredM ⟨39 :: (a ++ 39 :: t), false⟩ = false := has_n _ _ _ _ (by decide)
  have e9 : has impliedM ⟨39 :: (a ++ 39 :: t), false⟩ = false := has_n _ _ _ _ (by decide)
  have e10 : has fixedM ⟨39 :: (a ++ 39 :: t), false⟩ = false := has_n _ _ _ _ (by decide)
  have e11 : valNone ⟨39 :: (a ++ 39 :: t), false⟩ = false := by unfold valNone; rw [e8, e9]; rfl
  have e12 : valY ⟨39 :: (a ++ 39 :: t), false⟩ = ⟨39 :: (a ++ 39 :: t), false⟩ := by unfold valY; rw [e10]; rfl
  have e13 : valS ⟨39 :: (a ++ 39 :: t), false⟩ = (true, a) := by unfold valS; rw [e11, e12, litS_t a t h]; rfl
  have e14 : valX ⟨39 :: (a ++ 39 :: t), false⟩ = ⟨t, false⟩ := by
    unfold valX
    rw [e8, e9, e12, litS_t a t h, litX_t a t h, no60 a h6]
    rfl
  unfold attX
  simp only [e1, e2, hp.sp, e5, e6, e7, e13, e14]
theorem atts_step (el : List UInt8) (b : Nat) (n : UInt8) (p a t : List UInt8) (v : Int) (al : List Att) (hn : Nm n) (h62 : (62 == n) = false) (hp : Ty p v) (h : ∀ x ∈ a, x ≠ 39) (h6 : ∀ x ∈ a, x ≠ 60) :
    attsR el (b + 1) ⟨32 :: n :: 32 :: (p ++ 32 :: 39 :: (a ++ 39 :: t)), false⟩ al = attsR el b ⟨t, false⟩ (addAtt al ⟨el, [n], v, true, a⟩) := by
  rw [attsR]
  simp only [Bool.false_eq_true, if_false, spaceX1 n _ hn.sp, has_n 62 [] n _ h62, space1 n _ hn.sp, Bool.not_true, failIf, Bool.or_false, attX_t el n p a t v hn hp h h6]
theorem atts_end (el : List UInt8) (b : Nat) (t : List UInt8) (al : List Att) : attsR el (b + 1) ⟨62 :: t, false⟩ al = (⟨t, false⟩, al) := by
  have e1 : spaceX ⟨62 :: t, false⟩ = ⟨62 :: t, false⟩ := spaceX0 62 t (by decide)
  have e2 : has [62] ⟨62 :: t, false⟩ = true := has_t [62] t
  have e3 : hasX [62] ⟨62 :: t, false⟩ = ⟨t, false⟩ := hasX_t [62] t
  rw [attsR]
  simp only [Bool.false_eq_true, if_false, e1, e2, e3, if_true]
theorem attsX_t (y : List UInt8) (t : List UInt8) (al al' : List Att) (h : ∀ n, attsR [114] (n + 3) ⟨32 :: y, false⟩ al = (⟨t, false⟩, al')) : attsX ⟨32 :: 114 :: 32 :: y, false⟩ al = (⟨t, false⟩, al') := by
  have e1 : gapX ⟨32 :: 114 :: 32 :: y, false⟩ = ⟨114 :: 32 :: y, false⟩ := gap1 114 _ (by decide)
  have e2 : wordX splitL ⟨114 :: 32 :: y, false⟩ = ⟨32 :: y, false⟩ := wordX_t splitL [114] 32 y (by decide +kernel) (by decide +kernel) (by decide +kernel)
  have e3 : word ⟨114 :: 32 :: y, false⟩ = [114] := word_t [114] 32 y (by decide +kernel) (by decide +kernel)
  unfold attsX
  simp only [e1, e2, e3]
  exact h _
theorem subR_att (b : Nat) (x t : List UInt8) (es : List Ent) (al al' : List Att) (h : attsX ⟨x, false⟩ al = (⟨t, false⟩, al')) :
    subR (b + 1) ⟨attlistM ++ x, false⟩ es al = subR b ⟨t, false⟩ es al' := by
  have e0 : spaceX ⟨attlistM ++ x, false⟩ = ⟨attlistM ++ x, false⟩ := spaceX0 60 _ (by decide)
  have e1 : has [93] ⟨attlistM ++ x, false⟩ = false := has_n 93 [] 60 _ (by decide)
  have e2 : has entityM ⟨attlistM ++ x, false⟩ = false := rfl
  rw [subR]
  simp only [e0, e1, e2, Bool.false_eq_true, if_false, has_t, if_true, hasX_t, h]
theorem nm_x : Nm 120 := ⟨by decide, by decide +kernel, by decide +kernel, by decide +kernel⟩
theorem nm_y : Nm 121 := ⟨by decide, by decide +kernel, by decide +kernel, by decide +kernel⟩
theorem nm_e : Nm 101 := ⟨by decide, by decide +kernel, by decide +kernel, by decide +kernel⟩
/-- The text between the signs. -/
def b4 (b : List UInt8) : List UInt8 := attlistM ++ (32 :: 114 :: 32 :: 121 :: 32 :: ([67, 68, 65, 84, 65] ++ 32 :: 39 :: ([113] ++ 39 :: (32 :: 120 :: 32 :: ([73, 68] ++ 32 :: 39 :: (b ++ 39 :: 62 :: [93, 62]))))))
def b3 (a b : List UInt8) : List UInt8 := attlistM ++ (32 :: 114 :: 32 :: 120 :: 32 :: ([67, 68, 65, 84, 65] ++ 32 :: 39 :: (a ++ 39 :: 62 :: b4 b)))
def b2 (a b : List UInt8) : List UInt8 := entityM ++ (32 :: 101 :: 32 :: 39 :: (b ++ 39 :: 62 :: b3 a b))
def b1 (a b : List UInt8) : List UInt8 := entityM ++ (32 :: 101 :: 32 :: 39 :: (a ++ 39 :: 62 :: b2 a b))
def docT (a b : List UInt8) : List UInt8 := doctypeM ++ (32 :: 114 :: 32 :: 91 :: b1 a b)
theorem sub_first (a b : List UInt8) (ha : Pl a) (hb : Pl b) (n : Nat) : subR (n + 5) ⟨b1 a b, false⟩ [] [] =
    some (⟨[62], false⟩, [⟨[101], a, false⟩], [⟨[114], [120], 1, true, a⟩, ⟨[114], [121], 1, true, [113]⟩]) := by
  have h1 := subR_ent (n + 4) 101 a a (b2 a b) [] [] nm_e ha.q (ent_p a ha)
  have h2 := subR_ent (n + 3) 101 b b (b3 a b) (addEnt [] ⟨[101], a, false⟩) [] nm_e hb.q (ent_p b hb)
  have a3 : attsX ⟨32 :: 114 :: 32 :: 120 :: 32 :: ([67, 68, 65, 84, 65] ++ 32 :: 39 :: (a ++ 39 :: 62 :: b4 b)), false⟩ [] = (⟨b4 b, false⟩, [⟨[114], [120], 1, true, a⟩]) := by
    refine attsX_t _ _ _ _ fun m => ?_
    rw [show m + 3 = (m + 2) + 1 from rfl, atts_step [114] (m + 2) 120 [67, 68, 65, 84, 65] a (62 :: b4 b) 1 [] nm_x (by decide) ty_c ha.q ha.lt, show m + 2 = (m + 1) + 1 from rfl, atts_end]
    rfl
  have a4 : attsX ⟨32 :: 114 :: 32 :: 121 :: 32 :: ([67, 68, 65, 84, 65] ++ 32 :: 39 :: ([113] ++ 39 :: (32 :: 120 :: 32 :: ([73, 68] ++ 32 :: 39 :: (b ++ 39 :: 62 :: [93, 62]))))), false⟩ [⟨[114], [120], 1, true, a⟩] =
      (⟨[93, 62], false⟩, [⟨[114], [120], 1, true, a⟩, ⟨[114], [121], 1, true, [113]⟩]) := by
    refine attsX_t _ _ _ _ fun m => ?_
    rw [show m + 3 = (m + 2) + 1 from rfl, atts_step [114] (m + 2) 121 [67, 68, 65, 84, 65] [113] (32 :: 120 :: 32 :: ([73, 68] ++ 32 :: 39 :: (b ++ 39 :: 62 :: [93, 62]))) 1 _ nm_y (by decide) ty_c (by decide) (by decide),
      show m + 2 = (m + 1) + 1 from rfl, atts_step [114] (m + 1) 120 [73, 68] b (62 :: [93, 62]) 2 _ nm_x (by decide) ty_i hb.q hb.lt, atts_end]
    rfl
  have h3 := subR_att (n + 2) _ _ (addEnt (addEnt [] ⟨[101], a, false⟩) ⟨[101], b, false⟩) _ _ a3
  have h4 := subR_att (n + 1) _ _ (addEnt (addEnt [] ⟨[101], a, false⟩) ⟨[101], b, false⟩) _ _ a4
  have h5 := subR_end n [62] (addEnt (addEnt [] ⟨[101], a, false⟩) ⟨[101], b, false⟩) [⟨[114], [120], 1, true, a⟩, ⟨[114], [121], 1, true, [113]⟩]
  rw [show n + 5 = (n + 4) + 1 from rfl]
  unfold b1
  rw [h1, show n + 4 = (n + 3) + 1 from rfl]
  unfold b2
  rw [h2, show n + 3 = (n + 2) + 1 from rfl]
  unfold b3
  rw [h3, show n + 2 = (n + 1) + 1 from rfl]
  unfold b4
  rw [h4, h5]
  rfl
theorem doc_first (a b : List UInt8) (ha : Pl a) (hb : Pl b) : doc (docT a b) = some ⟨[114], [⟨[101], a, false⟩], [⟨[114], [120], 1, true, a⟩, ⟨[114], [121], 1, true, [113]⟩], ((docT a b).length : Int), 0⟩ := by
  refine doc_t _ (b1 a b) _ _ _ ?_ ?_ (sub_first a b ha hb) (by simp [b1]; omega)
  · rw [gap1 _ _ (by decide)]
    exact word_t [114] 32 _ (by decide +kernel) (by decide +kernel)
  · rw [gap1 _ _ (by decide)]
    have e : wordX splitL ⟨114 :: 32 :: 91 :: b1 a b, false⟩ = _ := wordX_t splitL [114] 32 _ (by decide +kernel) (by decide +kernel) (by decide +kernel)
    rw [e]
    have e2 : external ⟨91 :: b1 a b, false⟩ = false := by
      unfold external systemM publicM
      rw [has_n _ _ _ _ (by decide), has_n _ _ _ _ (by decide)]; rfl
    unfold doc1
    rw [spaceX1 _ _ (by decide), e2, Bool.and_false, if_neg (by decide)]
theorem first_text (a b : List UInt8) : ((((((((⟨#[60, 33, 68, 79, 67, 84, 89, 80, 69, 32, 114, 32, 91, 60, 33, 69, 78, 84, 73, 84, 89, 32, 101, 32, 39]⟩ : ByteArray) ++ str a) ++ (⟨#[39, 62, 60, 33, 69, 78, 84, 73, 84, 89, 32, 101, 32, 39]⟩ : ByteArray)) ++ str b) ++ (⟨#[39, 62, 60, 33, 65, 84, 84, 76, 73, 83, 84, 32, 114, 32, 120, 32, 67, 68, 65, 84, 65, 32, 39]⟩ : ByteArray)) ++ str a) ++ (⟨#[39, 62, 60, 33, 65, 84, 84, 76, 73, 83, 84, 32, 114, 32, 121, 32, 67, 68, 65, 84, 65, 32, 39, 113, 39, 32, 120, 32, 73, 68, 32, 39]⟩ : ByteArray)) ++ str b) ++ (⟨#[39, 62, 93, 62]⟩ : ByteArray) = str (docT a b) := by
  have h1 : (⟨#[60, 33, 68, 79, 67, 84, 89, 80, 69, 32, 114, 32, 91, 60, 33, 69, 78, 84, 73, 84, 89, 32, 101, 32, 39]⟩ : ByteArray) = str [60, 33, 68, 79, 67, 84, 89, 80, 69, 32, 114, 32, 91, 60, 33, 69, 78, 84, 73, 84, 89, 32, 101, 32, 39] := rfl
  have h2 : (⟨#[39, 62, 60, 33, 69, 78, 84, 73, 84, 89, 32, 101, 32, 39]⟩ : ByteArray) = str [39, 62, 60, 33, 69, 78, 84, 73, 84, 89, 32, 101, 32, 39] := rfl
  have h3 : (⟨#[39, 62, 60, 33, 65, 84, 84, 76, 73, 83, 84, 32, 114, 32, 120, 32, 67, 68, 65, 84, 65, 32, 39]⟩ : ByteArray) = str [39, 62, 60, 33, 65, 84, 84, 76, 73, 83, 84, 32, 114, 32, 120, 32, 67, 68, 65, 84, 65, 32, 39] := rfl
  have h4 : (⟨#[39, 62, 60, 33, 65, 84, 84, 76, 73, 83, 84, 32, 114, 32, 121, 32, 67, 68, 65, 84, 65, 32, 39, 113, 39, 32, 120, 32, 73, 68, 32, 39]⟩ : ByteArray) = str [39, 62, 60, 33, 65, 84, 84, 76, 73, 83, 84, 32, 114, 32, 121, 32, 67, 68, 65, 84, 65, 32, 39, 113, 39, 32, 120, 32, 73, 68, 32, 39] := rfl
  have h5 : (⟨#[39, 62, 93, 62]⟩ : ByteArray) = str [39, 62, 93, 62] := rfl
  rw [h1, h2, h3, h4, h5, str_app, str_app, str_app, str_app, str_app, str_app, str_app, str_app]
  congr 1
  simp [docT, b1, b2, b3, b4, doctypeM, entityM, attlistM]
theorem first_told (k : Nat) (a b : ByteArray) : brackenlaw11_DeclFirst.j0 (k + 1) a b true = some true := by
  rw [brackenlaw11_DeclFirst.j0, if_pos rfl, told_true]
  rfl
theorem first_main (k : Nat) (a b : List UInt8) (ha : Pl a) (hb : Pl b) (la : a.length ≤ 30) (lb : b.length ≤ 30) : brackenlaw11_DeclFirst.j0 (k + 1) (str a) (str b) false = some true := by
  have hl : (docT a b).length = 103 + 2 * a.length + 2 * b.length - 5 := by
    simp [docT, b1, b2, b3, b4, doctypeM, entityM, attlistM]; omega
  have fd := doc_f (docT a b) (by omega) _ (doc_first a b ha hb)
  rw [brackenlaw11_DeclFirst.j0, if_neg (by decide), first_text, str_size, str_size, fd, told_true]
  have g1 : 25 + a.length ≤ 9223372036854775807 := by omega
  have g2 : 25 + a.length + 14 ≤ 9223372036854775807 := by omega
  have g3 : 25 + a.length + 14 + b.length ≤ 9223372036854775807 := by omega
  have g4 : 25 + a.length + 14 + b.length + 23 ≤ 9223372036854775807 := by omega
  have g5 : 25 + a.length + 14 + b.length + 23 + a.length ≤ 9223372036854775807 := by omega
  have g6 : 25 + a.length + 14 + b.length + 23 + a.length + 32 ≤ 9223372036854775807 := by omega
  have g7 : 25 + a.length + 14 + b.length + 23 + a.length + 32 + b.length ≤ 9223372036854775807 := by omega
  have g8 : 25 + a.length + 14 + b.length + 23 + a.length + 32 + b.length + 4 ≤ 9223372036854775807 := by omega
  simp only [Option.bind_some, if_pos g1, if_pos g2, if_pos g3, if_pos g4, if_pos g5, if_pos g6, if_pos g7, if_pos g8]
  simp [docS, eS, aS, rd_T52, rd_T58, bs, str, ByteArray.toList_eq, ByteArray.size]
theorem first_pure : brackenlaw11_DeclFirst.Pure := by
  intro a b _ _
  refine ⟨a.size + b.size + 2, ?_⟩
  unfold brackenlaw11_DeclFirst.f
  by_cases h1 : (a.size : Int) > 30
  · rw [if_pos h1]; exact first_told _ a b
  · rw [if_neg h1]
    by_cases h2 : (b.size : Int) > 30
    · rw [if_pos h2]; exact first_told _ a b
    · rw [if_neg h2, plain_fn a (by omega) _ (by omega), plain_fn b (by omega) _ (by omega)]
      simp only [Option.bind_some]
      cases pa : plainL a.data.toList with
      | false => rw [if_neg (by decide)]; exact first_told _ a b
      | true =>
        rw [if_pos rfl]
        cases pb : plainL b.data.toList with
        | false => exact first_told _ a b
        | true =>
          have za : a.size = a.data.toList.length := rfl
          have zb : b.size = b.data.toList.length := rfl
          exact first_main _ a.data.toList b.data.toList (pl_of _ pa) (pl_of _ pb) (by omega) (by omega)
end Go.Proofs.YtmjdjpelhhibgaaDoor.DP
