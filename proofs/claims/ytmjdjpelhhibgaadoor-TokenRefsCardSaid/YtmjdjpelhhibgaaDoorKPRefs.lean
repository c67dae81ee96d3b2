/- The plain law of TokenRefs. -/
import Derived.Test.YtmjdjpelhhibgaaDoorKPTold
import Derived.Test.YtmjdjpelhhibgaaDoorR1x12
namespace Go.Proofs.YtmjdjpelhhibgaaDoor.TP
open Go Go.RowKit Go.Proofs.YtmjdjpelhhibgaaDoor.Giv Go.Proofs.YtmjdjpelhhibgaaDoor.Spec Go.Proofs.YtmjdjpelhhibgaaDoor.R1 Go.Proofs.YtmjdjpelhhibgaaDoorW.PrintWords Go.Proofs.YtmjdjpelhhibgaaDoorW.PrintLast
set_option linter.unusedVariables false
/-! ### the value of digits -/
def M : Int := 1114112
def sat (base : Int) (r : Int) (b : UInt8) : Int := min (r * base + digitV (b.toNat : Int)) M
def Digit (base : Int) (b : UInt8) : Prop := b.toNat < 128 ∧ 0 ≤ digitV (b.toNat : Int) ∧ digitV (b.toNat : Int) < base
theorem crAll_digits (base : Int) (p l : List UInt8) : ∀ (l q : List UInt8) (b : Nat) (r : Int), p = q ++ l → l.length ≤ b → (∀ c ∈ l, Digit base c) → crAll base (str p) b q.length r = some (l.foldl (sat base) r) := by
  intro l
  induction l with
  | nil =>
    intro q b r hp hb hd
    rw [crAll_end _ _ _ _ _ (by rw [str_size, hp]; simp)]
    rfl
  | cons c l ih =>
    intro q b r hp hb hd
    obtain ⟨d1, d2, d3⟩ := hd c (by simp)
    obtain ⟨b, rfl⟩ : ∃ m, b = m + 1 := ⟨b - 1, by simp at hb; omega⟩
    have hq : q.length < p.length := by rw [hp]; simp
    have hg : (str p)[q.length]'(by rw [str_size]; exact hq) = c := by
      have h1 := Lib.data_getElem? (str p) q.length (by rw [str_size]; exact hq)
      have h2 : (str p).data.toList[q.length]? = some c := by rw [str_data, hp]; simp
      exact Option.some.inj (h1.symm.trans h2)
    have hdec : Utf8.decode (str p) q.length = (c.toNat, 1) := by
      rw [decode_ascii (str p) q.length (by rw [str_size]; exact hq) (by rw [hg]; exact d1), hg]
    rw [crAll, if_pos (by rw [str_size]; exact hq), hdec]
    simp only
    rw [if_neg (by omega)]
    have := ih (q ++ [c]) b (min (r * base + digitV (c.toNat : Int)) 1114112) (by rw [hp]; simp) (by simpa using hb) (fun x hx => hd x (by simp [hx]))
    rw [List.length_append, List.length_singleton] at this
    rw [this]
    rfl
def val (base : Int) (r : Int) (l : List UInt8) : Int := l.foldl (fun r b => r * base + digitV (b.toNat : Int)) r
theorem sat_val (base : Int) (hb : 1 ≤ base) (hb2 : base ≤ 16) : ∀ (l : List UInt8) (r : Int), 0 ≤ r → (∀ c ∈ l, Digit base c) → l.foldl (sat base) (min r M) = min (val base r l) M
  | [], r, _, _ => rfl
  | c :: l, r, hr, hd => by
    obtain ⟨_, d2, d3⟩ := hd c (by simp)
    have e : sat base (min r M) c = min (r * base + digitV (c.toNat : Int)) M := by
      unfold sat M
      by_cases h : r ≤ 1114112
      · rw [show min r 1114112 = r by omega]
      · have h1 : r ≤ r * base := by
          have := Int.mul_le_mul_of_nonneg_left hb hr
          simpa using this
        have h2 : (1114112 : Int) ≤ 1114112 * base := by omega
        rw [show min r 1114112 = 1114112 by omega, show min (1114112 * base + digitV (c.toNat : Int)) 1114112 = 1114112 by omega, show min (r * base + digitV (c.toNat : Int)) 1114112 = 1114112 by omega]
    have hr2 : 0 ≤ r * base + digitV (c.toNat : Int) := by
      have := Int.mul_nonneg hr (show 0 ≤ base by omega)
      omega
    rw [List.foldl_cons, e, sat_val base hb hb2 l _ hr2 fun x hx => hd x (by simp [hx])]
    rfl
theorem val_snoc (base r : Int) (c : UInt8) (l : List UInt8) : val base r (c :: l) = val base (r * base + digitV (c.toNat : Int)) l := rfl
/-! ### references -/
theorem dig_facts {base : Int} {c : UInt8} (h : Digit base c) (hb : base ≤ 16) : c ≠ 59 ∧ c ≠ 120 := by
  constructor
  · rintro rfl
    have := h.2.1
    have e : digitV (((59 : UInt8)).toNat : Int) = -1 := by decide
    rw [e] at this; omega
  · rintro rfl
    have := h.2.1
    have e : digitV (((120 : UInt8)).toNat : Int) = -1 := by decide
    rw [e] at this; omega
theorem trimS_one (l : List UInt8) : Lib.trimSuffix (l ++ [59]) [59] = l ∧ Lib.hasSuffix (l ++ [59]) [59] = true := by
  have h : Lib.hasSuffix (l ++ [59]) [59] = true := by
    unfold Lib.hasSuffix
    rw [List.isSuffixOf_iff_suffix]
    exact List.suffix_append _ _
  refine ⟨?_, h⟩
  unfold Lib.trimSuffix
  rw [if_pos h]
  simp
theorem trimP_amp (l : List UInt8) : Lib.trimPrefix (38 :: 35 :: l) [38, 35] = l ∧ Lib.hasPrefix (38 :: 35 :: l) [38, 35] = true := by
  have h : Lib.hasPrefix (38 :: 35 :: l) [38, 35] = true := by
    unfold Lib.hasPrefix
    rw [List.isPrefixOf_iff_prefix]
    exact ⟨l, rfl⟩
  refine ⟨?_, h⟩
  unfold Lib.trimPrefix
  rw [if_pos h]
  rfl
theorem ref_dec (l : List UInt8) (h0 : l ≠ []) (hd : ∀ c ∈ l, Digit 10 c) : charRefV (str (38 :: 35 :: l ++ [59])) = (let n := min (val 10 0 l) M; if charB n = true then (n, true) else (0, false)) := by
  obtain ⟨p1, p2⟩ := trimP_amp (l ++ [59])
  obtain ⟨s1, s2⟩ := trimS_one l
  have hB : crBody (str (38 :: 35 :: l ++ [59])) = l := by
    unfold crBody
    rw [str_data, show (38 :: 35 :: l ++ [59] : List UInt8) = 38 :: 35 :: (l ++ [59]) from rfl, p1, s1]
  have hx : Lib.hasPrefix l [120] = false := by
    cases l with
    | nil => exact absurd rfl h0
    | cons c l =>
      have := (dig_facts (hd c (by simp)) (by decide)).2
      unfold Lib.hasPrefix
      rw [List.isPrefixOf_cons_cons]
      have e : ((120 : UInt8) == c) = false := by rw [beq_eq_false_iff_ne]; exact fun e => this e.symm
      rw [e]; rfl
  have hT : crText (str (38 :: 35 :: l ++ [59])) = str l := by
    unfold crText
    rw [hB]
    unfold Lib.trimPrefix
    rw [hx]
    rfl
  have hN : crNum (str (38 :: 35 :: l ++ [59])) = some (min (val 10 0 l) M) := by
    unfold crNum crBase crHex
    rw [hT, hB, hx, if_neg (by decide)]
    have := crAll_digits 10 l l l [] (str l).size 0 rfl (by rw [str_size]; omega) hd
    rw [show ([] : List UInt8).length = 0 from rfl] at this
    rw [this]
    have h2 := sat_val 10 (by decide) (by decide) l 0 (by decide) hd
    rw [show min (0 : Int) M = 0 from by decide] at h2
    rw [h2]
  have hG : crGood (str (38 :: 35 :: l ++ [59])) = true := by
    unfold crGood
    rw [str_data, show (38 :: 35 :: l ++ [59] : List UInt8) = 38 :: 35 :: (l ++ [59]) from rfl, p1, p2, s2, ← show (38 :: 35 :: l ++ [59] : List UInt8) = 38 :: 35 :: (l ++ [59]) from rfl, hT, str_toList]
    cases l with
    | nil => exact absurd rfl h0
    | cons c l => rfl
  unfold charRefV
  rw [hN, hG]
  rfl
theorem ref_hex (l : List UInt8) (h0 : l ≠ []) (hd : ∀ c ∈ l, Digit 16 c) : charRefV (str (38 :: 35 :: 120 :: l ++ [59])) = (let n := min (val 16 0 l) M; if charB n = true then (n, true) else (0, false)) := by
  obtain ⟨p1, p2⟩ := trimP_amp (120 :: l ++ [59])
  obtain ⟨s1, s2⟩ := trimS_one (120 :: l)
  have hB : crBody (str (38 :: 35 :: 120 :: l ++ [59])) = 120 :: l := by
    unfold crBody
    rw [str_data, show (38 :: 35 :: 120 :: l ++ [59] : List UInt8) = 38 :: 35 :: (120 :: l ++ [59]) from rfl, p1, s1]
  have hx : Lib.hasPrefix (120 :: l) [120] = true := by
    unfold Lib.hasPrefix
    rw [List.isPrefixOf_iff_prefix]
    exact ⟨l, rfl⟩
  have hT : crText (str (38 :: 35 :: 120 :: l ++ [59])) = str l := by
    unfold crText
    rw [hB]
    unfold Lib.trimPrefix
    rw [hx]
    rfl
  have hN : crNum (str (38 :: 35 :: 120 :: l ++ [59])) = some (min (val 16 0 l) M) := by
    unfold crNum crBase crHex
    rw [hT, hB, hx, if_pos rfl]
    have := crAll_digits 16 l l l [] (str l).size 0 rfl (by rw [str_size]; omega) hd
    rw [show ([] : List UInt8).length = 0 from rfl] at this
    rw [this]
    have h2 := sat_val 16 (by decide) (by decide) l 0 (by decide) hd
    rw [show min (0 : Int) M = 0 from by decide] at h2
    rw [h2]
  have hG : crGood (str (38 :: 35 :: 120 :: l ++ [59])) = true := by
    unfold crGood
    rw [hT, str_data, show (38 :: 35 :: 120 :: l ++ [59] : List UInt8) = 38 :: 35 :: (120 :: l ++ [59]) from rfl, p1, p2, s2, str_toList]
    cases l with
    | nil => exact absurd rfl h0
    | cons c l => rfl
  unfold charRefV
  rw [hN, hG]
  rfl
theorem w32 (x : Int) (h0 : 0 ≤ x) (h1 : x < 2147483648) : wrap32 x = x := by unfold wrap32; omega
theorem charB_min (n : Nat) : charB (min (n : Int) M) = charB (n : Int) := by
  by_cases h : (n : Int) ≤ M
  · rw [show min (n : Int) M = n by omega]
  · rw [show min (n : Int) M = M by omega]
    have h1 : charB M = false := by decide
    have h2 : charB (n : Int) = false := by
      unfold charB
      rw [decide_eq_false_iff_not]
      unfold M at h
      omega
    rw [h1, h2]
theorem ref_val (n : Nat) : (let m := min (n : Int) M; if charB m = true then (m, true) else ((0 : Int), false)) = if charB (n : Int) = true then ((n : Int), true) else (0, false) := by
  show (if charB (min (n : Int) M) = true then (min (n : Int) M, true) else ((0 : Int), false)) = _
  rw [charB_min]
  by_cases h : charB (n : Int) = true
  · rw [if_pos h, if_pos h]
    have : (n : Int) ≤ M := by
      unfold charB at h
      rw [decide_eq_true_eq] at h
      unfold M
      omega
    rw [show min (n : Int) M = n by omega]
  · rw [if_neg h, if_neg h]
theorem cut_semi (l : List UInt8) (h : ∀ c ∈ l, c ≠ 59) : Lib.cut (l ++ [59]) [59] = (l, [], true) := by
  have hi : Lib.index (l ++ [59]) [59] = (l.length : Int) := by
    refine Lib.index_first (by simp) ?_ fun j hj => ?_
    · unfold Lib.occAt
      rw [List.isPrefixOf_iff_prefix, List.drop_left']
      · exact List.prefix_rfl
      · rfl
    · unfold Lib.occAt
      have hjl : j < (l ++ [59]).length := by simp; omega
      rw [List.drop_eq_getElem_cons hjl, List.isPrefixOf_cons_cons, List.getElem_append_left hj]
      have : ((59 : UInt8) == l[j]) = false := by rw [beq_eq_false_iff_ne]; exact fun e => h _ (List.getElem_mem hj) e.symm
      rw [this]; rfl
  unfold Lib.cut
  rw [hi, if_pos (by omega)]
  simp
theorem next_ref (k : Nat) (l : List UInt8) (hl : l.length ≤ 100) (hd : ∀ c ∈ l, Digit 10 c) :
    token_Next.f (k + 1) (str (38 :: 35 :: l ++ [59])) 0 = nextL (some (7, ⟨#[]⟩, Utf8.encode (charRefV (str (38 :: 35 :: l ++ [59]))).1, [], false, ((l.length + 3 : Nat) : Int), (charRefV (str (38 :: 35 :: l ++ [59]))).2)) 0 := by
  have hz : (38 :: 35 :: l ++ [59] : List UInt8).length = l.length + 3 := by simp
  refine (next_f k _ 0 (by omega)).trans ?_
  congr 1
  have hp : ∀ p, pre (60 :: p) (38 :: 35 :: l ++ [59]) = false := fun p => by
    unfold pre
    rw [List.cons_append, List.isPrefixOf_cons_cons]
    rfl
  unfold oneL
  rw [List.drop_zero, hp, hp, hp, hp]
  simp only [Bool.false_eq_true, if_false, List.cons_append]
  rw [if_neg (by decide), if_pos trivial]
  have e1 : wrap64 (((0 : Nat) : Int) + 1) = ((1 : Nat) : Int) := by unfold wrap64; omega
  unfold token_ref.f
  rw [e1, show (⟨#[59]⟩ : ByteArray) = str [59] from rfl, upto_f _ [59] 1 (by simp) (by simp; omega) (by decide), Option.bind_some]
  have hc : Lib.cut (List.drop 1 (38 :: 35 :: (l ++ [59]))) [59] = (35 :: l, [], true) := by
    rw [List.drop_succ_cons, List.drop_zero, show (35 :: (l ++ [59]) : List UInt8) = (35 :: l) ++ [59] from rfl]
    refine cut_semi _ fun c hc => ?_
    rcases List.mem_cons.1 hc with rfl | hc
    · decide
    · exact (dig_facts (hd c hc) (by decide)).1
  rw [hc]
  simp only
  rw [show strings_HasPrefix.f (str (35 :: l)) ⟨#[35]⟩ = some true from rfl]
  rw [Option.bind_some, if_pos rfl, if_pos (by rw [str_size]; simp; omega), if_pos (by rw [str_size]; simp; omega)]
  rw [show (⟨#[38]⟩ : ByteArray) = str [38] from rfl, str_app, str_app]
  unfold token_CharRef.f
  rw [if_pos (by rw [str_size]; simp; omega), Option.bind_some, if_pos trivial]
  simp only [List.cons_append, List.nil_append]
  congr 6
  simp
  omega
theorem dig10 : ∀ x : Fin 10, ((⟨#[48, 49, 50, 51, 52, 53, 54, 55, 56, 57]⟩ : ByteArray).extract x.val (x.val + 1)).data.toList = [UInt8.ofNat (48 + x.val)] ∧ (UInt8.ofNat (48 + x.val)).toNat < 128 ∧ digitV ((UInt8.ofNat (48 + x.val)).toNat : Int) = x.val := by decide +kernel
def hx (x : Nat) : UInt8 := if x < 10 then UInt8.ofNat (48 + x) else UInt8.ofNat (87 + x)
theorem dig16 : ∀ x : Fin 16, ((⟨#[48, 49, 50, 51, 52, 53, 54, 55, 56, 57, 97, 98, 99, 100, 101, 102]⟩ : ByteArray).extract x.val (x.val + 1)).data.toList = [hx x.val] ∧ (hx x.val).toNat < 128 ∧ digitV ((hx x.val).toNat : Int) = x.val := by decide +kernel
theorem ext10 (x : Nat) (h : x < 10) : (⟨#[48, 49, 50, 51, 52, 53, 54, 55, 56, 57]⟩ : ByteArray).extract x (x + 1) = str [UInt8.ofNat (48 + x)] := by
  rw [of_str (ByteArray.extract _ _ _), (dig10 ⟨x, h⟩).1]
theorem ext16 (x : Nat) (h : x < 16) : (⟨#[48, 49, 50, 51, 52, 53, 54, 55, 56, 57, 97, 98, 99, 100, 101, 102]⟩ : ByteArray).extract x (x + 1) = str [hx x] := by
  rw [of_str (ByteArray.extract _ _ _), (dig16 ⟨x, h⟩).1]
theorem refs_end (n : Nat) (hn : n < 2147483648) (ds xs : List UInt8) (hd0 : ds ≠ []) (hx0 : xs ≠ []) (hdl : ds.length ≤ 20) (hxl : xs.length ≤ 20) (hd : ∀ c ∈ ds, Digit 10 c) (hx : ∀ c ∈ xs, Digit 16 c)
    (vd : val 10 0 ds = n) (vx : val 16 0 xs = n) (k : Nat) (hk : 65 ≤ k) : brackenlaw10_TokenRefs.l1 k (str ds) (str xs) (n : Int) (charB (n : Int)) 0 = some true := by
  obtain ⟨k, rfl⟩ : ∃ m, k = m + 2 := ⟨k - 2, by omega⟩
  have ht := told_k (k + 1) (by omega)
  rw [brackenlaw10_TokenRefs.l1, if_neg (by decide), str_toList, if_neg hx0, if_pos (by rw [str_size]; omega), if_pos (by rw [str_size]; omega)]
  have x00 : ∀ c ∈ (48 :: 48 :: xs : List UInt8), Digit 16 c := by
    intro c hc
    have d48 : Digit 16 48 := ⟨by decide, by decide, by decide⟩
    rcases List.mem_cons.1 hc with rfl | hc
    · exact d48
    · rcases List.mem_cons.1 hc with rfl | hc
      · exact d48
      · exact hx c hc
  have v00 : val 16 0 (48 :: 48 :: xs) = n := by
    rw [val_snoc, val_snoc, ← vx]
    rfl
  have e1 : token_CharRef.f ((⟨#[38, 35]⟩ ++ str ds) ++ ⟨#[59]⟩) = some (if charB (n : Int) = true then ((n : Int), true) else (0, false)) := by
    rw [show (⟨#[38, 35]⟩ : ByteArray) = str [38, 35] from rfl, show (⟨#[59]⟩ : ByteArray) = str [59] from rfl, str_app, str_app]
    unfold token_CharRef.f
    rw [if_pos (by rw [str_size]; simp; omega)]
    have := ref_dec ds hd0 hd
    rw [vd, ref_val] at this
    exact congrArg some this
  have e2 : token_CharRef.f ((⟨#[38, 35, 120, 48, 48]⟩ ++ str xs) ++ ⟨#[59]⟩) = some (if charB (n : Int) = true then ((n : Int), true) else (0, false)) := by
    rw [show (⟨#[38, 35, 120, 48, 48]⟩ : ByteArray) = str [38, 35, 120, 48, 48] from rfl, show (⟨#[59]⟩ : ByteArray) = str [59] from rfl, str_app, str_app]
    unfold token_CharRef.f
    rw [if_pos (by rw [str_size]; simp; omega)]
    have := ref_hex (48 :: 48 :: xs) (by simp) x00
    rw [v00, ref_val] at this
    exact congrArg some this
  have e3 : token_Next.f (k + 1) ((⟨#[38, 35]⟩ ++ str ds) ++ ⟨#[59]⟩) 0 = nextL (some (7, ⟨#[]⟩, Utf8.encode (if charB (n : Int) = true then ((n : Int), true) else ((0 : Int), false)).1, [], false, ((ds.length + 3 : Nat) : Int), (if charB (n : Int) = true then ((n : Int), true) else ((0 : Int), false)).2)) 0 := by
    rw [show (⟨#[38, 35]⟩ : ByteArray) = str [38, 35] from rfl, show (⟨#[59]⟩ : ByteArray) = str [59] from rfl, str_app, str_app]
    have := next_ref k ds (by omega) hd
    have h2 := ref_dec ds hd0 hd
    rw [vd, ref_val] at h2
    rw [h2] at this
    exact this
  rw [e1, Option.bind_some, if_pos (by rw [str_size]; omega), if_pos (by rw [str_size]; omega), e2, Option.bind_some, e3]
  have ew : wrap64 (((str ds).size : Int) + 3) = ((ds.length + 3 : Nat) : Int) := by rw [str_size, w64 _ (by omega) (by omega)]; omega
  cases charB (n : Int)
  · simp [nextL, ht]
  · simp [nextL, ht, ew]
theorem refs_l1 (n : Nat) (hn : n < 2147483648) (ds : List UInt8) (hd0 : ds ≠ []) (hdl : ds.length ≤ 20) (hd : ∀ c ∈ ds, Digit 10 c) (vd : val 10 0 ds = n) :
    ∀ (f j : Nat) (xs : List UInt8) (k : Nat), j < 16 ^ f → j < 2147483648 → xs.length + f ≤ 10 → (∀ c ∈ xs, Digit 16 c) → val 16 j xs = n → f + 70 ≤ k →
      brackenlaw10_TokenRefs.l1 k (str ds) (str xs) (n : Int) (charB (n : Int)) (j : Int) = some true := by
  have step : ∀ (j : Nat) (xs : List UInt8) (k : Nat), j < 2147483648 → xs.length ≤ 12 → (0 < j ∨ xs = []) → brackenlaw10_TokenRefs.l1 (k + 1) (str ds) (str xs) (n : Int) (charB (n : Int)) (j : Int) = brackenlaw10_TokenRefs.l1 k (str ds) (str (hx (j % 16) :: xs)) (n : Int) (charB (n : Int)) ((j / 16 : Nat) : Int) := by
    intro j xs k hj hxl hor
    have t1 : (j : Int).tmod 16 = ((j % 16 : Nat) : Int) := rfl
    have t2 : (j : Int).tdiv 16 = ((j / 16 : Nat) : Int) := rfl
    have t3 : wrap32 (((j % 16 : Nat) : Int) + 1) = ((j % 16 + 1 : Nat) : Int) := by rw [w32 _ (by omega) (by omega)]; omega
    have t4 : wrap32 ((j / 16 : Nat) : Int) = ((j / 16 : Nat) : Int) := w32 _ (by omega) (by omega)
    have hm : j % 16 < 16 := Nat.mod_lt _ (by decide)
    rw [brackenlaw10_TokenRefs.l1, t1, t2, t3, t4, Int.toNat_natCast, Int.toNat_natCast, ext16 _ hm, str_app]
    have hs : (str [hx (j % 16)]).size + (str xs).size ≤ 9223372036854775807 := by rw [str_size, str_size]; simp; omega
    by_cases h : 0 < j
    · rw [if_pos (by omega), if_pos (by omega), if_pos (by omega), if_pos (by omega), if_pos hs]
      rfl
    · have hx : xs = [] := hor.resolve_left h
      subst hx
      rw [if_neg (by omega), if_pos (str_toList []), if_pos (by omega), if_pos (by omega), if_pos (by omega), if_pos hs]
      rfl
  have dg : ∀ j : Nat, Digit 16 (hx (j % 16)) ∧ digitV ((hx (j % 16)).toNat : Int) = ((j % 16 : Nat) : Int) := fun j => by
    obtain ⟨_, h2, h3⟩ := dig16 ⟨j % 16, Nat.mod_lt _ (by decide)⟩
    simp only at h2 h3
    exact ⟨⟨h2, by rw [h3]; omega, by rw [h3]; omega⟩, h3⟩
  have vs : ∀ (j : Nat) (xs : List UInt8), val 16 ((j / 16 : Nat) : Int) (hx (j % 16) :: xs) = val 16 j xs := fun j xs => by
    rw [val_snoc, (dg j).2]
    congr 1
    omega
  have hcons : ∀ (j : Nat) (xs : List UInt8), (∀ c ∈ xs, Digit 16 c) → ∀ c ∈ hx (j % 16) :: xs, Digit 16 c := fun j xs h c hc => by
    rcases List.mem_cons.1 hc with rfl | hc
    · exact (dg j).1
    · exact h c hc
  intro f
  induction f with
  | zero =>
    intro j xs k hj _ hl hx hv hk
    obtain rfl : j = 0 := by simpa using hj
    by_cases h0 : xs = []
    · obtain ⟨k, rfl⟩ : ∃ m, k = m + 1 := ⟨k - 1, by omega⟩
      rw [step 0 xs k (by omega) (by omega) (.inr h0)]
      exact refs_end n hn ds _ hd0 (by simp) hdl (by simp; omega) hd (hcons 0 xs hx) vd ((vs 0 xs).trans hv) k (by omega)
    · exact refs_end n hn ds xs hd0 h0 hdl (by omega) hd hx vd hv k (by omega)
  | succ f ih =>
    intro j xs k hj hj2 hl hx hv hk
    by_cases h : 0 < j ∨ xs = []
    · obtain ⟨k, rfl⟩ : ∃ m, k = m + 1 := ⟨k - 1, by omega⟩
      rw [step j xs k hj2 (by omega) h]
      exact ih (j / 16) _ k (by rw [Nat.pow_succ] at hj; omega) (by omega) (by simp; omega) (hcons j xs hx) ((vs j xs).trans hv) (by omega)
    · have h0 : xs ≠ [] := fun e => h (.inr e)
      obtain rfl : j = 0 := by omega
      exact refs_end n hn ds xs hd0 h0 hdl (by omega) hd hx vd hv k (by omega)
theorem refs_l0 (n : Nat) (hn : n < 2147483648) :
    ∀ (f j : Nat) (ds : List UInt8) (k : Nat), j < 10 ^ f → j < 2147483648 → ds.length + f ≤ 12 → (∀ c ∈ ds, Digit 10 c) → val 10 j ds = n → f + 90 ≤ k →
      brackenlaw10_TokenRefs.l0 k (str ds) (str []) (n : Int) (charB (n : Int)) (j : Int) = some true := by
  have fin : ∀ (ds : List UInt8) (k : Nat), ds ≠ [] → ds.length ≤ 13 → (∀ c ∈ ds, Digit 10 c) → val 10 0 ds = n → 85 ≤ k → brackenlaw10_TokenRefs.l0 k (str ds) (str []) (n : Int) (charB (n : Int)) 0 = some true := by
    intro ds k h0 hl hd hv hk
    obtain ⟨k, rfl⟩ : ∃ m, k = m + 1 := ⟨k - 1, by omega⟩
    rw [brackenlaw10_TokenRefs.l0, if_neg (by decide), str_toList, if_neg h0]
    exact refs_l1 n hn ds h0 (by omega) hd hv 8 n [] k (by omega) hn (by simp) (by simp) rfl (by omega)
  have step : ∀ (j : Nat) (xs : List UInt8) (k : Nat), j < 2147483648 → xs.length ≤ 14 → (0 < j ∨ xs = []) → brackenlaw10_TokenRefs.l0 (k + 1) (str xs) (str []) (n : Int) (charB (n : Int)) (j : Int) = brackenlaw10_TokenRefs.l0 k (str (UInt8.ofNat (48 + j % 10) :: xs)) (str []) (n : Int) (charB (n : Int)) ((j / 10 : Nat) : Int) := by
    intro j xs k hj hxl hor
    have t1 : (j : Int).tmod 10 = ((j % 10 : Nat) : Int) := rfl
    have t2 : (j : Int).tdiv 10 = ((j / 10 : Nat) : Int) := rfl
    have t3 : wrap32 (((j % 10 : Nat) : Int) + 1) = ((j % 10 + 1 : Nat) : Int) := by rw [w32 _ (by omega) (by omega)]; omega
    have t4 : wrap32 ((j / 10 : Nat) : Int) = ((j / 10 : Nat) : Int) := w32 _ (by omega) (by omega)
    have hm : j % 10 < 10 := Nat.mod_lt _ (by decide)
    rw [brackenlaw10_TokenRefs.l0, t1, t2, t3, t4, Int.toNat_natCast, Int.toNat_natCast, ext10 _ hm, str_app]
    have hs : (str [UInt8.ofNat (48 + j % 10)]).size + (str xs).size ≤ 9223372036854775807 := by rw [str_size, str_size]; simp; omega
    by_cases h : 0 < j
    · rw [if_pos (by omega), if_pos (by omega), if_pos (by omega), if_pos (by omega), if_pos hs]
      rfl
    · have hx : xs = [] := hor.resolve_left h
      subst hx
      rw [if_neg (by omega), if_pos (str_toList []), if_pos (by omega), if_pos (by omega), if_pos (by omega), if_pos hs]
      rfl
  have dg : ∀ j : Nat, Digit 10 (UInt8.ofNat (48 + j % 10)) ∧ digitV ((UInt8.ofNat (48 + j % 10)).toNat : Int) = ((j % 10 : Nat) : Int) := fun j => by
    obtain ⟨_, h2, h3⟩ := dig10 ⟨j % 10, Nat.mod_lt _ (by decide)⟩
    simp only at h2 h3
    exact ⟨⟨h2, by rw [h3]; omega, by rw [h3]; omega⟩, h3⟩
  have vs : ∀ (j : Nat) (xs : List UInt8), val 10 ((j / 10 : Nat) : Int) (UInt8.ofNat (48 + j % 10) :: xs) = val 10 j xs := fun j xs => by
    rw [val_snoc, (dg j).2]
    congr 1
    omega
  have hcons : ∀ (j : Nat) (xs : List UInt8), (∀ c ∈ xs, Digit 10 c) → ∀ c ∈ UInt8.ofNat (48 + j % 10) :: xs, Digit 10 c := fun j xs h c hc => by
    rcases List.mem_cons.1 hc with rfl | hc
    · exact (dg j).1
    · exact h c hc
  intro f
  induction f with
  | zero =>
    intro j xs k hj _ hl hx hv hk
    obtain rfl : j = 0 := by simpa using hj
    by_cases h0 : xs = []
    · obtain ⟨k, rfl⟩ : ∃ m, k = m + 1 := ⟨k - 1, by omega⟩
      rw [step 0 xs k (by omega) (by omega) (.inr h0)]
      exact fin _ k (by simp) (by simp; omega) (hcons 0 xs hx) ((vs 0 xs).trans hv) (by omega)
    · exact fin xs k h0 (by omega) hx hv (by omega)
  | succ f ih =>
    intro j xs k hj hj2 hl hx hv hk
    by_cases h : 0 < j ∨ xs = []
    · obtain ⟨k, rfl⟩ : ∃ m, k = m + 1 := ⟨k - 1, by omega⟩
      rw [step j xs k hj2 (by omega) h]
      exact ih (j / 10) _ k (by rw [Nat.pow_succ] at hj; omega) (by omega) (by simp; omega) (hcons j xs hx) ((vs j xs).trans hv) (by omega)
    · have h0 : xs ≠ [] := fun e => h (.inr e)
      obtain rfl : j = 0 := by omega
      exact fin xs k h0 (by omega) hx hv (by omega)
theorem refs_j0 (n : Nat) (hn : n < 2147483648) : brackenlaw10_TokenRefs.j0 200 ⟨#[]⟩ ⟨#[]⟩ (n : Int) = some true := by
  rw [brackenlaw10_TokenRefs.j0]
  show ((some (charB (n : Int))).bind fun t364 => _) = _
  rw [Option.bind_some]
  exact refs_l0 n hn 10 n [] 199 (by omega) hn (by simp) (by simp) rfl (by omega)
theorem refs_pure : brackenlaw10_TokenRefs.Pure := by
  intro a0 h0
  have hr : -2147483648 ≤ a0 ∧ a0 ≤ 2147483647 := by
    have h1 : (decide (IntKind.i32.min ≤ a0) && decide (a0 ≤ IntKind.i32.max)) = true := h0
    rw [Bool.and_eq_true, decide_eq_true_eq, decide_eq_true_eq] at h1
    have e1 : IntKind.i32.min = -2147483648 := by decide
    have e2 : IntKind.i32.max = 2147483647 := by decide
    rw [e1, e2] at h1
    exact h1
  refine ⟨200, ?_⟩
  unfold brackenlaw10_TokenRefs.f
  by_cases hneg : a0 < 0
  · rw [if_pos hneg]
    have e1 : wrap32 (a0 + 1) = a0 + 1 := by unfold wrap32; omega
    have e2 : wrap32 (-(a0 + 1)) = -(a0 + 1) := by unfold wrap32; omega
    rw [e1, e2]
    obtain ⟨n, hn⟩ : ∃ n : Nat, -(a0 + 1) = (n : Int) := ⟨(-(a0 + 1)).toNat, by omega⟩
    rw [hn]
    exact refs_j0 n (by omega)
  · rw [if_neg hneg]
    obtain ⟨n, rfl⟩ : ∃ n : Nat, a0 = (n : Int) := ⟨a0.toNat, by omega⟩
    exact refs_j0 n (by omega)
end Go.Proofs.YtmjdjpelhhibgaaDoor.TP
