/- The plain law of TokenAttrs. -/
import Derived.Test.YtmjdjpelhhibgaaDoorKPAtt
import Derived.Test.YtmjdjpelhhibgaaDoorR1x16
namespace Go.Proofs.YtmjdjpelhhibgaaDoor.TA
open Go Go.RowKit Go.Proofs.YtmjdjpelhhibgaaDoor.Giv Go.Proofs.YtmjdjpelhhibgaaDoor.Spec Go.Proofs.YtmjdjpelhhibgaaDoor.R1 Go.Proofs.YtmjdjpelhhibgaaDoorW.PrintWords Go.Proofs.YtmjdjpelhhibgaaDoorW.PrintLast
open Go.Proofs.YtmjdjpelhhibgaaDoor.TP
set_option linter.unusedVariables false
set_option linter.unusedSimpArgs false
def Sty.rp (S : Sty) : Nat → List UInt8
  | 0 => []
  | i + 1 => S.rp i ++ (S.g ++ S.A i)
theorem rp_tl (S : Sty) (Z : List UInt8) : ∀ n i, S.rp i ++ S.tl Z n i = S.rp (i + n) ++ Z := by
  intro n
  induction n with
  | zero => intro i; rfl
  | succ n ih =>
    intro i
    have := ih (i + 1)
    rw [show i + 1 + n = i + (n + 1) by omega] at this
    rw [← this]
    simp [Sty.tl, Sty.rp]
structure Sty.Small (S : Sty) : Prop where
  g : S.g.length ≤ 2
  s1 : S.s1.length ≤ 1
  s2 : S.s2.length ≤ 1
  v : S.v.length ≤ 20
theorem A_len (S : Sty) (h : S.Small) (i : Nat) : (S.A i).length ≤ 30 := by
  obtain ⟨_, _, _, _⟩ := h
  show (attrB (nm i) S.s1 S.s2 S.Q S.v).length ≤ 30
  rw [attrB_len]
  have : (nm i).length = 2 := rfl
  omega
theorem rp_len (S : Sty) (h : S.Small) : ∀ i, (S.rp i).length ≤ 40 * i := by
  intro i
  induction i with
  | zero => simp [Sty.rp]
  | succ i ih =>
    have := A_len S h i
    have := h.g
    simp only [Sty.rp, List.length_append]
    omega
def Sty.eq (S : Sty) : List UInt8 := S.s1 ++ 61 :: S.s2
def abc : List UInt8 := [97, 98, 99, 100, 101, 102, 103, 104]
theorem abc_at : ∀ i, i < 8 → (abc.drop i).take 1 = [UInt8.ofNat (97 + i)] := by decide
theorem abc_ext (i : Nat) (hi : i < 8) : (⟨#[97, 98, 99, 100, 101, 102, 103, 104]⟩ : ByteArray).extract ((i : Int)).toNat (((i + 1 : Nat) : Int)).toNat = str [UInt8.ofNat (97 + i)] := by
  rw [show (⟨#[97, 98, 99, 100, 101, 102, 103, 104]⟩ : ByteArray) = str abc from rfl, Int.toNat_natCast, Int.toNat_natCast, str_ext, show i + 1 - i = 1 by omega, abc_at i hi]
theorem l1_step (S : Sty) (hs : S.Small) (k K i : Nat) (hi : i < K) (hK : K ≤ 8) (h : Int) :
    brackenlaw10_TokenAttrs.l1 (k + 1) (str S.v) (K : Int) h (str S.g) (str S.eq) (str [S.Q]) (str (60 :: pa ++ S.rp i)) (i : Int) =
      brackenlaw10_TokenAttrs.l1 k (str S.v) (K : Int) h (str S.g) (str S.eq) (str [S.Q]) (str (60 :: pa ++ S.rp (i + 1))) ((i + 1 : Nat) : Int) := by
  have e1 : wrap64 ((i : Int) + 1) = ((i + 1 : Nat) : Int) := by rw [w64 _ (by omega) (by omega)]; omega
  have hr := rp_len S hs i
  obtain ⟨h1, h2, h3, h4⟩ := hs
  have hpl : pa.length = 3 := rfl
  have heq : S.eq.length ≤ 3 := by simp only [Sty.eq, List.length_append, List.length_cons]; omega
  rw [brackenlaw10_TokenAttrs.l1, e1, abc_ext i (by omega)]
  simp only [str_size, List.length_cons, List.length_append, List.length_nil, hpl]
  rw [if_pos (by omega), if_pos (by omega), if_pos (by omega), if_pos (by omega), if_pos (by omega), if_pos (by omega), if_pos (by omega), if_pos (by omega), if_pos (by omega), if_pos (by omega), if_pos (by omega)]
  rw [show (⟨#[120]⟩ : ByteArray) = str [120] from rfl]
  simp only [str_app]
  congr 2
  simp [Sty.rp, Sty.A, attrB, nm, Sty.eq]
theorem l1_all (S : Sty) (hs : S.Small) (k K : Nat) (hK : K ≤ 8) (h : Int) : ∀ d i, i + d = K →
    brackenlaw10_TokenAttrs.l1 (k + d) (str S.v) (K : Int) h (str S.g) (str S.eq) (str [S.Q]) (str (60 :: pa ++ S.rp i)) (i : Int) =
      brackenlaw10_TokenAttrs.l1 k (str S.v) (K : Int) h (str S.g) (str S.eq) (str [S.Q]) (str (60 :: pa ++ S.rp K)) (K : Int) := by
  intro d
  induction d with
  | zero => intro i hi; rw [show K = i by omega]; rfl
  | succ d ih =>
    intro i hi
    rw [← Nat.add_assoc, l1_step S hs (k + d) K i (by omega) hK h]
    exact ih (i + 1) (by omega)
theorem l2_all (S : Sty) (K : Nat) (hK : K ≤ 8) (y1 : Int) (y2 y3 : ByteArray) (y4 : Bool) : ∀ d i k, i + d = K → 60 + d < k →
    brackenlaw10_TokenAttrs.l2 k (str S.v) (K : Int) (i : Int) y1 y2 y3 ((List.range' 0 K).map S.raw) y4 = some true := by
  intro d
  induction d with
  | zero =>
    intro i k hi hk
    obtain ⟨k, rfl⟩ : ∃ m, k = m + 1 := ⟨k - 1, by omega⟩
    rw [brackenlaw10_TokenAttrs.l2, if_neg (by omega), told_k k (by omega)]
    rfl
  | succ d ih =>
    intro i k hi hk
    obtain ⟨k, rfl⟩ : ∃ m, k = m + 1 := ⟨k - 1, by omega⟩
    have e1 : wrap64 ((i : Int) + 1) = ((i + 1 : Nat) : Int) := by rw [w64 _ (by omega) (by omega)]; omega
    have hrd : rd_T42 ((List.range' 0 K).map S.raw) (i : Int) = S.raw i := by
      unfold rd_T42
      rw [Int.toNat_natCast, List.getD_eq_getElem?_getD, List.getElem?_map, List.getElem?_range' (by omega)]
      simp
    rw [brackenlaw10_TokenAttrs.l2, e1, abc_ext i (by omega), hrd, if_pos (by omega), if_pos (by omega), if_pos (by simp; omega), if_pos (by omega), if_pos (by omega), if_pos (by rw [str_size]; simp), if_pos, if_pos]
    · exact ih (i + 1) k (by omega) (by omega)
    · rfl
    · rw [show (⟨#[120]⟩ : ByteArray) = str [120] from rfl, str_app]
      rfl
def zsOf (g : List UInt8) (z : Nat) : List UInt8 := if z < 2 then [] else g
theorem l1_end (S : Sty) (hs : S.Small) (k K m : Nat) (hK : K ≤ 8) (hk : 100 ≤ k) (hm : m < 18446744073709551616) :
    brackenlaw10_TokenAttrs.l1 (k + 1) (str S.v) (K : Int) (m : Int) (str S.g) (str S.eq) (str [S.Q]) (str (60 :: pa ++ S.rp K)) (K : Int) = some true := by
  have hr := rp_len S hs K
  have hg := hs.g
  have hpl : pa.length = 3 := rfl
  have hw : IntKind.u64.wrap (Int.tdiv (m : Int) 18) = ((m / 18 : Nat) : Int) := by
    rw [show Int.tdiv (m : Int) 18 = ((m / 18 : Nat) : Int) from rfl]
    unfold IntKind.wrap
    simp [IntKind.bits, IntKind.signed]
    omega
  have h4 : (((m / 18 : Nat) : Int)).tmod 4 = ((m / 18 % 4 : Nat) : Int) := rfl
  have h2 : (((m / 18 : Nat) : Int)).tmod 2 = ((m / 18 % 2 : Nat) : Int) := rfl
  obtain ⟨z, hz⟩ : ∃ z, m / 18 % 4 = z := ⟨_, rfl⟩
  have hz4 : z < 4 := by omega
  have hz2 : m / 18 % 2 = z % 2 := by omega
  obtain ⟨e, he⟩ : ∃ e : Bool, (((z % 2 : Nat) : Int) == 1) = e := ⟨_, rfl⟩
  have hzs : gapP (zsOf S.g z) := by
    unfold zsOf
    split
    · intro x hx; cases hx
    · exact S.hg
  have hzl : (zsOf S.g z).length ≤ 2 := by unfold zsOf; split; simp; exact hg
  have hfl : (fin e).length ≤ 2 := by cases e <;> decide
  have hrd : rdOf ByteArray.empty ([(⟨#[62]⟩ : ByteArray), (⟨#[47, 62]⟩ : ByteArray), str S.g ++ (⟨#[62]⟩ : ByteArray), str S.g ++ (⟨#[47, 62]⟩ : ByteArray)] : List ByteArray) (z : Int) = str (zsOf S.g z ++ fin e) := by
    subst he
    rw [show (⟨#[62]⟩ : ByteArray) = str [62] from rfl, show (⟨#[47, 62]⟩ : ByteArray) = str [47, 62] from rfl, str_app, str_app]
    match z, hz4 with
    | 0, _ | 1, _ | 2, _ | 3, _ => rfl
  have hT : 60 :: pa ++ S.rp K ++ (zsOf S.g z ++ fin e) ++ [114, 101, 115, 116] = 60 :: pa ++ S.tl (zsOf S.g z ++ (fin e ++ [114, 101, 115, 116])) K 0 := by
    have := rp_tl S (zsOf S.g z ++ (fin e ++ [114, 101, 115, 116])) K 0
    rw [Nat.zero_add] at this
    rw [show S.rp 0 = [] from rfl, List.nil_append] at this
    rw [this]
    simp
  have hTl := congrArg List.length hT
  simp only [List.length_append, List.length_cons, List.length_nil, hpl] at hTl
  have hN := start_f S (zsOf S.g z) [114, 101, 115, 116] e hzs K (k - K - 4) hK (by simp only [List.length_append, List.length_cons, hpl]; omega)
  rw [show k - K - 4 + K + 4 = k by omega, ← hT] at hN
  rw [brackenlaw10_TokenAttrs.l1, if_neg (by omega), if_pos (by rw [str_size]; omega), if_pos (by rw [str_size]; omega), Option.bind_some, hw, h4, h2, hz, hz2, he]
  rw [if_pos (by omega), if_pos (by simp; omega), hrd]
  rw [if_pos (by simp only [str_size, List.length_append, List.length_cons, hpl]; omega), if_pos (by simp only [str_size, List.length_append, List.length_cons, hpl]; omega), show (⟨#[114, 101, 115, 116]⟩ : ByteArray) = str [114, 101, 115, 116] from rfl, str_app, str_app, hN, Option.bind_some]
  simp only [if_true]
  rw [if_pos (by simp only [str_size, List.length_append, List.length_cons, List.length_nil, hpl]; omega), if_pos (by rw [str_toList]; rfl), if_neg (by simp)]
  have hlen : ((((List.range' 0 K).map S.raw).length : Int) != (K : Int)) = false := by simp
  rw [hlen]
  obtain ⟨k, rfl⟩ : ∃ j, k = j + 1 := ⟨k - 1, by omega⟩
  rw [brackenlaw10_TokenAttrs.j2, if_neg (by decide)]
  exact l2_all S K hK _ _ _ _ K 0 k (by omega) (by omega)
theorem attrs_loop (v : List UInt8) (hv : v.length ≤ 20) (a0 a1 : Int) : ∀ (d k i : Nat), v.length - i = d → i ≤ v.length → d + 120 < k → (∀ j b, j < i → v[j]? = some b → b ≠ 39 ∧ b ≠ 34 ∧ b ≠ 60) →
    brackenlaw10_TokenAttrs.l0 k a0 a1 (str v) (i : Int) = some true := by
  intro d
  induction d with
  | zero =>
    intro k i hd hi hk hno
    obtain rfl : i = v.length := by omega
    obtain ⟨k, rfl⟩ : ∃ m, k = m + 1 := ⟨k - 1, by omega⟩
    have hw : 0 ≤ IntKind.u64.wrap a1 ∧ IntKind.u64.wrap a1 < 18446744073709551616 := by unfold IntKind.wrap; simp [IntKind.bits, IntKind.signed]; omega
    obtain ⟨m, hm⟩ : ∃ m : Nat, IntKind.u64.wrap a1 = (m : Int) := ⟨(IntKind.u64.wrap a1).toNat, by omega⟩
    have hw0 : 0 ≤ IntKind.u64.wrap a0 := by unfold IntKind.wrap; simp [IntKind.bits, IntKind.signed]; omega
    obtain ⟨n, hn⟩ : ∃ n : Nat, IntKind.u64.wrap a0 = (n : Int) := ⟨(IntKind.u64.wrap a0).toNat, by omega⟩
    have h9 : wrap64 (((n : Int)).tmod 9) = ((n % 9 : Nat) : Int) := by
      rw [show ((n : Int)).tmod 9 = ((n % 9 : Nat) : Int) from rfl, w64 _ (by omega) (by omega)]
    have hm64 : m < 18446744073709551616 := by omega
    have d3 : IntKind.u64.wrap (Int.tdiv (m : Int) 3) = ((m / 3 : Nat) : Int) := by
      rw [show Int.tdiv (m : Int) 3 = ((m / 3 : Nat) : Int) from rfl]
      unfold IntKind.wrap
      simp [IntKind.bits, IntKind.signed]
      omega
    have d9 : IntKind.u64.wrap (Int.tdiv (m : Int) 9) = ((m / 9 : Nat) : Int) := by
      rw [show Int.tdiv (m : Int) 9 = ((m / 9 : Nat) : Int) from rfl]
      unfold IntKind.wrap
      simp [IntKind.bits, IntKind.signed]
      omega
    have t3 : ((m : Int)).tmod 3 = ((m % 3 : Nat) : Int) := rfl
    have t33 : (((m / 3 : Nat) : Int)).tmod 3 = ((m / 3 % 3 : Nat) : Int) := rfl
    have t92 : (((m / 9 : Nat) : Int)).tmod 2 = ((m / 9 % 2 : Nat) : Int) := rfl
    have hall : ∀ b ∈ v, b ≠ 39 ∧ b ≠ 34 ∧ b ≠ 60 := fun b hb => by
      obtain ⟨j, hj, rfl⟩ := List.getElem_of_mem hb
      exact hno j _ hj (List.getElem?_eq_getElem hj)
    obtain ⟨x, hx⟩ : ∃ x, m % 3 = x := ⟨_, rfl⟩
    obtain ⟨y, hy⟩ : ∃ y, m / 3 % 3 = y := ⟨_, rfl⟩
    obtain ⟨z, hz⟩ : ∃ z, m / 9 % 2 = z := ⟨_, rfl⟩
    rw [brackenlaw10_TokenAttrs.l0, if_neg (by rw [str_size]; omega), Option.bind_some, Option.bind_some, Option.bind_some, hm, hn, h9, d3, d9, t3, t33, t92, hx, hy, hz]
    rw [if_pos (by omega), if_pos (by simp; omega), if_pos (by omega), if_pos (by simp; omega), if_pos (by omega), if_pos (by simp; omega)]
    obtain ⟨g, hg1, hg2, hg3, hg4⟩ : ∃ g, rdOf ByteArray.empty ([(⟨#[32]⟩ : ByteArray), (⟨#[10, 32]⟩ : ByteArray), (⟨#[32, 32]⟩ : ByteArray)] : List ByteArray) (x : Int) = str g ∧ gapP g ∧ g ≠ [] ∧ g.length ≤ 2 := by
      have hx3 : x < 3 := by omega
      match x, hx3 with
      | 0, _ => exact ⟨[32], rfl, by intro x hx; simp at hx; simp [hx], by simp, by simp⟩
      | 1, _ => exact ⟨[10, 32], rfl, by intro x hx; simp at hx; rcases hx with rfl | rfl <;> simp, by simp, by simp⟩
      | 2, _ => exact ⟨[32, 32], rfl, by intro x hx; simp at hx; simp [hx], by simp, by simp⟩
    obtain ⟨s1, s2, he1, he2, he3, he4, he5⟩ : ∃ s1 s2 : List UInt8, rdOf ByteArray.empty ([(⟨#[61]⟩ : ByteArray), (⟨#[32, 61, 32]⟩ : ByteArray), (⟨#[61, 9]⟩ : ByteArray)] : List ByteArray) (y : Int) = str (s1 ++ 61 :: s2) ∧ (∀ x ∈ s1, x = 32) ∧ (∀ x ∈ s2, x = 32 ∨ x = 9) ∧ s1.length ≤ 1 ∧ s2.length ≤ 1 := by
      have hy3 : y < 3 := by omega
      match y, hy3 with
      | 0, _ => exact ⟨[], [], rfl, by simp, by simp, by simp, by simp⟩
      | 1, _ => exact ⟨[32], [32], rfl, by simp, by simp, by simp, by simp⟩
      | 2, _ => exact ⟨[], [9], rfl, by simp, by simp, by simp, by simp⟩
    obtain ⟨Q, hQ1, hQ2⟩ : ∃ Q : UInt8, rdOf ByteArray.empty ([(⟨#[39]⟩ : ByteArray), (⟨#[34]⟩ : ByteArray)] : List ByteArray) (z : Int) = str [Q] ∧ (Q = 39 ∨ Q = 34) := by
      have hz2 : z < 2 := by omega
      match z, hz2 with
      | 0, _ => exact ⟨39, rfl, .inl rfl⟩
      | 1, _ => exact ⟨34, rfl, .inr rfl⟩
    rw [hg1, he1, hQ1]
    have hvv : ∀ x ∈ v, x ≠ Q ∧ x ≠ 60 := fun x hx => by
      obtain ⟨q1, q2, q3⟩ := hall x hx
      refine ⟨?_, q3⟩
      rcases hQ2 with rfl | rfl
      · exact q1
      · exact q2
    obtain ⟨k, rfl⟩ : ∃ j, k = j + 1 + (n % 9) := ⟨k - 1 - n % 9, by omega⟩
    have hA := l1_all ⟨g, s1, s2, v, Q, hg2, hg3, he2, he3, hQ2, hvv⟩ ⟨hg4, he4, he5, hv⟩ (k + 1) (n % 9) (by omega) (m : Int) (n % 9) 0 (by omega)
    have hE := l1_end ⟨g, s1, s2, v, Q, hg2, hg3, he2, he3, hQ2, hvv⟩ ⟨hg4, he4, he5, hv⟩ k (n % 9) m (by omega) (by omega) hm64
    exact hA.trans hE
  | succ d ih =>
    intro k i hd hi hk hno
    obtain ⟨k, rfl⟩ : ∃ m, k = m + 1 := ⟨k - 1, by omega⟩
    have hil : i < v.length := by omega
    have ht := told_k k (by omega)
    have e1 : wrap64 ((i : Int) + 1) = ((i + 1 : Nat) : Int) := by rw [w64 _ (by omega) (by omega)]; omega
    rw [brackenlaw10_TokenAttrs.l0, if_pos (by rw [str_size]; omega), if_pos (by omega), bt_str v i hil, e1]
    by_cases c1 : v[i] = 39
    · rw [if_pos (by rw [c1]; rfl), ht]; rfl
    rw [if_neg (show ((v[i].toNat : Int)) ≠ 39 from u8_ne (n := 39) (by omega) c1)]
    by_cases c2 : v[i] = 34
    · rw [if_pos (by rw [c2]; rfl), ht]; rfl
    rw [if_neg (show ((v[i].toNat : Int)) ≠ 34 from u8_ne (n := 34) (by omega) c2)]
    by_cases c3 : v[i] = 60
    · rw [if_pos (by rw [c3]; rfl), ht]; rfl
    rw [if_neg (show ((v[i].toNat : Int)) ≠ 60 from u8_ne (n := 60) (by omega) c3)]
    refine ih k (i + 1) (by omega) (by omega) (by omega) ?_
    intro j b hj hb
    by_cases e : j = i
    · subst e
      rw [List.getElem?_eq_getElem hil] at hb
      obtain rfl := Option.some.inj hb
      exact ⟨c1, c2, c3⟩
    · exact hno j b (by omega) hb
theorem attrs_pure : brackenlaw10_TokenAttrs.Pure := by
  intro a0 a1 a2
  intros
  refine ⟨200, ?_⟩
  unfold brackenlaw10_TokenAttrs.f
  have ht := told_k 200 (by omega)
  obtain ⟨v, rfl⟩ : ∃ l, a2 = str l := ⟨_, of_str a2⟩
  by_cases h1 : ((str v).size : Int) > 20
  · rw [if_pos h1, ht]; rfl
  · rw [if_neg h1]
    rw [str_size] at h1
    exact attrs_loop v (by omega) a0 a1 v.length 200 0 (by omega) (by omega) (by omega) (fun j b hj => by omega)
end Go.Proofs.YtmjdjpelhhibgaaDoor.TA
