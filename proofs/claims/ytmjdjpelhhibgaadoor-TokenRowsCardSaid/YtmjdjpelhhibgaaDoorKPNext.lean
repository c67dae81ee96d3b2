/- The next piece of any text: there is an answer, and it is as long as it says. -/
import Derived.Test.YtmjdjpelhhibgaaDoorKPAtt
namespace Go.Proofs.YtmjdjpelhhibgaaDoor.TN
open Go Go.RowKit Go.Proofs.YtmjdjpelhhibgaaDoor.Giv Go.Proofs.YtmjdjpelhhibgaaDoor.Spec Go.Proofs.YtmjdjpelhhibgaaDoor.R1 Go.Proofs.YtmjdjpelhhibgaaDoorW.PrintWords Go.Proofs.YtmjdjpelhhibgaaDoorW.PrintLast
open Go.Proofs.YtmjdjpelhhibgaaDoor.TP Go.Proofs.YtmjdjpelhhibgaaDoor.TA
set_option linter.unusedVariables false
set_option linter.unusedSimpArgs false
def comM : List UInt8 := [60, 33, 45, 45]
def cdM : List UInt8 := [60, 33, 91, 67, 68, 65, 84, 65, 91]
/-- A piece at a place: what it says holds, if it is good. -/
def Says (L : List UInt8) (a : Nat) (kd : Int) (tx : List UInt8) (z : Int) : Prop :=
  ∃ n : Nat, 0 < n ∧ a + n ≤ L.length ∧ z = ((a + n : Nat) : Int) ∧ (kd = 1 → (L.drop a).take n = tx) ∧ (kd = 4 → (L.drop a).take n = comM ++ tx ++ [45, 45, 62]) ∧ (kd = 6 → (L.drop a).take n = cdM ++ tx ++ [93, 93, 62])
def Fine (L : List UInt8) (a : Nat) (x : Option Tk) : Prop :=
  ∃ (kd : Int) (n0 : ByteArray) (tx : List UInt8) (ys : List S42) (em : Bool) (z : Int) (ok : Bool), x = some (kd, n0, str tx, ys, em, z, ok) ∧ ys.length ≤ L.length ∧ (ok = true → Says L a kd tx z)
theorem cut_true (X m : List UInt8) (h : (Lib.cut X m).2.2 = true) : ∃ r, X = (Lib.cut X m).1 ++ (m ++ r) := by
  unfold Lib.cut at h ⊢
  rcases Lib.index_spec X m with ⟨h1, _⟩ | ⟨i, h1, h2, h3, _⟩
  · rw [h1, if_neg (by omega)] at h; cases h
  · rw [h1, if_pos (by omega)]
    unfold Lib.occAt at h3
    obtain ⟨r, hr⟩ := List.isPrefixOf_iff_prefix.1 h3
    refine ⟨r, ?_⟩
    rw [hr, Int.toNat_natCast, List.take_append_drop]
theorem cut_len (X m : List UInt8) : (Lib.cut X m).1.length ≤ X.length := by
  unfold Lib.cut
  split
  · simp; omega
  · simp
theorem pre_split {m l : List UInt8} (h : pre m l = true) : ∃ X, l = m ++ X := by
  obtain ⟨X, hX⟩ := List.isPrefixOf_iff_prefix.1 h
  exact ⟨X, hX.symm⟩
theorem take_of {T x y : List UInt8} (h : T = x ++ y) : T.take x.length = x := by rw [h, List.take_left]
theorem word_any (l : List UInt8) (a : Nat) (ha : a ≤ l.length) (hl : l.length < 4294967281) : ∃ n, token_Word.f (str l) (a : Int) = some ((a + n : Nat) : Int) ∧ a + n ≤ l.length := by
  refine ⟨wordLen ((str l).extract a (str l).size), ?_, ?_⟩
  · unfold token_Word.f
    rw [if_pos ⟨by omega, by rw [str_size]; omega, by rw [str_size]; exact hl⟩, Int.toNat_natCast]
    congr 1
  · have := wordFrom_le ((str l).extract a (str l).size) ((str l).extract a (str l).size).size 0 (by omega)
    have hz : ((str l).extract a (str l).size).size = l.length - a := by rw [str_size, str_from, str_size]; simp
    have hw : wordLen ((str l).extract a (str l).size) ≤ l.length - a := by unfold wordLen; omega
    omega
theorem space_any (l : List UInt8) (a : Nat) (ha : a ≤ l.length) (hl : l.length < 4294967281) : ∃ n, token_Spaces.f (str l) (a : Int) = some ((a + n : Nat) : Int) ∧ a + n ≤ l.length := by
  refine ⟨spaceLen (l.drop a), space_f l a ha hl, ?_⟩
  have := spaceLen_le (l.drop a)
  simp at this
  omega
theorem name_some (x : ByteArray) (h : x.size < 4294967281) : ∃ b, runes_Name.f x = some b := by
  unfold runes_Name.f
  rw [if_pos h]
  exact ⟨_, rfl⟩
theorem ncname_some (x : ByteArray) (h : x.size < 4294967281) : ∃ b, runes_NCName.f x = some b := by
  obtain ⟨b, hb⟩ := name_some x h
  unfold runes_NCName.f
  rw [hb, Option.bind_some]
  unfold strings_Contains.f
  rw [if_pos h]
  cases b
  · exact ⟨_, rfl⟩
  · exact ⟨_, rfl⟩
theorem ext_small (l : List UInt8) (a b : Nat) (hl : l.length < 4294967281) : ((str l).extract a b).size < 4294967281 := by
  rw [str_ext, str_size]
  simp
  omega
theorem fine_comment (L : List UInt8) (a : Nat) (ha : a ≤ L.length) (hL : L.length < 4000000000) (h : pre comM (L.drop a) = true) : Fine L a (token_comment.f (str L) (a : Int)) := by
  obtain ⟨X, hX⟩ := pre_split h
  have hl := len_of ha hX
  have hml : comM.length = 4 := rfl
  rw [List.length_append, hml] at hl
  have hd4 : L.drop (a + 4) = X := drop_more (x := comM) hX
  have e4 : wrap64 ((a : Int) + 4) = ((a + 4 : Nat) : Int) := by rw [w64 _ (by omega) (by omega)]; omega
  have hcl := cut_len X [45, 45]
  unfold token_comment.f
  rw [e4, show (⟨#[45, 45]⟩ : ByteArray) = str [45, 45] from rfl, upto_f L [45, 45] (a + 4) (by omega) (by omega) (by simp), hd4, Option.bind_some]
  simp only
  have hm2 : ([45, 45] : List UInt8).length = 2 := rfl
  rw [hm2]
  by_cases hc : (Lib.cut X [45, 45]).2.2 = true
  · obtain ⟨r, hr⟩ := cut_true X [45, 45] hc
    obtain ⟨c1, hc1⟩ : ∃ c1, (Lib.cut X [45, 45]).1 = c1 := ⟨_, rfl⟩
    rw [hc1] at hr hcl ⊢
    have hXl := congrArg List.length hr
    simp only [List.length_append, hm2] at hXl
    have hd6 : L.drop (a + 4 + c1.length + 2) = r := drop_more (x := [45, 45]) (drop_more (x := c1) (by rw [hd4, hr]))
    rw [if_pos hc, if_pos (by omega), if_pos (by rw [str_size]; omega), from_of hd6]
    rw [show strings_HasPrefix.f (str r) ⟨#[62]⟩ = some (pre [62] r) from rfl, Option.bind_some]
    refine ⟨4, _, c1, [], false, _, _, rfl, by simp, fun hok => ?_⟩
    obtain ⟨r2, hr2⟩ := pre_split hok
    have hr2l := congrArg List.length hr2
    simp only [List.length_append, List.length_cons, List.length_nil] at hr2l
    refine ⟨4 + c1.length + 2 + 1, by omega, by omega, by rw [w64 _ (by omega) (by omega)]; omega, fun e => absurd e (by decide), fun _ => ?_, fun e => absurd e (by decide)⟩
    have := take_of (T := L.drop a) (x := comM ++ c1 ++ [45, 45, 62]) (y := r2) (by rw [hX, hr, hr2]; simp)
    rw [← this]
    congr 1
    simp [hml]
    omega
  · rw [if_neg hc]
    exact ⟨4, _, _, [], false, _, false, rfl, by simp, fun e => by cases e⟩
theorem fine_cdata (L : List UInt8) (a : Nat) (ha : a ≤ L.length) (hL : L.length < 4000000000) (h : pre cdM (L.drop a) = true) : Fine L a (token_cdata.f (str L) (a : Int)) := by
  obtain ⟨X, hX⟩ := pre_split h
  have hl := len_of ha hX
  have hml : cdM.length = 9 := rfl
  rw [List.length_append, hml] at hl
  have hd9 : L.drop (a + 9) = X := drop_more (x := cdM) hX
  have e9 : wrap64 ((a : Int) + 9) = ((a + 9 : Nat) : Int) := by rw [w64 _ (by omega) (by omega)]; omega
  unfold token_cdata.f
  rw [e9, show (⟨#[93, 93, 62]⟩ : ByteArray) = str [93, 93, 62] from rfl, upto_f L [93, 93, 62] (a + 9) (by omega) (by omega) (by simp), hd9, Option.bind_some]
  dsimp only
  refine ⟨6, _, _, [], false, _, _, rfl, by simp, fun hok => ?_⟩
  obtain ⟨r, hr⟩ := cut_true X [93, 93, 62] hok
  obtain ⟨c1, hc1⟩ : ∃ c1, (Lib.cut X [93, 93, 62]).1 = c1 := ⟨_, rfl⟩
  rw [hc1] at hr ⊢
  have hXl := congrArg List.length hr
  have hm3 : ([93, 93, 62] : List UInt8).length = 3 := rfl
  simp only [List.length_append, hm3] at hXl
  refine ⟨9 + c1.length + 3, by omega, by omega, by rw [hm3]; omega, fun e => absurd e (by decide), fun e => absurd e (by decide), fun _ => ?_⟩
  have := take_of (T := L.drop a) (x := cdM ++ c1 ++ [93, 93, 62]) (y := r) (by rw [hX, hr]; simp)
  rw [← this]
  congr 1
  simp [hml]
  omega
/-- Other kinds say nothing of their text. -/
theorem says_other {L : List UInt8} {a n : Nat} {kd : Int} {tx : List UInt8} (h0 : 0 < n) (h1 : a + n ≤ L.length) (hk : kd ≠ 1 ∧ kd ≠ 4 ∧ kd ≠ 6) : Says L a kd tx ((a + n : Nat) : Int) :=
  ⟨n, h0, h1, rfl, fun e => absurd e hk.1, fun e => absurd e hk.2.1, fun e => absurd e hk.2.2⟩
theorem fine_end (L : List UInt8) (a : Nat) (ha : a ≤ L.length) (hL : L.length < 4000000000) (h : pre [60, 47] (L.drop a) = true) : Fine L a (token_end.f (str L) (a : Int)) := by
  obtain ⟨X, hX⟩ := pre_split h
  have hl := len_of ha hX
  simp only [List.length_append, List.length_cons, List.length_nil] at hl
  have e2 : wrap64 ((a : Int) + 2) = ((a + 2 : Nat) : Int) := by rw [w64 _ (by omega) (by omega)]; omega
  obtain ⟨n, hw, hn⟩ := word_any L (a + 2) (by omega) (by omega)
  obtain ⟨m, hs, hm⟩ := space_any L (a + 2 + n) (by omega) (by omega)
  obtain ⟨b, hb⟩ := name_some ((str L).extract (((a + 2 : Nat) : Int)).toNat (((a + 2 + n : Nat) : Int)).toNat) (ext_small L _ _ (by omega))
  unfold token_end.f
  rw [e2, hw, Option.bind_some, if_pos (by omega), if_pos (by omega), if_pos (by rw [str_size]; omega), hs, Option.bind_some, hb, Option.bind_some]
  cases b
  · rw [if_neg (by decide)]
    exact ⟨3, _, [], [], false, _, false, rfl, by simp, fun e => by cases e⟩
  · rw [if_pos rfl, if_pos (by omega), if_pos (by rw [str_size]; omega), from_of rfl]
    rw [show strings_HasPrefix.f (str (L.drop (a + 2 + n + m))) ⟨#[62]⟩ = some (pre [62] (L.drop (a + 2 + n + m))) from rfl, Option.bind_some]
    refine ⟨3, _, [], [], false, _, _, rfl, by simp, fun hok => ?_⟩
    have := pre_len hok
    simp at this
    rw [w64 _ (by omega) (by omega), show ((a + 2 + n + m : Nat) : Int) + 1 = ((a + (2 + n + m + 1) : Nat) : Int) by omega]
    exact says_other (by omega) (by omega) ⟨by decide, by decide, by decide⟩
theorem attr_any (L : List UInt8) (a k : Nat) (ha : a ≤ L.length) (hL : L.length < 4000000000) : ∃ n v z ok, token_attr.f (k + 2) (str L) (a : Int) = some (n, v, z, ok) ∧ (ok = true → ∃ m : Nat, z = ((a + m : Nat) : Int) ∧ 0 < m ∧ a + m ≤ L.length) := by
  obtain ⟨n, hw, hn⟩ := word_any L a ha (by omega)
  obtain ⟨m, hs, hm⟩ := space_any L (a + n) (by omega) (by omega)
  obtain ⟨b, hb⟩ := name_some ((str L).extract ((a : Int)).toNat (((a + n : Nat) : Int)).toNat) (ext_small L _ _ (by omega))
  unfold token_attr.f
  rw [hw, Option.bind_some, if_pos (by omega), if_pos (by omega), if_pos (by rw [str_size]; omega), hs, Option.bind_some, hb, Option.bind_some]
  obtain ⟨N, hN⟩ : ∃ N, (str L).extract ((a : Int)).toNat (((a + n : Nat) : Int)).toNat = N := ⟨_, rfl⟩
  rw [hN]
  have J0 : ∀ z, token_attr.j0 (k + 2) (str L) z true N ⟨#[]⟩ = some (N, ⟨#[]⟩, z, false) := fun z => by rw [token_attr.j0, if_pos rfl]
  have J1 : ∀ z, token_attr.j1 (k + 1) (str L) z true N ⟨#[]⟩ = some (N, ⟨#[]⟩, z, false) := fun z => by rw [token_attr.j1, if_pos rfl]
  cases b
  · rw [if_neg (by decide), J0]
    exact ⟨_, _, _, false, rfl, fun e => by cases e⟩
  rw [if_pos rfl, if_pos (by omega), if_pos (by rw [str_size]; omega), from_of rfl]
  rw [show strings_HasPrefix.f (str (L.drop (a + n + m))) ⟨#[61]⟩ = some (pre [61] (L.drop (a + n + m))) from rfl, Option.bind_some]
  cases hp : pre [61] (L.drop (a + n + m)) with
  | false =>
    rw [show (!false) = true from rfl, J0]
    exact ⟨_, _, _, false, rfl, fun e => by cases e⟩
  | true =>
    have hpl := pre_len hp
    simp at hpl
    have e1 : wrap64 (((a + n + m : Nat) : Int) + 1) = ((a + n + m + 1 : Nat) : Int) := by rw [w64 _ (by omega) (by omega)]; omega
    obtain ⟨m2, hs2, hm2⟩ := space_any L (a + n + m + 1) (by omega) (by omega)
    rw [show (!true) = false from rfl, token_attr.j0, if_neg (by decide), e1, hs2, Option.bind_some]
    by_cases he : a + n + m + 1 + m2 = L.length
    · rw [if_pos (by rw [str_size, he]), J1]
      exact ⟨_, _, _, false, rfl, fun e => by cases e⟩
    rw [if_neg (by rw [str_size]; omega), if_pos (by omega), if_pos (by rw [str_size]; omega)]
    have J : ∀ b, ∃ n' v z ok, token_attr.j1 (k + 1) (str L) ((a + n + m + 1 + m2 : Nat) : Int) b N ⟨#[]⟩ = some (n', v, z, ok) ∧ (ok = true → ∃ m : Nat, z = ((a + m : Nat) : Int) ∧ 0 < m ∧ a + m ≤ L.length) := by
      intro b
      cases b
      · obtain ⟨p, hpp⟩ : ∃ p, a + n + m + 1 + m2 = p := ⟨_, rfl⟩
        rw [hpp]
        have e2 : wrap64 ((p : Int) + 1) = ((p + 1 : Nat) : Int) := by rw [w64 _ (by omega) (by omega)]; omega
        have hq : (str L).extract ((p : Int)).toNat (((p + 1 : Nat) : Int)).toNat = str ((L.drop p).take 1) := by rw [Int.toNat_natCast, Int.toNat_natCast, str_ext, Nat.add_sub_cancel_left]
        have hq1 : ((L.drop p).take 1).length = 1 := by simp; omega
        rw [token_attr.j1, if_neg (by decide), if_pos (by omega), e2, if_pos (by omega), if_pos (by rw [str_size]; omega), hq, upto_f L _ (p + 1) (by omega) (by omega) (by omega), Option.bind_some]
        simp only
        by_cases hc : (Lib.cut (L.drop (p + 1)) ((L.drop p).take 1)).2.2 = true
        · obtain ⟨r, hr⟩ := cut_true _ _ hc
          have hrl := congrArg List.length hr
          simp only [List.length_append, hq1, List.length_drop] at hrl
          rw [if_pos hc]
          unfold strings_Contains.f
          rw [if_pos (by rw [str_size]; omega), Option.bind_some]
          refine ⟨_, _, _, _, rfl, fun _ => ⟨p + 1 + (Lib.cut (L.drop (p + 1)) ((L.drop p).take 1)).1.length + 1 - a, ?_, by omega, by omega⟩⟩
          rw [hq1]
          omega
        · rw [if_neg hc]
          exact ⟨_, _, _, false, rfl, fun e => by cases e⟩
      · rw [J1]
        exact ⟨_, _, _, false, rfl, fun e => by cases e⟩
    split
    · exact J _
    · exact J _
theorem start_any (L : List UInt8) (a0 : Nat) (hL : L.length < 4000000000) (n0 n1 : ByteArray) : ∀ (d a k : Nat) (ys : List S42), L.length - a = d → a0 < a → a ≤ L.length → ys.length ≤ a → d + 4 ≤ k →
    ∃ ys' em z ok, token_start.l0 k (str L) (a : Int) 2 n0 n1 ys false = some (2, n0, n1, ys', em, z, ok) ∧ ys'.length ≤ L.length ∧ (ok = true → ∃ m : Nat, z = ((a0 + m : Nat) : Int) ∧ 0 < m ∧ a0 + m ≤ L.length) := by
  intro d
  induction d using Nat.strongRecOn with
  | _ d ih =>
    intro a k ys hd h0 ha hy hk
    obtain ⟨k, rfl⟩ : ∃ j, k = j + 3 := ⟨k - 3, by omega⟩
    obtain ⟨m, hs, hm⟩ := space_any L a ha (by omega)
    rw [token_start.l0, hs, Option.bind_some, if_pos (by omega), if_pos (by rw [str_size]; omega), from_of rfl]
    rw [show strings_HasPrefix.f (str (L.drop (a + m))) ⟨#[47, 62]⟩ = some (pre [47, 62] (L.drop (a + m))) from rfl, show strings_HasPrefix.f (str (L.drop (a + m))) ⟨#[62]⟩ = some (pre [62] (L.drop (a + m))) from rfl, Option.bind_some, Option.bind_some]
    by_cases h1 : pre [47, 62] (L.drop (a + m)) = true
    · have hpl := pre_len h1
      simp at hpl
      rw [if_pos h1]
      refine ⟨ys, true, _, true, rfl, by omega, fun _ => ⟨a + m + 2 - a0, ?_, by omega, by omega⟩⟩
      rw [w64 _ (by omega) (by omega)]
      omega
    rw [if_neg h1]
    by_cases h2 : pre [62] (L.drop (a + m)) = true
    · have hpl := pre_len h2
      simp at hpl
      rw [if_pos h2]
      refine ⟨ys, false, _, true, rfl, by omega, fun _ => ⟨a + m + 1 - a0, ?_, by omega, by omega⟩⟩
      rw [w64 _ (by omega) (by omega)]
      omega
    rw [if_neg h2]
    by_cases h3 : ((a + m : Nat) : Int) = (a : Int)
    · rw [if_pos h3]
      exact ⟨ys, false, _, false, rfl, by omega, fun e => by cases e⟩
    rw [if_neg h3]
    obtain ⟨nA, v, z, ok, hA, hz⟩ := attr_any L (a + m) k (by omega) hL
    rw [hA, Option.bind_some]
    dsimp only
    cases ok
    · rw [if_neg (by decide)]
      exact ⟨ys, false, _, false, rfl, by omega, fun e => by cases e⟩
    · obtain ⟨m2, rfl, hm0, hm2⟩ := hz rfl
      rw [if_pos rfl, if_pos (by omega)]
      exact ih (L.length - (a + m + m2)) (by omega) (a + m + m2) (k + 2) _ rfl (by omega) (by omega) (by simp; omega) (by omega)
theorem fine_start (L : List UInt8) (a k : Nat) (ha : a < L.length) (hL : L.length < 4000000000) (hk : L.length + 4 ≤ k) : Fine L a (token_start.f k (str L) (a : Int)) := by
  have e1 : wrap64 ((a : Int) + 1) = ((a + 1 : Nat) : Int) := by rw [w64 _ (by omega) (by omega)]; omega
  obtain ⟨n, hw, hn⟩ := word_any L (a + 1) (by omega) (by omega)
  obtain ⟨b, hb⟩ := name_some ((str L).extract (((a + 1 : Nat) : Int)).toNat (((a + 1 + n : Nat) : Int)).toNat) (ext_small L _ _ (by omega))
  unfold token_start.f
  rw [e1, hw, Option.bind_some, if_pos (by omega), if_pos (by omega), if_pos (by rw [str_size]; omega), hb, Option.bind_some]
  cases b
  · rw [if_neg (by decide)]
    exact ⟨2, _, [], [], false, _, false, rfl, by simp, fun e => by cases e⟩
  · rw [if_pos rfl]
    obtain ⟨ys, em, z, ok, h1, h2, h3⟩ := start_any L a hL ((str L).extract (((a + 1 : Nat) : Int)).toNat (((a + 1 + n : Nat) : Int)).toNat) ⟨#[]⟩ _ (a + 1 + n) k [] rfl (by omega) (by omega) (by simp) (by omega)
    rw [h1]
    refine ⟨2, _, [], ys, em, z, ok, rfl, h2, fun e => ?_⟩
    obtain ⟨m, rfl, hm, hm2⟩ := h3 e
    exact says_other hm hm2 ⟨by decide, by decide, by decide⟩
theorem fine_ref (L : List UInt8) (a : Nat) (ha : a < L.length) (hL : L.length < 4000000000) : Fine L a (token_ref.f (str L) (a : Int)) := by
  have e1 : wrap64 ((a : Int) + 1) = ((a + 1 : Nat) : Int) := by rw [w64 _ (by omega) (by omega)]; omega
  obtain ⟨X, hX⟩ : ∃ X, L.drop (a + 1) = X := ⟨_, rfl⟩
  have hXl := congrArg List.length hX
  rw [List.length_drop] at hXl
  have hcl := cut_len X [59]
  have hm1 : ([59] : List UInt8).length = 1 := rfl
  have hsay : (Lib.cut X [59]).2.2 = true → ∀ kd tx, (kd ≠ 1 ∧ kd ≠ 4 ∧ kd ≠ 6) → Says L a kd tx ((a + 1 + (Lib.cut X [59]).1.length + 1 : Nat) : Int) := by
    intro hc kd tx hk
    obtain ⟨r, hr⟩ := cut_true X [59] hc
    have hrl := congrArg List.length hr
    simp only [List.length_append, hm1] at hrl
    rw [show a + 1 + (Lib.cut X [59]).1.length + 1 = a + (1 + (Lib.cut X [59]).1.length + 1) by omega]
    exact says_other (by omega) (by omega) hk
  unfold token_ref.f
  rw [e1, show (⟨#[59]⟩ : ByteArray) = str [59] from rfl, upto_f L [59] (a + 1) (by omega) (by omega) (by simp), hX, Option.bind_some]
  simp only [hm1]
  obtain ⟨c1, hc1⟩ : ∃ c1, (Lib.cut X [59]).1 = c1 := ⟨_, rfl⟩
  obtain ⟨g, hg⟩ : ∃ g, (Lib.cut X [59]).2.2 = g := ⟨_, rfl⟩
  rw [hc1, hg] at hsay
  rw [hc1] at hcl
  rw [hc1, hg, show strings_HasPrefix.f (str c1) ⟨#[35]⟩ = some (pre [35] c1) from rfl, Option.bind_some]
  by_cases h1 : pre [35] c1 = true
  · rw [if_pos h1, if_pos (by rw [str_size]; omega), if_pos (by rw [str_size]; omega)]
    rw [show (⟨#[38]⟩ : ByteArray) = str [38] from rfl, str_app, str_app]
    unfold token_CharRef.f
    rw [if_pos (by rw [str_size]; simp; omega), Option.bind_some]
    cases g
    · rw [if_neg (by decide), of_str (Utf8.encode _)]
      exact ⟨7, _, _, [], false, _, false, rfl, by simp, fun e => by cases e⟩
    · rw [if_pos rfl, of_str (Utf8.encode _)]
      exact ⟨7, _, _, [], false, _, _, rfl, by simp, fun _ => hsay rfl _ _ ⟨by decide, by decide, by decide⟩⟩
  · rw [if_neg h1]
    cases g
    · rw [if_neg (by decide)]
      exact ⟨8, _, [], [], false, _, false, rfl, by simp, fun e => by cases e⟩
    · obtain ⟨b, hb⟩ := ncname_some (str c1) (by rw [str_size]; omega)
      rw [if_pos rfl, hb, Option.bind_some]
      exact ⟨8, _, [], [], false, _, b, rfl, by simp, fun _ => hsay rfl _ _ ⟨by decide, by decide, by decide⟩⟩
theorem idx_lt (chars : List UInt8) : ∀ l : List UInt8, Lib.indexAny l chars < (l.length : Int)
  | [] => by simp [Lib.indexAny]
  | b :: l => by
    have ih := idx_lt chars l
    unfold Lib.indexAny
    split
    · simp only [List.length_cons]; omega
    · split
      · simp only [List.length_cons]; omega
      · simp only [List.length_cons]; omega
theorem fine_plain (L : List UInt8) (a : Nat) (c : UInt8) (t : List UInt8) (hc : L.drop a = c :: t) (h1 : c ≠ 60) (h2 : c ≠ 38) (ha : a < L.length) (hL : L.length < 4000000000) : Fine L a (token_plain.f (str L) (a : Int)) := by
  have hdl : (L.drop a).length = L.length - a := by simp
  have hfin : ∀ n, 0 < n → n ≤ (L.drop a).length → Lib.indexAny (L.drop a) [60, 38] = (if n < (L.drop a).length then (n : Int) else -1) → Fine L a (token_plain.f (str L) (a : Int)) := by
    intro n hn0 hn hi
    rw [plain_f L a (by omega) (by omega) n hn hi]
    exact ⟨1, _, _, [], false, _, _, rfl, by simp, fun _ => ⟨n, hn0, by omega, rfl, fun _ => rfl, fun e => absurd e (by decide), fun e => absurd e (by decide)⟩⟩
  have hge := Lib.indexAny_ge [60, 38] (L.drop a)
  by_cases hneg : Lib.indexAny (L.drop a) [60, 38] = -1
  · exact hfin (L.drop a).length (by omega) (Nat.le_refl _) (by rw [if_neg (by omega)]; exact hneg)
  · obtain ⟨n, hn⟩ : ∃ n : Nat, Lib.indexAny (L.drop a) [60, 38] = (n : Int) := ⟨(Lib.indexAny (L.drop a) [60, 38]).toNat, by omega⟩
    have hlt : n < (L.drop a).length := by
      have := idx_lt [60, 38] (L.drop a)
      omega
    have h0 : 0 < n := by
      rcases Nat.eq_zero_or_pos n with e | e
      · exfalso
        rw [e, hc, Lib.indexAny] at hn
        have e1 : ([60, 38] : List UInt8).contains c = false := by simp [h1, h2]
        rw [e1] at hn
        have := Lib.indexAny_ge [60, 38] t
        revert hn
        simp
        split <;> omega
      · exact e
    exact hfin n h0 (by omega) (by rw [if_pos hlt]; exact hn)
/-- What stands behind each sign of an instruction: a target of this law's. -/
def PiOk (L : List UInt8) : Prop := ∀ a, pre [60, 63] (L.drop a) = true → ∃ nm c t, L.drop (a + 2) = nm ++ c :: t ∧ (nm = [112, 105] ∨ nm = [120, 109, 108]) ∧ (c = 32 ∨ c = 63)
theorem target_two : (∃ b, token_Target.f (str [112, 105]) = some b) ∧ (∃ b, token_Target.f (str [120, 109, 108]) = some b) := ⟨⟨true, by decide +kernel⟩, ⟨false, by decide +kernel⟩⟩
theorem fine_pi (L : List UInt8) (a : Nat) (ha : a ≤ L.length) (hL : L.length < 4000000000) (h : pre [60, 63] (L.drop a) = true) (hP : PiOk L) : Fine L a (token_pi.f (str L) (a : Int)) := by
  obtain ⟨nm, c, t, hd, hnm, hc⟩ := hP a h
  obtain ⟨X, hX⟩ := pre_split h
  have hl := len_of ha hX
  simp only [List.length_append, List.length_cons, List.length_nil] at hl
  have e2 : wrap64 ((a : Int) + 2) = ((a + 2 : Nat) : Int) := by rw [w64 _ (by omega) (by omega)]; omega
  have hl2 := len_of (by omega) hd
  simp only [List.length_append, List.length_cons] at hl2
  have hW : token_Word.f (str L) ((a + 2 : Nat) : Int) = some ((a + 2 + nm.length : Nat) : Int) :=
    word_f L (a + 2) (by omega) (by omega) nm c t hd (by rcases hnm with rfl | rfl <;> decide) (by rcases hc with rfl | rfl <;> decide) (by rcases hc with rfl | rfl <;> decide)
  have hT : ∃ b, token_Target.f (str nm) = some b := by rcases hnm with rfl | rfl; exact target_two.1; exact target_two.2
  obtain ⟨b, hT⟩ := hT
  obtain ⟨m, hs, hm⟩ := space_any L (a + 2 + nm.length) (by omega) (by omega)
  obtain ⟨Y, hY⟩ : ∃ Y, L.drop (a + 2 + nm.length + m) = Y := ⟨_, rfl⟩
  have hYl := congrArg List.length hY
  rw [List.length_drop] at hYl
  have hm2 : ([63, 62] : List UInt8).length = 2 := rfl
  unfold token_pi.f
  rw [e2, hW, Option.bind_some, if_pos (by omega), if_pos (by omega), if_pos (by rw [str_size]; omega), hs, Option.bind_some, show (⟨#[63, 62]⟩ : ByteArray) = str [63, 62] from rfl, upto_f L [63, 62] _ (by omega) (by omega) (by simp), hY, Option.bind_some, ext_of hd, hT]
  simp only [hm2]
  by_cases hc2 : (Lib.cut Y [63, 62]).2.2 = true
  · obtain ⟨r, hr⟩ := cut_true Y [63, 62] hc2
    have hrl := congrArg List.length hr
    simp only [List.length_append, hm2] at hrl
    have hsay : ∀ tx, Says L a 5 tx ((a + 2 + nm.length + m + (Lib.cut Y [63, 62]).1.length + 2 : Nat) : Int) := fun tx => by
      rw [show a + 2 + nm.length + m + (Lib.cut Y [63, 62]).1.length + 2 = a + (2 + nm.length + m + (Lib.cut Y [63, 62]).1.length + 2) by omega]
      exact says_other (by omega) (by omega) ⟨by decide, by decide, by decide⟩
    rw [if_pos hc2, Option.bind_some]
    cases b
    · rw [if_neg (by decide)]
      exact ⟨5, _, _, [], false, _, false, rfl, by simp, fun e => by cases e⟩
    · rw [if_pos rfl]
      split
      · exact ⟨5, _, _, [], false, _, _, rfl, by simp, fun _ => hsay _⟩
      · exact ⟨5, _, _, [], false, _, _, rfl, by simp, fun _ => hsay _⟩
  · rw [if_neg hc2]
    exact ⟨5, _, _, [], false, _, false, rfl, by simp, fun e => by cases e⟩
theorem fine_one (L : List UInt8) (a k : Nat) (ha : a < L.length) (hL : L.length < 4000000000) (hk : L.length + 4 ≤ k) (hP : PiOk L) : Fine L a (oneL k L a) := by
  unfold oneL
  by_cases h1 : pre [60, 33, 45, 45] (L.drop a) = true
  · rw [if_pos h1]; exact fine_comment L a (by omega) hL h1
  rw [if_neg h1]
  by_cases h2 : pre [60, 33, 91, 67, 68, 65, 84, 65, 91] (L.drop a) = true
  · rw [if_pos h2]; exact fine_cdata L a (by omega) hL h2
  rw [if_neg h2]
  by_cases h3 : pre [60, 63] (L.drop a) = true
  · rw [if_pos h3]; exact fine_pi L a (by omega) hL h3 hP
  rw [if_neg h3]
  by_cases h4 : pre [60, 47] (L.drop a) = true
  · rw [if_pos h4]; exact fine_end L a (by omega) hL h4
  rw [if_neg h4]
  cases hd : L.drop a with
  | nil =>
    have := congrArg List.length hd
    simp at this
    omega
  | cons c t =>
    show Fine L a (if c = 60 then token_start.f k (str L) a else if c = 38 then token_ref.f (str L) a else token_plain.f (str L) a)
    by_cases c1 : c = 60
    · rw [if_pos c1]; exact fine_start L a k ha hL hk
    rw [if_neg c1]
    by_cases c2 : c = 38
    · rw [if_pos c2]; exact fine_ref L a ha hL
    rw [if_neg c2]
    exact fine_plain L a c t hd c1 c2 ha hL
/-- The next piece, whatever the rounds are from some number on. -/
theorem next_any (L : List UInt8) (a : Nat) (ha : a < L.length) (hL : L.length < 4000000000) (hP : PiOk L) :
    ∃ (kd : Int) (n0 : ByteArray) (tx : List UInt8) (ys : List S42) (em : Bool) (z : Int) (c : Int), (∀ k, L.length + 5 ≤ k → token_Next.f k (str L) (a : Int) = some (kd, n0, str tx, ys, em, z, c)) ∧ ys.length ≤ L.length ∧ ((c = 0 ∧ Says L a kd tx z) ∨ c = 2) := by
  obtain ⟨kd, n0, tx, ys, em, z, ok, h1, h2, h3⟩ := fine_one L a (L.length + 4) ha hL (Nat.le_refl _) hP
  have mono : ∀ k x, token_Next.f (L.length + 5) (str L) (a : Int) = some x → L.length + 5 ≤ k → token_Next.f k (str L) (a : Int) = some x := by
    intro k x hx hk
    induction hk with
    | refl => exact hx
    | step _ ih => exact token_Next.mono _ _ _ _ ih
  have hn := next_f (L.length + 4) L a ha
  rw [h1] at hn
  cases ok
  · exact ⟨0, ⟨#[]⟩, [], [], false, (a : Int), 2, fun k hk => mono k _ hn hk, by simp, .inr rfl⟩
  · exact ⟨kd, n0, tx, ys, em, z, 0, fun k hk => mono k _ hn hk, h2, .inl ⟨rfl, h3 rfl⟩⟩
end Go.Proofs.YtmjdjpelhhibgaaDoor.TN
