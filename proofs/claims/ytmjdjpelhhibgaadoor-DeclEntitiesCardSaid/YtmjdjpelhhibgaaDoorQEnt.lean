/- DeclEntities: the law over the plain functions. -/
import Derived.Test.YtmjdjpelhhibgaaDoorQSym
import Derived.Test.YtmjdjpelhhibgaaDoorR3x6
namespace Go.Proofs.YtmjdjpelhhibgaaDoor.DP
open Go Go.RowKit Go.Proofs.YtmjdjpelhhibgaaDoor.Giv Go.Proofs.YtmjdjpelhhibgaaDoor.Spec Go.Proofs.YtmjdjpelhhibgaaDoor.DS Go.Proofs.YtmjdjpelhhibgaaDoor.R3 Go.Proofs.YtmjdjpelhhibgaaDoor.TP Go.Proofs.YtmjdjpelhhibgaaDoorW.PrintWords Go.Proofs.YtmjdjpelhhibgaaDoorW.PrintLast
set_option linter.unusedVariables false
set_option linter.unusedSimpArgs false
def pL : List (List UInt8) := [[97], [38, 35, 54, 53, 59], [38, 35, 120, 50, 54, 59], [38, 108, 116, 59], [38, 101, 59], [195, 169], [32], [60], [62], [34]]
def wL : List (List UInt8) := [[97], [65], [38], [38, 108, 116, 59], [38, 101, 59], [195, 169], [32], [60], [62], [34]]
def pc (i : Fin 10) : List UInt8 := pL.getD i.val []
def wc (i : Fin 10) : List UInt8 := wL.getD i.val []
def cost (i : Fin 10) : Nat := if i.val = 5 then 2 else 1
theorem ent_ref (m w T : List UInt8) (b : Nat) (h59 : ∀ x ∈ m, x ≠ 59) (hok : ((charRefV (bs ([38] ++ m ++ [59]))).2 || ncB (bs m)) = true)
    (hw : (if (charRefV (bs ([38] ++ m ++ [59]))).2 = true then Lib.encodeRune (charRefV (bs ([38] ++ m ++ [59]))).1 else [38] ++ m ++ [59]) = w) :
    entR (b + 1) (38 :: (m ++ 59 :: T)) = (entR b T).map fun z => w ++ z := by
  have hk : (!true || (!(charRefV (bs ([38] ++ m ++ [59]))).2 && !ncB (bs m))) = false := by
    revert hok
    cases (charRefV (bs ([38] ++ m ++ [59]))).2 <;> cases ncB (bs m) <;> decide
  rw [entR, if_neg (by decide), if_pos (by decide)]
  simp only [cut_t m T 59 h59, hk, Bool.false_eq_true, if_false, hw]
theorem ent_one (c : UInt8) (T : List UInt8) (b : Nat) (h : (c == 37 || c == 38) = false) : entR (b + 1) (c :: T) = (entR b T).map fun z => [c] ++ z := by
  have h2 : (c == 37) = false ∧ (c == 38) = false := by simpa using h
  rw [entR, if_neg (by rw [h2.1]; decide), if_neg (by rw [h2.2]; decide)]
  rfl
theorem ent_step : ∀ (i : Fin 10) (b : Nat) (T : List UInt8), entR (b + cost i) (pc i ++ T) = (entR b T).map fun z => wc i ++ z
  | 0, b, T => ent_one 97 T b (by decide)
  | 1, b, T => ent_ref [35, 54, 53] _ T b (by decide) (by decide +kernel) (by decide +kernel)
  | 2, b, T => ent_ref [35, 120, 50, 54] _ T b (by decide) (by decide +kernel) (by decide +kernel)
  | 3, b, T => ent_ref [108, 116] _ T b (by decide) (by decide +kernel) (by decide +kernel)
  | 4, b, T => ent_ref [101] _ T b (by decide) (by decide +kernel) (by decide +kernel)
  | 5, b, T => by
    have h1 : entR (b + 2) (195 :: 169 :: T) = (entR (b + 1) (169 :: T)).map fun z => [195] ++ z := ent_one 195 _ (b + 1) (by decide)
    have h2 := ent_one 169 T b (by decide)
    show entR (b + 2) (195 :: 169 :: T) = _
    rw [h1, h2, Option.map_map]
    rfl
  | 6, b, T => ent_one 32 T b (by decide)
  | 7, b, T => ent_one 60 T b (by decide)
  | 8, b, T => ent_one 62 T b (by decide)
  | 9, b, T => ent_one 34 T b (by decide)
def costs (js : List (Fin 10)) : Nat := (js.map cost).sum
theorem ent_all : ∀ (js : List (Fin 10)) (b : Nat) (T : List UInt8), entR (b + costs js) (js.flatMap pc ++ T) = (entR b T).map fun z => js.flatMap wc ++ z
  | [], b, T => by
    show entR b T = _
    cases entR b T <;> rfl
  | i :: js, b, T => by
    have h := ent_step i (b + costs js) (js.flatMap pc ++ T)
    rw [ent_all js b T, Option.map_map] at h
    rw [List.flatMap_cons, List.append_assoc, show b + costs (i :: js) = b + costs js + cost i by unfold costs; simp; omega, h]
    cases entR b T with
    | none => rfl
    | some z => simp
theorem costs_le : ∀ js : List (Fin 10), costs js ≤ (js.flatMap pc).length
  | [] => Nat.le_refl _
  | i :: js => by
    have h1 : ∀ i : Fin 10, cost i ≤ (pc i).length := by decide
    have h2 := costs_le js
    have h3 := h1 i
    unfold costs at h2 ⊢
    simp only [List.map_cons, List.sum_cons, List.flatMap_cons, List.length_append]
    omega
theorem ent_tail (js : List (Fin 10)) (T : List UInt8) (r : Option (List UInt8)) (hT : ∀ b, entR (b + 1) T = r) : ent (js.flatMap pc ++ T) = entO (r.map fun z => js.flatMap wc ++ z) := by
  have h := ent_all js ((js.flatMap pc ++ T).length + 1 - costs js) T
  have hc := costs_le js
  have hl : costs js ≤ (js.flatMap pc ++ T).length := by rw [List.length_append]; omega
  rw [show (js.flatMap pc ++ T).length + 1 - costs js + costs js = (js.flatMap pc ++ T).length + 1 by omega,
    show (js.flatMap pc ++ T).length + 1 - costs js = ((js.flatMap pc ++ T).length - costs js) + 1 by omega, hT] at h
  unfold ent
  rw [h]
theorem ent_S (js : List (Fin 10)) : ent (js.flatMap pc) = (js.flatMap wc, true) := by
  have h := ent_tail js [] (some []) fun b => rfl
  rw [List.append_nil] at h
  rw [h]
  simp [entO]
theorem ent_no (js : List (Fin 10)) (T : List UInt8) (hT : ∀ b, entR (b + 1) T = none) : ent (js.flatMap pc ++ T) = ([], false) := by
  rw [ent_tail js T none hT]
  rfl
theorem no1 (b : Nat) : entR (b + 1) [37] = none := rfl
theorem no2 (b : Nat) : entR (b + 1) [38, 32] = none := by
  rw [entR, if_neg (by decide), if_pos (by decide)]
  exact if_pos (by decide +kernel)
theorem no3 (b : Nat) : entR (b + 1) [38, 35, 48, 59] = none := by
  rw [entR, if_neg (by decide), if_pos (by decide)]
  exact if_pos (by decide +kernel)
theorem no39 (js : List (Fin 10)) : ∀ x ∈ js.flatMap pc, x ≠ 39 := by
  intro x hx
  obtain ⟨i, _, hi⟩ := List.mem_flatMap.mp hx
  have h : ∀ i : Fin 10, ∀ x ∈ pc i, x ≠ 39 := by decide
  exact h i x hi
theorem len_p : ∀ js : List (Fin 10), (js.flatMap pc).length ≤ 6 * js.length
  | [] => Nat.le_refl _
  | i :: js => by
    have h1 : ∀ i : Fin 10, (pc i).length ≤ 6 := by decide
    have h2 := len_p js
    have h3 := h1 i
    simp only [List.flatMap_cons, List.length_append, List.length_cons]
    omega
theorem len_w : ∀ js : List (Fin 10), (js.flatMap wc).length ≤ 6 * js.length
  | [] => Nat.le_refl _
  | i :: js => by
    have h1 : ∀ i : Fin 10, (wc i).length ≤ 6 := by decide
    have h2 := len_w js
    have h3 := h1 i
    simp only [List.flatMap_cons, List.length_append, List.length_cons]
    omega
theorem nm_q : Nm 113 := ⟨by decide, by decide +kernel, by decide +kernel, by decide +kernel⟩
theorem ent_doc (S V : List UInt8) (h : ∀ x ∈ S, x ≠ 39) (hv : ent S = (V, true)) :
    doc (doctypeM ++ (32 :: 97 :: 91 :: (entityM ++ (32 :: 113 :: 32 :: 39 :: (S ++ 39 :: 62 :: [93, 62]))))) =
      some ⟨[97], [⟨[113], V, false⟩], [], ((doctypeM ++ (32 :: 97 :: 91 :: (entityM ++ (32 :: 113 :: 32 :: 39 :: (S ++ 39 :: 62 :: [93, 62]))))).length : Int), 0⟩ := by
  refine doc_t _ (entityM ++ (32 :: 113 :: 32 :: 39 :: (S ++ 39 :: 62 :: [93, 62]))) _ _ _ ?_ ?_ ?_ ?_
  · rw [gap1 _ _ (by decide)]
    exact word_t [97] 91 _ (by decide +kernel) (by decide +kernel)
  · rw [gap1 _ _ (by decide)]
    have e : wordX splitL ⟨97 :: 91 :: (entityM ++ (32 :: 113 :: 32 :: 39 :: (S ++ 39 :: 62 :: [93, 62]))), false⟩ = _ := wordX_t splitL [97] 91 _ (by decide +kernel) (by decide +kernel) (by decide +kernel)
    rw [e]
    unfold doc1
    rw [space0 _ _ (by decide), Bool.false_and, if_neg (by decide), spaceX0 _ _ (by decide)]
  · intro n
    rw [show n + 5 = (n + 4) + 1 from rfl, subR_ent (n + 4) 113 S V [93, 62] [] [] nm_q h hv, show n + 4 = (n + 3) + 1 from rfl, subR_end]
    rfl
  · simp; omega
theorem ents_end (js : List (Fin 10)) (hj : js.length ≤ 30) (k : Nat) : brackenlaw11_DeclEntities.j1 (k + 1) (str (js.flatMap pc)) (str (js.flatMap wc)) = some true := by
  have hl := len_p js
  have hw := len_w js
  generalize hS : js.flatMap pc = S at hl
  have e0 := ent_S js
  have e1 := ent_no js [37] no1
  have e2 := ent_no js [38, 32] no2
  have e3 := ent_no js [38, 35, 48, 59] no3
  have h9 := no39 js
  generalize hV : js.flatMap wc = V at e0 hw
  rw [hS] at e0 e1 e2 e3 h9
  have ef : ∀ l : List UInt8, l.length < 1000 → decl_Entity.f (str l) = some (str (ent l).1, (ent l).2) := by
    intro l h
    unfold decl_Entity.f
    rw [if_pos (by rw [str_size]; omega), str_data]
    rfl
  have f0 := ef S (by omega)
  have f1 := ef (S ++ [37]) (by simp; omega)
  have f2 := ef (S ++ [38, 32]) (by simp; omega)
  have f3 := ef (S ++ [38, 35, 48, 59]) (by simp; omega)
  rw [e0] at f0
  rw [e1] at f1
  rw [e2] at f2
  rw [e3] at f3
  have fd := doc_f _ (by simp [doctypeM, entityM]; omega) _ (ent_doc S V h9 e0)
  have s1 : str S ++ (⟨#[37]⟩ : ByteArray) = str (S ++ [37]) := str_app S [37]
  have s2 : str S ++ (⟨#[38, 32]⟩ : ByteArray) = str (S ++ [38, 32]) := str_app S [38, 32]
  have s3 : str S ++ (⟨#[38, 35, 48, 59]⟩ : ByteArray) = str (S ++ [38, 35, 48, 59]) := str_app S [38, 35, 48, 59]
  have s4 : ((⟨#[60, 33, 68, 79, 67, 84, 89, 80, 69, 32, 97, 91, 60, 33, 69, 78, 84, 73, 84, 89, 32, 113, 32, 39]⟩ : ByteArray) ++ str S) ++ (⟨#[39, 62, 93, 62]⟩ : ByteArray) =
      str (doctypeM ++ (32 :: 97 :: 91 :: (entityM ++ (32 :: 113 :: 32 :: 39 :: (S ++ 39 :: 62 :: [93, 62]))))) := by
    have h1 : (⟨#[60, 33, 68, 79, 67, 84, 89, 80, 69, 32, 97, 91, 60, 33, 69, 78, 84, 73, 84, 89, 32, 113, 32, 39]⟩ : ByteArray) = str [60, 33, 68, 79, 67, 84, 89, 80, 69, 32, 97, 91, 60, 33, 69, 78, 84, 73, 84, 89, 32, 113, 32, 39] := rfl
    have h2 : (⟨#[39, 62, 93, 62]⟩ : ByteArray) = str [39, 62, 93, 62] := rfl
    rw [h1, h2, str_app, str_app]
    exact congrArg str (by simp [doctypeM, entityM])
  have hn : 0 < (doctypeM ++ (32 :: 97 :: 91 :: (entityM ++ (32 :: 113 :: 32 :: 39 :: (S ++ 39 :: 62 :: [93, 62]))))).length := by simp [doctypeM]
  generalize (doctypeM ++ (32 :: 97 :: 91 :: (entityM ++ (32 :: 113 :: 32 :: 39 :: (S ++ 39 :: 62 :: [93, 62]))))).length = n at fd hn
  rw [brackenlaw11_DeclEntities.j1, s1, s2, s3, s4, f0, f1, f2, f3, fd, str_size, told_true]
  have g1 : S.length + 1 ≤ 9223372036854775807 := by omega
  have g2 : S.length + 2 ≤ 9223372036854775807 := by omega
  have g4 : S.length + 4 ≤ 9223372036854775807 := by omega
  have g5 : 24 + S.length ≤ 9223372036854775807 := by omega
  have g6 : 24 + S.length + 4 ≤ 9223372036854775807 := by omega
  simp only [Option.bind_some, if_pos g1, if_pos g2, if_pos g4, if_pos g5, if_pos g6]
  simp [docS, eS, rd_T52, bs, str, ByteArray.toList_eq, hn]
theorem ents_loop (x0 : List Int) : ∀ (d m k : Nat) (js : List (Fin 10)), 30 - m = d → js.length = m → m ≤ 30 → d + 3 ≤ k →
    brackenlaw11_DeclEntities.l0 k x0 ([(⟨#[97]⟩ : ByteArray), (⟨#[38, 35, 54, 53, 59]⟩ : ByteArray), (⟨#[38, 35, 120, 50, 54, 59]⟩ : ByteArray), (⟨#[38, 108, 116, 59]⟩ : ByteArray), (⟨#[38, 101, 59]⟩ : ByteArray), (⟨#[195, 169]⟩ : ByteArray), (⟨#[32]⟩ : ByteArray), (⟨#[60]⟩ : ByteArray), (⟨#[62]⟩ : ByteArray), (⟨#[34]⟩ : ByteArray)] : List ByteArray) ([(⟨#[97]⟩ : ByteArray), (⟨#[65]⟩ : ByteArray), (⟨#[38]⟩ : ByteArray), (⟨#[38, 108, 116, 59]⟩ : ByteArray), (⟨#[38, 101, 59]⟩ : ByteArray), (⟨#[195, 169]⟩ : ByteArray), (⟨#[32]⟩ : ByteArray), (⟨#[60]⟩ : ByteArray), (⟨#[62]⟩ : ByteArray), (⟨#[34]⟩ : ByteArray)] : List ByteArray)
      (str (js.flatMap pc)) (str (js.flatMap wc)) (m : Int) = some true
  | d, m, 0, js, _, _, _, hk => by omega
  | d, m, k + 1, js, hd, hj, hm, hk => by
    obtain ⟨k', rfl⟩ : ∃ z, k = z + 1 := ⟨k - 1, by omega⟩
    rw [brackenlaw11_DeclEntities.l0]
    by_cases c1 : (m : Int) < (x0.length : Int)
    · rw [if_pos c1]
      by_cases c2 : (m : Int) < 30
      · rw [if_pos c2, if_pos (by omega)]
        obtain ⟨i, hi, _⟩ := tm 10 (by decide) (by decide) (rd x0 (m : Int))
        simp only [Int.cast_ofNat_Int] at hi
        rw [hi]
        have hp : ∀ i : Fin 10, rdOf ByteArray.empty ([(⟨#[97]⟩ : ByteArray), (⟨#[38, 35, 54, 53, 59]⟩ : ByteArray), (⟨#[38, 35, 120, 50, 54, 59]⟩ : ByteArray), (⟨#[38, 108, 116, 59]⟩ : ByteArray), (⟨#[38, 101, 59]⟩ : ByteArray), (⟨#[195, 169]⟩ : ByteArray), (⟨#[32]⟩ : ByteArray), (⟨#[60]⟩ : ByteArray), (⟨#[62]⟩ : ByteArray), (⟨#[34]⟩ : ByteArray)] : List ByteArray) (i.val : Int) = str (pc i) := by decide +kernel
        have hq : ∀ i : Fin 10, rdOf ByteArray.empty ([(⟨#[97]⟩ : ByteArray), (⟨#[65]⟩ : ByteArray), (⟨#[38]⟩ : ByteArray), (⟨#[38, 108, 116, 59]⟩ : ByteArray), (⟨#[38, 101, 59]⟩ : ByteArray), (⟨#[195, 169]⟩ : ByteArray), (⟨#[32]⟩ : ByteArray), (⟨#[60]⟩ : ByteArray), (⟨#[62]⟩ : ByteArray), (⟨#[34]⟩ : ByteArray)] : List ByteArray) (i.val : Int) = str (wc i) := by decide +kernel
        rw [hp i, hq i]
        have b1 := len_p (js ++ [i])
        have b2 := len_w (js ++ [i])
        simp only [List.flatMap_append, List.flatMap_cons, List.flatMap_nil, List.append_nil, List.length_append, List.length_singleton] at b1 b2
        have hi2 := i.isLt
        rw [if_pos (by omega), if_pos (by simp only [List.length_cons, List.length_nil]; omega), str_size, str_size, if_pos (by omega), if_pos (by simp only [List.length_cons, List.length_nil]; omega), str_size, str_size, if_pos (by omega), str_app, str_app, w64 _ (by omega) (by omega)]
        have ih := ents_loop x0 (d - 1) (m + 1) (k' + 1) (js ++ [i]) (by omega) (by simp; omega) (by omega) (by omega)
        simp only [List.flatMap_append, List.flatMap_cons, List.flatMap_nil, List.append_nil] at ih
        exact ih
      · rw [if_neg c2]
        exact ents_end js (by omega) k'
    · rw [if_neg c1]
      exact ents_end js (by omega) k'
theorem entities_pure : brackenlaw11_DeclEntities.Pure := by
  intro l _ _ _
  exact ⟨33, ents_loop l 30 0 33 [] rfl rfl (by omega) (by omega)⟩
end Go.Proofs.YtmjdjpelhhibgaaDoor.DP
