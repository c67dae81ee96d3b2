/- The plain law of TokenRows. -/
import Derived.Test.YtmjdjpelhhibgaaDoorKPNext
import Derived.Test.YtmjdjpelhhibgaaDoorR1x15
namespace Go.Proofs.YtmjdjpelhhibgaaDoor.TN
open Go Go.RowKit Go.Proofs.YtmjdjpelhhibgaaDoor.Giv Go.Proofs.YtmjdjpelhhibgaaDoor.Spec Go.Proofs.YtmjdjpelhhibgaaDoor.R1 Go.Proofs.YtmjdjpelhhibgaaDoorW.PrintWords Go.Proofs.YtmjdjpelhhibgaaDoorW.PrintLast
open Go.Proofs.YtmjdjpelhhibgaaDoor.TP Go.Proofs.YtmjdjpelhhibgaaDoor.TA
set_option linter.unusedVariables false
set_option linter.unusedSimpArgs false
theorem pre_app {m l t : List UInt8} (h : m.length ≤ l.length) : pre m (l ++ t) = pre m l := by
  rw [pre_take, pre_take, List.take_append_of_le_length h]
/-! ### the pieces, put side by side -/
def P : List (List UInt8) := [[60, 97, 62], [60, 47, 97, 62], [60, 98, 47, 62], [60, 97, 32, 120, 61, 39, 49, 39, 62], [60, 112, 58, 98, 32, 112, 58, 121, 61, 34, 50, 34, 32, 120, 109, 108, 110, 115, 58, 112, 61, 39, 117, 39, 62], [60, 47, 112, 58, 98, 62], [116, 101, 120, 116], [32], [38, 108, 116, 59], [38, 35, 54, 53, 59], [38, 35, 120, 49, 70, 54, 48, 48, 59], [38, 101, 59], [38, 102, 59], [60, 33, 45, 45, 99, 45, 45, 62], [60, 33, 45, 45, 32, 45], [45, 45, 62], [60, 63, 112, 105, 32, 100, 63, 62], [60, 63, 112, 105, 63, 62], [60, 63, 120, 109, 108, 63, 62], [60, 33, 91, 67, 68, 65, 84, 65, 91, 60, 38, 93, 93, 62], [93, 93, 62], [60, 97], [62], [60], [38], [38, 35, 59], [38, 35, 120, 59], [60, 97, 32, 120, 61, 49, 62], [60, 97, 32, 120, 61, 39, 60, 39, 62], [60, 97, 32, 32, 120, 32, 61, 32, 39, 113, 39, 32, 47, 62], [60, 97, 32, 120, 61, 39, 49, 39, 32, 120, 61, 39, 50, 39, 47, 62], [10], [13], [195, 169], [60, 195, 169, 47, 62], [60, 97, 32, 120, 109, 108, 110, 115, 61, 39, 117, 39, 47, 62], [60, 120, 109, 108, 58, 97, 47, 62], [60, 97, 32, 120, 109, 108, 58, 105, 100, 61, 39, 32, 49, 32, 39, 47, 62], [38, 97, 109, 112, 59], [39]]
theorem P_len : ∀ p ∈ P, 0 < p.length ∧ p.length ≤ 25 := by decide
theorem P_head : ∀ p ∈ P, p.head? ≠ some 63 := by decide
def piB (p : List UInt8) (a : Nat) : Bool := match p.drop a with
  | 60 :: 63 :: 112 :: 105 :: 32 :: _ => true
  | 60 :: 63 :: 112 :: 105 :: 63 :: _ => true
  | 60 :: 63 :: 120 :: 109 :: 108 :: 63 :: _ => true
  | 60 :: 63 :: _ => false
  | _ => true
theorem P_pi : ∀ p ∈ P, ∀ a, a < p.length → piB p a = true := by decide
theorem flat_head : ∀ ps : List (List UInt8), (∀ p ∈ ps, p ∈ P) → ps.flatten.head? ≠ some 63 := by
  intro ps hps
  cases ps with
  | nil => simp
  | cons p ps =>
    have h1 := P_len p (hps p (by simp))
    have h2 := P_head p (hps p (by simp))
    cases p with
    | nil => simp at h1
    | cons c t => simpa using h2
theorem pi_in (p t : List UInt8) (a : Nat) (h : piB p a = true) (hp : pre [60, 63] (p.drop a) = true) : ∃ nm c r, (p.drop a ++ t).drop 2 = nm ++ c :: r ∧ (nm = [112, 105] ∨ nm = [120, 109, 108]) ∧ (c = 32 ∨ c = 63) := by
  unfold piB at h
  split at h
  · next r hr => exact ⟨[112, 105], 32, r ++ t, by rw [hr]; simp, .inl rfl, .inl rfl⟩
  · next r hr => exact ⟨[112, 105], 63, r ++ t, by rw [hr]; simp, .inl rfl, .inr rfl⟩
  · next r hr => exact ⟨[120, 109, 108], 63, r ++ t, by rw [hr]; simp, .inr rfl, .inr rfl⟩
  · cases h
  · next h1 h2 h3 h4 =>
    exfalso
    obtain ⟨X, hX⟩ := pre_split hp
    exact h4 X (by rw [hX]; rfl)
theorem flat_pi : ∀ ps : List (List UInt8), (∀ p ∈ ps, p ∈ P) → PiOk ps.flatten := by
  intro ps
  induction ps with
  | nil =>
    intro _ a h
    have := pre_len h
    simp at this
  | cons p ps ih =>
    intro hps a h
    have hih := ih fun q hq => hps q (by simp [hq])
    have hp := hps p (by simp)
    rw [List.flatten_cons] at h ⊢
    by_cases hlt : a < p.length
    · rw [List.drop_append_of_le_length (by omega)] at h
      have hd2 : (p ++ ps.flatten).drop (a + 2) = (p.drop a ++ ps.flatten).drop 2 := by
        rw [← List.drop_append_of_le_length (by omega), List.drop_drop]
      rw [hd2]
      have hb := P_pi p hp a hlt
      by_cases h2 : a + 1 < p.length
      · rw [pre_app (by simp; omega)] at h
        exact pi_in p _ a hb h
      · exfalso
        have hs : p.drop a = [p[a]] := by rw [List.drop_eq_getElem_cons hlt, List.drop_eq_nil_of_le (by omega)]
        rw [hs] at h
        have hf := flat_head ps fun q hq => hps q (by simp [hq])
        obtain ⟨X, hX⟩ := pre_split h
        have : ps.flatten = 63 :: X := by
          have := (List.cons.inj hX).2
          exact this
        rw [this] at hf
        exact hf rfl
    · obtain ⟨b, rfl⟩ : ∃ b, a = p.length + b := ⟨a - p.length, by omega⟩
      rw [← List.drop_drop, List.drop_left] at h
      obtain ⟨nm, c, r, h1, h2⟩ := hih b h
      refine ⟨nm, c, r, ?_, h2⟩
      rw [show p.length + b + 2 = p.length + (b + 2) by omega, ← List.drop_drop, List.drop_left, h1]
theorem flat_len : ∀ ps : List (List UInt8), (∀ p ∈ ps, p ∈ P) → ps.flatten.length ≤ 25 * ps.length := by
  intro ps
  induction ps with
  | nil => intro _; simp
  | cons p ps ih =>
    intro hps
    have h1 := ih fun q hq => hps q (by simp [hq])
    have h2 := P_len p (hps p (by simp))
    simp only [List.flatten_cons, List.length_append, List.length_cons]
    omega
theorem P_rd (u : Nat) (hu : u < 40) : ∃ p, p ∈ P ∧ rdOf ByteArray.empty (P.map str) (u : Int) = str p := by
  have hlt : u < P.length := hu
  refine ⟨P[u]'hlt, List.getElem_mem hlt, ?_⟩
  unfold rdOf
  rw [Int.toNat_natCast, List.getD_eq_getElem?_getD, List.getElem?_map, List.getElem?_eq_getElem hlt]
  rfl
theorem text_loop (l : List Int) (M : List UInt8 → Prop) (hM : ∀ p, M p → p.length ≤ 25) (hF : ∀ ps : List (List UInt8), (∀ p ∈ ps, M p) → ps.flatten.length ≤ 25 * ps.length) (PB : List ByteArray) (hQ : (PB.length : Int) = 40) (hQr : ∀ u : Nat, u < 40 → ∃ p, M p ∧ rdOf ByteArray.empty PB (u : Int) = str p) : ∀ (d k i : Nat) (ps : List (List UInt8)), 30 - i = d → i ≤ 30 → ps.length = i → (∀ p ∈ ps, M p) → d + 2 < k →
    ∃ qs : List (List UInt8), brackenlaw10_Text.l0 k l 30 PB (str ps.flatten) (i : Int) = some (str qs.flatten) ∧ (∀ p ∈ qs, M p) ∧ qs.length ≤ 30 := by
  intro d
  induction d with
  | zero =>
    intro k i ps hd hi hps hP hk
    obtain ⟨k, rfl⟩ : ∃ m, k = m + 1 := ⟨k - 1, by omega⟩
    refine ⟨ps, ?_, hP, by omega⟩
    rw [brackenlaw10_Text.l0]
    split
    · rw [if_neg (by omega)]
    · rfl
  | succ d ih =>
    intro k i ps hd hi hps hP hk
    obtain ⟨k, rfl⟩ : ∃ m, k = m + 1 := ⟨k - 1, by omega⟩
    by_cases hl : (i : Int) < (l.length : Int)
    · have hw : 0 ≤ IntKind.u64.wrap (rd l (i : Int)) := by unfold IntKind.wrap; simp [IntKind.bits, IntKind.signed]; omega
      obtain ⟨u, hu⟩ : ∃ u : Nat, IntKind.u64.wrap (rd l (i : Int)) = (u : Int) := ⟨(IntKind.u64.wrap (rd l (i : Int))).toNat, by omega⟩
      have hu2 := Aside0.mk hu
      clear hu hw
      have h40 : Aside0 (IntKind.u64.wrap ((PB.length : Int)) = 40) := ⟨by rw [hQ]; decide⟩
      have ht : ((u : Int)).tmod 40 = ((u % 40 : Nat) : Int) := rfl
      have e1 : wrap64 ((i : Int) + 1) = ((i + 1 : Nat) : Int) := by rw [w64 _ (by omega) (by omega)]; omega
      have hu40 : u % 40 < 40 := Nat.mod_lt _ (by decide)
      obtain ⟨u2, hu3⟩ : ∃ u2, u % 40 = u2 := ⟨_, rfl⟩
      rw [hu3] at hu40 ht
      have ht2 := Aside0.mk ht
      clear ht hu3
      obtain ⟨pc, hm, hrd⟩ := hQr u2 hu40
      have hpl := hM _ hm
      have hfl := hF ps hP
      have g1 : 30 - (i + 1) = d := by omega
      have g2 : i + 1 ≤ 30 := by omega
      have g3 : (ps ++ [pc]).length = i + 1 := by rw [List.length_append, List.length_singleton, hps]
      have g4 : d + 2 < k := by omega
      have c1 : (i : Int) < 30 := by omega
      have c2 : (0 : Int) ≤ (i : Int) := by omega
      have c3 : (0 : Int) ≤ (u2 : Int) := by omega
      have c4 : (u2 : Int) < 40 := by omega
      have c5 : (str ps.flatten).size + (str pc).size ≤ 9223372036854775807 := by rw [str_size, str_size]; omega
      obtain ⟨qs, h1, h2, h3⟩ := ih k (i + 1) (ps ++ [pc]) g1 g2 g3 (fun p hp => by
        rcases List.mem_append.1 hp with h | h
        · exact hP p h
        · rw [List.mem_singleton.1 h]; exact hm) g4
      refine ⟨qs, ?_, h2, h3⟩
      rw [brackenlaw10_Text.l0, if_pos hl, if_pos c1, if_pos c2, h40.out, if_neg (by decide), hu2.out, ht2.out, if_pos c3, hQ, if_pos c4, hrd, if_pos c5, e1, str_app]
      rw [List.flatten_append, List.flatten_singleton] at h1
      exact h1
    · refine ⟨ps, ?_, hP, by omega⟩
      rw [brackenlaw10_Text.l0, if_neg hl]
theorem text_f (l : List Int) (k : Nat) (hk : 40 < k) : ∃ L, brackenlaw10_Text.f k l 30 = some (str L) ∧ L.length ≤ 750 ∧ PiOk L := by
  obtain ⟨qs, h1, h2, h3⟩ := text_loop l (fun p => p ∈ P) (fun p hp => (P_len p hp).2) flat_len (P.map str) rfl P_rd 30 k 0 [] rfl (by omega) rfl (by simp) (by omega)
  have := flat_len qs h2
  exact ⟨qs.flatten, h1, by omega, flat_pi qs h2⟩
/-! ### all pieces -/
def KB (L : List UInt8) : Nat := L.length + 100
inductive Chain (L : List UInt8) : Nat → List S27 → Nat → Int → Prop
  | fin : Chain L L.length [] L.length 0
  | bad (p : Nat) (hp : p < L.length) (kd : Int) (n0 : ByteArray) (tx : List UInt8) (ys : List S42) (em : Bool) (z : Int) (h : ∀ k, KB L ≤ k → token_Next.f k (str L) (p : Int) = some (kd, n0, str tx, ys, em, z, 2)) : Chain L p [] p 2
  | step (p n : Nat) (kd : Int) (n0 : ByteArray) (tx : List UInt8) (ys : List S42) (em : Bool) (h : ∀ k, KB L ≤ k → token_Next.f k (str L) (p : Int) = some (kd, n0, str tx, ys, em, ((p + n : Nat) : Int), 0)) (hn : 0 < n) (hp : p + n ≤ L.length)
      (hy : ys.length ≤ L.length) (h1 : kd = 1 → (L.drop p).take n = tx) (h4 : kd = 4 → (L.drop p).take n = comM ++ tx ++ [45, 45, 62]) (h6 : kd = 6 → (L.drop p).take n = cdM ++ tx ++ [93, 93, 62])
      (ts : List S27) (q : Nat) (e : Int) (hc : Chain L (p + n) ts q e) : Chain L p (⟨kd, n0, str tx, ys, em⟩ :: ts) q e
theorem all_any (L : List UInt8) (hL : L.length ≤ 750) (hP : PiOk L) : ∀ (d p k : Nat) (acc : List S27), L.length - p = d → p ≤ L.length → acc.length ≤ p → KB L + d + 1 ≤ k →
    ∃ ts q e, token_All.l0 k (str L) acc (p : Int) = some (acc ++ ts, ((q : Nat) : Int), e) ∧ Chain L p ts q e ∧ ts.length ≤ d := by
  intro d
  induction d using Nat.strongRecOn with
  | _ d ih =>
    intro p k acc hd hp ha hk
    obtain ⟨k, rfl⟩ : ∃ m, k = m + 1 := ⟨k - 1, by omega⟩
    by_cases hlt : p < L.length
    · obtain ⟨kd, n0, tx, ys, em, z, c, h1, h2, h3⟩ := next_any L p hlt (by omega) hP
      have hK : KB L = L.length + 100 := rfl
      rw [token_All.l0, if_pos (by rw [str_size]; omega), h1 k (by omega), Option.bind_some]
      dsimp only
      rcases h3 with ⟨rfl, n, hn, hpn, rfl, q1, q4, q6⟩ | rfl
      · rw [if_pos rfl, if_pos (by omega)]
        obtain ⟨ts, q, e, g1, g2, g3⟩ := ih (L.length - (p + n)) (by omega) (p + n) k (acc ++ [⟨kd, n0, str tx, ys, em⟩]) rfl hpn (by simp; omega) (by omega)
        refine ⟨⟨kd, n0, str tx, ys, em⟩ :: ts, q, e, ?_, Chain.step p n kd n0 tx ys em (fun k hk => h1 k (by omega)) hn hpn h2 q1 q4 q6 ts q e g2, by simp; omega⟩
        rw [g1, List.append_assoc]
        rfl
      · rw [if_neg (by decide)]
        exact ⟨[], p, 2, by rw [List.append_nil], Chain.bad p hlt kd n0 tx ys em z (fun k hk => h1 k (by omega)), by simp⟩
    · obtain rfl : p = L.length := by omega
      rw [token_All.l0, if_neg (by rw [str_size]; omega)]
      exact ⟨[], L.length, 0, by rw [List.append_nil], Chain.fin, by simp⟩
/-! ### the same -/
theorem same_loop (kd : Int) (n0 tx : ByteArray) (ys : List S42) (em : Bool) (hy : ys.length ≤ 750) : ∀ (d i k : Nat), ys.length - i = d → i ≤ ys.length → d + 1 ≤ k →
    brackenref10_SameToken.l0 k (i : Int) kd n0 tx ys em kd n0 tx ys em = some true := by
  intro d
  induction d with
  | zero =>
    intro i k hd hi hk
    obtain ⟨k, rfl⟩ : ∃ m, k = m + 1 := ⟨k - 1, by omega⟩
    rw [brackenref10_SameToken.l0, if_neg (by omega)]
  | succ d ih =>
    intro i k hd hi hk
    obtain ⟨k, rfl⟩ : ∃ m, k = m + 1 := ⟨k - 1, by omega⟩
    have e1 : wrap64 ((i : Int) + 1) = ((i + 1 : Nat) : Int) := by rw [w64 _ (by omega) (by omega)]; omega
    rw [brackenref10_SameToken.l0, if_pos (by omega), if_pos (by omega), if_pos (by omega), if_neg (by simp), e1]
    exact ih (i + 1) k (by omega) (by omega) (by omega)
theorem same_self (kd : Int) (n0 tx : ByteArray) (ys : List S42) (em : Bool) (hy : ys.length ≤ 750) (k : Nat) (hk : ys.length + 2 ≤ k) :
    brackenref10_SameToken.f k kd n0 tx ys em kd n0 tx ys em = some true := by
  obtain ⟨k, rfl⟩ : ∃ m, k = m + 1 := ⟨k - 1, by omega⟩
  unfold brackenref10_SameToken.f
  rw [if_pos rfl, if_pos rfl, if_pos rfl, if_neg (by simp)]
  have hne : ((ys.length : Int) != (ys.length : Int)) = false := by simp
  rw [hne, brackenref10_SameToken.j0, if_neg (by decide)]
  exact same_loop kd n0 tx ys em hy ys.length 0 k (by omega) (by omega) (by omega)
/-! ### the law -/
theorem rows_loop (L : List UInt8) (hL : L.length ≤ 750) : ∀ (p : Nat) (ts : List S27) (q : Nat) (e : Int), Chain L p ts q e → ∀ (done : List S27) (k : Nat), done.length ≤ p → p ≤ L.length → KB L + 760 + ts.length < k →
    brackenlaw10_TokenRows.l0 k (str L) (done ++ ts) (q : Int) e (p : Int) (done.length : Int) = some true := by
  intro p ts q e hc
  induction hc with
  | fin =>
    intro done k hd hp hk
    have hK : KB L = L.length + 100 := rfl
    obtain ⟨k, rfl⟩ : ∃ m, k = m + 2 := ⟨k - 2, by omega⟩
    rw [brackenlaw10_TokenRows.l0, if_neg (by simp), next_end k L, Option.bind_some, told_k (k + 1) (by omega), Option.bind_some, if_pos rfl, if_pos rfl, if_pos rfl, if_pos (by rw [str_size])]
    rfl
  | bad p hp kd n0 tx ys em z h =>
    intro done k hd hp2 hk
    have hK : KB L = L.length + 100 := rfl
    obtain ⟨k, rfl⟩ : ∃ m, k = m + 1 := ⟨k - 1, by omega⟩
    rw [brackenlaw10_TokenRows.l0, if_neg (by simp), h k (by omega), Option.bind_some, told_k k (by omega), Option.bind_some, if_pos rfl, if_pos rfl, if_neg (by decide), if_pos rfl]
    rfl
  | step p n kd n0 tx ys em h hn hpn hy h1 h4 h6 ts q e hc ih =>
    intro done k hd hp hk
    have hK : KB L = L.length + 100 := rfl
    obtain ⟨k, rfl⟩ : ∃ m, k = m + 1 := ⟨k - 1, by omega⟩
    have hrd : rd_T27 (done ++ ⟨kd, n0, str tx, ys, em⟩ :: ts) (done.length : Int) = ⟨kd, n0, str tx, ys, em⟩ := by
      unfold rd_T27
      rw [Int.toNat_natCast, List.getD_eq_getElem?_getD, List.getElem?_append_right (Nat.le_refl _), Nat.sub_self]
      rfl
    have e1 : wrap64 ((done.length : Int) + 1) = ((done.length + 1 : Nat) : Int) := by rw [w64 _ (by omega) (by omega)]; omega
    have hx : ((str L).extract ((p : Int)).toNat (((p + n : Nat) : Int)).toNat).toList = (L.drop p).take n := by
      rw [Int.toNat_natCast, Int.toNat_natCast, str_ext, str_toList, Nat.add_sub_cancel_left]
    have IH := ih (done ++ [⟨kd, n0, str tx, ys, em⟩]) k (by simp; omega) hpn (by simp only [List.length_cons] at hk; omega)
    rw [List.append_assoc, List.length_append, List.length_singleton] at IH
    have hsame := same_self kd n0 (str tx) ys em (by omega) k (by omega)
    rw [brackenlaw10_TokenRows.l0, if_pos (by simp; omega), h k (by omega), Option.bind_some]
    dsimp only
    rw [if_pos rfl, if_neg (by omega), if_neg (by rw [str_size]; omega), if_pos (by omega), hrd]
    dsimp only
    rw [hsame, Option.bind_some, if_pos rfl, hx, e1]
    have c1 : (0 : Int) ≤ (p : Int) := by omega
    have c2 : (p : Int) ≤ ((p + n : Nat) : Int) := by omega
    have c3 : ((p + n : Nat) : Int) ≤ ((str L).size : Int) := by rw [str_size]; omega
    have tl : ∀ x : List UInt8, (L.drop p).take n = x → x.length ≤ 750 := fun x hx => by
      have := congrArg List.length hx
      simp at this
      omega
    by_cases k1 : kd = 1
    · rw [if_pos k1, if_pos c1, if_pos c2, if_pos c3, if_pos (by rw [str_toList]; exact (h1 k1).symm), if_neg (by omega), if_neg (by omega)]
      exact IH
    rw [if_neg k1]
    by_cases k4 : kd = 4
    · have := tl _ (h4 k4)
      simp only [List.length_append] at this
      rw [if_pos k4, if_pos c1, if_pos c2, if_pos c3, if_pos (by rw [str_size]; omega), if_pos (by rw [str_size]; omega), if_pos, if_neg (by omega)]
      · exact IH
      · rw [show (⟨#[60, 33, 45, 45]⟩ : ByteArray) = str comM from rfl, show (⟨#[45, 45, 62]⟩ : ByteArray) = str [45, 45, 62] from rfl, str_app, str_app, str_toList]
        exact h4 k4
    rw [if_neg k4]
    by_cases k6 : kd = 6
    · have := tl _ (h6 k6)
      simp only [List.length_append] at this
      rw [if_pos k6, if_pos c1, if_pos c2, if_pos c3, if_pos (by rw [str_size]; omega), if_pos (by rw [str_size]; omega), if_pos]
      · exact IH
      · rw [show (⟨#[60, 33, 91, 67, 68, 65, 84, 65, 91]⟩ : ByteArray) = str cdM from rfl, show (⟨#[93, 93, 62]⟩ : ByteArray) = str [93, 93, 62] from rfl, str_app, str_app, str_toList]
        exact h6 k6
    rw [if_neg k6]
    exact IH
theorem rows_pure : brackenlaw10_TokenRows.Pure := by
  intro l
  intros
  refine ⟨3000, ?_⟩
  obtain ⟨L, h1, h2, h3⟩ := text_f l 3000 (by omega)
  have hK : KB L = L.length + 100 := rfl
  obtain ⟨ts, q, e, g1, g2, g3⟩ := all_any L h2 h3 L.length 0 3000 [] rfl (by omega) (by simp) (by omega)
  unfold brackenlaw10_TokenRows.f token_All.f
  rw [h1, Option.bind_some]
  rw [show token_All.l0 3000 (str L) [] 0 = _ from g1, Option.bind_some]
  exact rows_loop L h2 0 ts q e g2 [] 3000 (by simp) (by omega) (by omega)
end Go.Proofs.YtmjdjpelhhibgaaDoor.TN
