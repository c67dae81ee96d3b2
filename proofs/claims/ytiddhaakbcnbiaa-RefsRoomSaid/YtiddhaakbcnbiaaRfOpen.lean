/- The walk of RefsOpen. -/
import Derived.Test.YtiddhaakbcnbiaaRfTold
namespace Go.Proofs.Ytiddhaakbcnbiaa.Rf
open Go.RowKit
set_option linter.unusedVariables false
theorem infoE : (Try.prog.info? 25).map (fun i => (i.zero, i.size, i.bytes)) = some (some (.agg #[.string ⟨#[]⟩, .string ⟨#[]⟩, .bool false]), 3, 40) := by kernel_rfl
def abc : ByteArray := ⟨#[97, 98, 99, 100, 101, 102, 103, 104, 105, 106, 107, 108, 109, 110, 111, 112, 113, 114, 115, 116]⟩
def nmE (i : Nat) : ByteArray := abc.extract i (i + 1)
def ents (n : Nat) : List Ent := (List.range n).map fun i => ⟨nmE i, ⟨#[118]⟩, false⟩
def cellsE (E : List Ent) : List Value := E.flatMap fun e => [.string e.nm, .string e.vl, .bool e.ext]
theorem cells_snoc (n : Nat) : cellsE (ents (n + 1)) = cellsE (ents n) ++ [.string (nmE n), .string ⟨#[118]⟩, .bool false] := by
  simp [cellsE, ents, List.range_succ]
theorem cells_block (w : World) (cs : Array Value) (T : TypeId) : ∀ j u, cs.toList[j]? = some u → (w.alloc (.cells cs T)).cell? ((⟨w.heap.size, 0, none⟩ : Addr).add j) = some u := by
  intro j u hu
  have ha : (⟨w.heap.size, 0, none⟩ : Addr).add j = ⟨w.heap.size, j, none⟩ := by unfold Addr.add; split <;> simp_all
  rw [ha, cell_of (heap_alloc_new w _)]
  simpa using hu
theorem cells_len (n : Nat) : (cellsE (ents n)).length = n * 3 := by
  induction n with
  | zero => rfl
  | succ n ih => rw [cells_snoc, List.length_append, ih]; simp; omega
theorem cells_at (n : Nat) : ∀ i j, i < n → j < 3 → (cellsE (ents n))[i * 3 + j]? = ([Value.string (nmE i), .string ⟨#[118]⟩, .bool false])[j]? := by
  induction n with
  | zero => intro i j hi; omega
  | succ n ih =>
    intro i j hi hj
    rw [cells_snoc]
    by_cases h : i < n
    · rw [List.getElem?_append_left (by rw [cells_len]; omega)]
      exact ih i j h hj
    · obtain rfl : i = n := by omega
      rw [List.getElem?_append_right (by rw [cells_len]; omega), cells_len]
      congr 1
      omega
theorem row_of {w : World} {B n : Nat} {v : Value} (h : w.ownsRow B 25 3 v n (cellsE (ents n))) (hn : 0 < n) : ∃ g cap, v = .slice (some ⟨g, 0, none⟩) n cap ∧ RowE w (some ⟨g, 0, none⟩) (ents n) := by
  rcases h.2 with ⟨_, h2⟩ | ⟨g, cap, cur, rfl, hg, h3, _⟩
  · omega
  · refine ⟨g, cap, rfl, fun i hi => ⟨g, 0, rfl, (Array.getElem?_eq_some_iff.1 h3).1, ?_⟩⟩
    have hi2 : i < n := by simpa [ents] using hi
    have hc := h.cells (g := g) rfl
    have ha : ∀ k, (⟨g, 0, none⟩ : Addr).add k = ⟨g, k, none⟩ := by intro k; unfold Addr.add; split <;> simp_all
    have hd : (ents n).getD i ⟨⟨#[]⟩, ⟨#[]⟩, false⟩ = ⟨nmE i, ⟨#[118]⟩, false⟩ := by simp [ents, List.getD, hi2]
    have hk : ∀ j (hj : j < 3), (cellsE (ents n))[i * 3 + j]? = ([Value.string (nmE i), .string ⟨#[118]⟩, .bool false])[j]? := fun j hj => cells_at n i j hi2 hj
    rw [hd]
    refine ⟨?_, ?_, ?_⟩
    · have := hc (i * 3 + 0) _ (hk 0 (by omega)); rw [ha] at this; simpa using this
    · have := hc (i * 3 + 1) _ (hk 1 (by omega)); rw [ha] at this; simpa using this
    · have := hc (i * 3 + 2) _ (hk 2 (by omega)); rw [ha] at this; simpa using this
def names (n : Nat) : List ByteArray := (List.range n).map nmE
theorem all2 (p : Nat → Nat → Bool) (n : Nat) (h : ((List.range n).all fun K => (List.range K).all fun i => p K i) = true) : ∀ K i, K < n → i < K → p K i = true := by
  intro K i hK hi
  have h1 := List.all_eq_true.1 h K (by simpa using hK)
  exact List.all_eq_true.1 h1 i (by simpa using hi)
def okA (K i : Nat) : Bool := decide (openS (ents K) (names i) i (nmE i) 100 = ((⟨#[118]⟩, 0), (names (i + 1), ((i + 1 : Nat) : Int)))) && decide ((entR (ents K) (nmE i)).2.1.size ≤ 100) && decide (closeS (names (i + 1)) (nmE i) = (true, names i)) && (i == 0 || decide (closeS (names (i + 1)) (nmE 0) = (false, names (i + 1))))
theorem okA_all : ((List.range 21).all fun K => (List.range K).all fun i => okA K i) = true := by decide +kernel
def okB (K i m : Nat) : Bool := decide (openS (ents K) (names (i + 1)) ((i + 1 : Nat) : Int) (nmE m) 100 = ((⟨#[]⟩, 1), (names (i + 1), ((i + 1 : Nat) : Int))))
theorem okB_all : ((List.range 21).all fun K => (List.range K).all fun i => (List.range (i + 1)).all fun m => okB K i m) = true := by decide +kernel
theorem openA (K i : Nat) (hK : K ≤ 20) (hi : i < K) : openS (ents K) (names i) i (nmE i) 100 = ((⟨#[118]⟩, 0), (names (i + 1), ((i + 1 : Nat) : Int))) ∧ (entR (ents K) (nmE i)).2.1.size ≤ 100 ∧ closeS (names (i + 1)) (nmE i) = (true, names i) ∧ (i ≠ 0 → closeS (names (i + 1)) (nmE 0) = (false, names (i + 1))) := by
  have := all2 okA 21 okA_all K i (by omega) hi
  unfold okA at this
  simp only [Bool.and_eq_true, decide_eq_true_eq, Bool.or_eq_true, beq_iff_eq] at this
  obtain ⟨⟨⟨h1, h2⟩, h3⟩, h4⟩ := this
  exact ⟨h1, h2, h3, fun h => h4.resolve_left h⟩
theorem openB (K i m : Nat) (hK : K ≤ 20) (hi : i < K) (hm : m ≤ i) : openS (ents K) (names (i + 1)) ((i + 1 : Nat) : Int) (nmE m) 100 = ((⟨#[]⟩, 1), (names (i + 1), ((i + 1 : Nat) : Int))) := by
  have := all2 (fun K i => (List.range (i + 1)).all fun m => okB K i m) 21 okB_all K i (by omega) hi
  have := List.all_eq_true.1 this m (by simp; omega)
  simpa [okB] using this
set_option maxRecDepth 100000 in
set_option maxHeartbeats 4000000 in
theorem open_walk (n : Int) (w : World) (hn : (Lit.int .i64 n).wf = true) : Calls Try.prog 3 #[.int .i64 n] w fun e w' => e = .returned (.bool true) ∧ Below w.heap.size w w' := by
  obtain ⟨i0, hi, hz0, hz1, hz2⟩ := info_parts infoE
  go_enter Try.func3, Try.ntmps3
  go_wp2_with fail
  obtain ⟨K, hK, hK1, hK2⟩ : ∃ K : Nat, wrap64 (1 + wrap64 ((IntKind.u64.wrap n).tmod 20)) = (K : Int) ∧ 1 ≤ K ∧ K ≤ 20 := by
    have hw : 0 ≤ IntKind.u64.wrap n := by unfold IntKind.wrap; simp [IntKind.bits, IntKind.signed]; omega
    have h0 : 0 ≤ Int.tmod (IntKind.u64.wrap n) 20 := Int.tmod_nonneg _ hw
    have h1 : Int.tmod (IntKind.u64.wrap n) 20 < 20 := Int.tmod_lt_of_pos _ (by omega)
    refine ⟨(1 + (IntKind.u64.wrap n).tmod 20).toNat, ?_, by omega, by omega⟩
    unfold wrap64
    omega
  generalize wrap64 (1 + wrap64 ((IntKind.u64.wrap n).tmod 20)) = KI at hK ⊢
  subst hK
  generalize (IntKind.u64.wrap n).tmod 20 = z1
  go_loopw [4, 5] (fun v x wr => ∃ j : Nat, j ≤ K ∧ x = .int .i64 j ∧ wr.ownsRow w.heap.size 25 3 v j (cellsE (ents j)) ∧ Below w.heap.size w wr) (fun _ x _ => K - (intOf x).toNat)
  case atStart => exact ⟨0, by omega, rfl, World.ownsRow_nil _ _ _ _, Below.refl _ _⟩
  case round =>
    obtain ⟨j, hj, rfl, hown, hB⟩ := hrel
    by_cases hlt : j < K
    · go_wp2_with (at_builtin; refine wpList_append_own _ rfl _ _ 23 rfl w.heap.size 25 i0 (.agg #[.string ⟨#[]⟩, .string ⟨#[]⟩, .bool false]) 3 40 Try.underlying23 hi hz0 hz1 hz2 rfl (by decide) u4 j (cellsE (ents j)) rfl (hown.alloc _) ⟨wr.heap.size, 0, none⟩ 1 1 [.string (nmE j), .string ⟨#[118]⟩, .bool false] rfl rfl (cells_block _ _ _) (by intro u hu; simp at hu; rcases hu with rfl | rfl | rfl <;> rfl) (by unfold maxLen; omega) (by omega) (by simp; exact Nat.le_succ_of_le hB.size) ?_; intro v' w1 hown' hgrow _)
      go_roundw
      case rel => exact ⟨j + 1, by omega, by go_num, by rw [cells_snoc]; exact hown', (hB.alloc hB.size _).grown hgrow (by simp; exact Nat.le_succ_of_le hB.size) (fun k hk => (hown.lt k hk).1)⟩
      case measure => first | (simp [intOf]; done) | (simp [intOf]; omega)
    · obtain rfl : j = K := by omega
      obtain ⟨g, cap, rfl, hrow⟩ := row_of hown (by omega)
      have hgl : g < wr.heap.size := by have := hown.lt g rfl; exact this.2
      clear hown hlt hj
      obtain ⟨wo, rfl⟩ : ∃ wo : World, wo = wr := ⟨_, rfl⟩
      go_wp2_with fail
      refine (new_RS _ _ j _ _ (ents j) _ hrow (by simp [ents]) (by omega)).mono ?_
      rintro e w1 ⟨p, rfl, h1⟩
      go_wp2_with fail
      have hcl : ∀ i, i < j → wo.cell? ⟨g, i * 3, none⟩ = some (.string (nmE i)) := by
        intro i hi
        obtain ⟨b, o, hb, _, hc, _⟩ := hrow i (by simpa [ents] using hi)
        cases hb
        rw [Nat.zero_add] at hc
        rw [hc]
        simp [ents, List.getD, hi]
      have h2 : RS wo w1 p (ents j) (names 0) ((0 : Nat) : Int) := h1
      clear h1 hrow hi hz0 hz1 hz2
      go_loopw [7] (fun x wz => ∃ i : Nat, i ≤ j ∧ x = .int .i64 i ∧ RS wo wz p (ents j) (names i) (i : Int)) (fun x _ => j - (intOf x).toNat)
      case atStart => exact ⟨0, by omega, rfl, h2⟩
      case round =>
        obtain ⟨i, hij, rfl, hS⟩ := hrel
        clear h2
        obtain ⟨wi, rfl⟩ : ∃ wi : World, wi = wr := ⟨_, rfl⟩
        have hb := hS.bel
        by_cases hlt : i < j
        · have hci := (hb.cell (p := ⟨g, i * 3, none⟩) hgl).trans (hcl i hlt)
          obtain ⟨hA, hA2, _, _⟩ := openA j i (by omega) hlt
          have hgz : g < wi.heap.size := Nat.lt_of_lt_of_le hgl hb.size
          have HC := hS.opens (nmE i) 100 (by simp [names]; omega) (by omega) (by omega) (by decide) (by decide) (by omega) _ _ _ _ hA
          clear hA hA2
          go_wp2_with fail
          refine HC.mono ?_
          clear HC hci
          rintro e w2 ⟨rfl, hS2⟩
          go_wp2_with fail
          clear hS hb hgz
          go_loopw [10] (fun x wz => ∃ m : Nat, m ≤ i + 1 ∧ x = .int .i64 m ∧ RS wo wz p (ents j) (names (i + 1)) ((i + 1 : Nat) : Int)) (fun x _ => (i + 1) - (intOf x).toNat)
          case atStart => exact ⟨0, by omega, rfl, hS2⟩
          case round =>
            obtain ⟨m, hm, rfl, hS⟩ := hrel
            clear hS2
            have hb := hS.bel
            by_cases hmi : m ≤ i
            · have hci := (hb.cell (p := ⟨g, m * 3, none⟩) hgl).trans (hcl m (by omega))
              have hgz : g < wr.heap.size := Nat.lt_of_lt_of_le hgl hb.size
              obtain ⟨_, hA2, _, _⟩ := openA j m (by omega) (by omega)
              have HC := hS.opens (nmE m) 100 (by simp [names]; omega) (by omega) (by omega) (by decide) (by decide) (by omega) _ _ _ _ (openB j i m (by omega) hlt hmi)
              clear hA2
              go_wp2_with fail
              refine HC.mono ?_
              clear HC hci
              rintro e w2 ⟨rfl, hS2⟩
              go_wp2_with fail
              go_roundw
              case rel => exact ⟨m + 1, by omega, by go_num, hS2⟩
              case measure => first | (simp [intOf]; done) | (simp [intOf]; omega)
            · obtain rfl : m = i + 1 := by omega
              go_wp2_with fail
              go_roundw
              case rel => exact ⟨i + 1, by omega, by go_num, hS⟩
              case measure => first | (simp [intOf]; done) | (simp [intOf]; omega)
        · obtain rfl : i = j := by omega
          clear hlt hij
          have hlen : (names i).length = i := by simp [names]
          have HL := Lib.hid hlen
          clear hlen
          have HD := hS.depth
          rw [HL.out] at HD
          by_cases hi1 : i = 1
          · subst hi1
            go_wp2_with fail
            refine hS.spent.mono ?_
            rintro e w2 ⟨rfl, rfl⟩
            go_wp2_with fail
            refine HD.mono ?_
            rintro e w2 ⟨rfl, rfl⟩
            go_wp2_with fail
            clear HD hb
            go_loopw [13] (fun x wz => ∃ m : Nat, m ≤ 1 ∧ x = .int .i64 ((m : Int) - 1) ∧ RS wo wz p (ents 1) (names m) (1 : Int)) (fun x _ => (intOf x + 1).toNat)
            case atStart => exact ⟨1, by omega, rfl, hS⟩
            case round =>
              obtain ⟨m, hm, rfl, hS2⟩ := hrel
              clear hS
              have hb2 := hS2.bel
              by_cases hm0 : m = 0
              · subst hm0
                go_wp2_with fail
                refine (told_calls _).mono ?_
                rintro e w3 ⟨rfl, hb3⟩
                replace hS2 := hS2.below hb3
                clear hb3 hb2
                go_wp2_with fail
                refine hS2.depth.mono ?_
                rintro e w4 ⟨rfl, rfl⟩
                go_wp2_with fail
                refine (hS2.closes ⟨#[97]⟩ (by decide) false [] (by decide +kernel)).mono ?_
                rintro e w4 ⟨rfl, hS3⟩
                go_wp2_with fail
                go_ret
                exact ⟨rfl, hB.trans (hS3.bel.mono hB.size)⟩
              · obtain ⟨q, rfl⟩ : ∃ q, m = q + 1 := ⟨m - 1, by omega⟩
                have hci := (hb2.cell (p := ⟨g, q * 3, none⟩) hgl).trans (hcl q (by omega))
                have hgz : g < wr.heap.size := Nat.lt_of_lt_of_le hgl hb2.size
                obtain ⟨_, _, hA3, _⟩ := openA 1 q (by omega) (by omega)
                have HC := hS2.closes (nmE q) (by simp [names]; omega) _ _ hA3
                have e1 : (((q + 1 : Nat) : Int) - 1) = (q : Int) := by omega
                rw [e1]
                clear hA3 e1
                go_wp2_with fail
                refine HC.mono ?_
                clear HC hci
                rintro e w2 ⟨rfl, hS3⟩
                go_wp2_with fail
                go_roundw
                case rel => exact ⟨q, by omega, by go_num, hS3⟩
                case measure => first | (simp [intOf]; done) | (simp [intOf]; omega)
          · have hi2 : 1 < i := by omega
            obtain ⟨q, rfl⟩ : ∃ q, i = q + 1 := ⟨i - 1, by omega⟩
            obtain ⟨_, _, _, hA4⟩ := openA (q + 1) q (by omega) (by omega)
            have HC := fun W (h : RS wo W p (ents (q + 1)) (names (q + 1)) ((q + 1 : Nat) : Int)) => h.closes (nmE 0) (by simp [names]; omega) _ _ (hA4 (by omega))
            have hci := (hb.cell (p := ⟨g, 0 * 3, none⟩) hgl).trans (hcl 0 (by omega))
            have hgz : g < wi.heap.size := Nat.lt_of_lt_of_le hgl hb.size
            rw [Nat.zero_mul] at hci
            clear hA4
            go_wp2_with fail
            refine hS.spent.mono ?_
            rintro e w2 ⟨rfl, rfl⟩
            go_wp2_with fail
            refine HD.mono ?_
            rintro e w2 ⟨rfl, rfl⟩
            go_wp2_with fail
            refine (HC _ hS).mono ?_
            clear hS HD hb HC hci hgz
            rintro e w2 ⟨rfl, hS⟩
            go_wp2_with fail
            go_loopw [13] (fun x wz => ∃ m : Nat, m ≤ (q + 1) ∧ x = .int .i64 ((m : Int) - 1) ∧ RS wo wz p (ents (q + 1)) (names m) ((q + 1) : Int)) (fun x _ => (intOf x + 1).toNat)
            case atStart => exact ⟨(q + 1), by omega, by go_num, hS⟩
            case round =>
              obtain ⟨m, hm, rfl, hS2⟩ := hrel
              clear hS
              have hb2 := hS2.bel
              by_cases hm0 : m = 0
              · subst hm0
                go_wp2_with fail
                refine (told_calls _).mono ?_
                rintro e w3 ⟨rfl, hb3⟩
                replace hS2 := hS2.below hb3
                clear hb3 hb2
                go_wp2_with fail
                refine hS2.depth.mono ?_
                rintro e w4 ⟨rfl, rfl⟩
                go_wp2_with fail
                refine (hS2.closes ⟨#[97]⟩ (by decide) false [] (by decide +kernel)).mono ?_
                rintro e w4 ⟨rfl, hS3⟩
                go_wp2_with fail
                go_ret
                exact ⟨rfl, hB.trans (hS3.bel.mono hB.size)⟩
              · obtain ⟨q, rfl⟩ : ∃ q, m = q + 1 := ⟨m - 1, by omega⟩
                have hci := (hb2.cell (p := ⟨g, q * 3, none⟩) hgl).trans (hcl q (by omega))
                have hgz : g < wr.heap.size := Nat.lt_of_lt_of_le hgl hb2.size
                obtain ⟨_, _, hA3, _⟩ := openA (q + 1) q (by omega) (by omega)
                have HC := hS2.closes (nmE q) (by simp [names]; omega) _ _ hA3
                have e1 : (((q + 1 : Nat) : Int) - 1) = (q : Int) := by omega
                rw [e1]
                clear hA3 e1
                go_wp2_with fail
                refine HC.mono ?_
                clear HC hci
                rintro e w2 ⟨rfl, hS3⟩
                go_wp2_with fail
                go_roundw
                case rel => exact ⟨q, by omega, by go_num, hS3⟩
                case measure => first | (simp [intOf]; done) | (simp [intOf]; omega)
end Go.Proofs.Ytiddhaakbcnbiaa.Rf
