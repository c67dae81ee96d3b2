/- A replacer of single bytes, at work. -/
import Derived.Test.YtmjdjpelhhibgaaGreatDoorVRpS
import Derived.Deep.DeepCutAuto
import Derived.Deep.CutRange
import Derived.Deep.CutBlock
import Derived.Laws.CopyRow
import Derived.Laws.IdiomStrings
namespace Go.Proofs.YtmjdjpelhhibgaaGreatDoor.Rep
open Go Go.RowKit Go.Proofs.YtmjdjpelhhibgaaGreatDoor.Rf Go.Proofs.YtmjdjpelhhibgaaGreatDoor.Once
set_option linter.unusedVariables false
set_option linter.unusedSimpArgs false
/-- The cell of one byte, as a walk reads it. -/
theorem bst_cell {B : Nat} {W : World} {bk : Nat} {M : List (UInt8 × ByteArray)} (h : Bst B W bk M) (c : UInt8) :
    (look c M = none ∧ W.cell? ⟨bk, c.toNat, none⟩ = some (.slice none 0 0)) ∨ (∃ v g cap, look c M = some v ∧ W.cell? ⟨bk, c.toNat, none⟩ = some (.slice (some ⟨g, 0, none⟩) v.size cap) ∧ RowB W g v) := by
  obtain ⟨_, cs, tr, hcs, hz, hct, _⟩ := h
  have hc := hct c
  have hcell : W.cell? ⟨bk, c.toNat, none⟩ = cs[c.toNat]? := cell_of hcs c.toNat
  cases hl : look c M with
  | none => rw [hl] at hc; exact .inl ⟨rfl, hcell.trans hc⟩
  | some v =>
    rw [hl] at hc
    obtain ⟨g, cap, h1, h2⟩ := hc
    exact .inr ⟨v, g, cap, rfl, hcell.trans h1, h2⟩
theorem bst_keys {B : Nat} {W : World} {bk : Nat} {M : List (UInt8 × ByteArray)} (h : Bst B W bk M) (hM : 1 ≤ M.length) : ∃ g cap, W.cell? ⟨bk, 256, none⟩ = some (.slice (some ⟨g, 0, none⟩) M.length cap) ∧ M.length ≤ cap ∧ ∀ j p, M.reverse[j]? = some p → W.cell? ⟨g, j, none⟩ = some (.string ⟨#[p.1]⟩) := by
  obtain ⟨_, cs, tr, hcs, hz, hct, ht, hown⟩ := h
  have hcell : W.cell? ⟨bk, 256, none⟩ = cs[256]? := cell_of hcs 256
  rcases hown.2 with ⟨_, h0⟩ | ⟨g, cap, cur, rfl, hb, hg, hle, hcm, hcz, htk⟩
  · omega
  · refine ⟨g, cap, hcell.trans ht, hle, ?_⟩
    intro j p hp
    have := hown.cells (g := g) rfl j (.string ⟨#[p.1]⟩) (by rw [List.getElem?_map, hp]; rfl)
    by_cases hj : j = 0
    · subst hj; simpa [Addr.add] using this
    · simpa [Addr.add, hj] using this
/-- The row that is being filled. -/
structure Fil (w : World) (M : List (UInt8 × ByteArray)) (l : List UInt8) (NN k : Nat) (wr : World) : Prop where
  bel : Below w.heap.size w wr
  row : ∃ cur, wr.heap[w.heap.size]? = some (.cells cur TU (0, 0)) ∧ cur.size = NN ∧ cur.toList.take (repl M (l.take k)).length = Lib.byteCells (repl M (l.take k))
theorem fil_start (w : World) (q : Nat) (M : List (UInt8 × ByteArray)) (l : List UInt8) (NN : Nat) : Fil w M l NN 0 ((w.drewN q).alloc (.cells (madeCells #[.int .u8 0] NN) TU)) := by
  refine ⟨(show Below w.heap.size w (w.drewN q) from ⟨rfl, rfl, rfl, Nat.le_refl _, fun _ _ => rfl⟩).alloc (Nat.le_refl _) _, _, heap_alloc_new (w.drewN q) _, size_madeCells _ _, ?_⟩
  simp [repl, Lib.byteCells]
theorem fil_put {w wr : World} {M : List (UInt8 × ByteArray)} {l : List UInt8} {NN k : Nat} {bs : List UInt8} (h : Fil w M l NN k wr) (hR : repl M (l.take (k + 1)) = repl M (l.take k) ++ bs) (hle : (repl M (l.take k)).length + bs.length ≤ NN)
    {W : World} {cur : Array Value} (hcur : wr.heap[w.heap.size]? = some (.cells cur TU (0, 0))) (hW : W.heap[w.heap.size]? = some (.cells (cur.toList.take (repl M (l.take k)).length ++ Lib.byteCells bs ++ cur.toList.drop ((repl M (l.take k)).length + bs.length)).toArray TU (0, 0))) (hb : Below w.heap.size w W) : Fil w M l NN (k + 1) W := by
  obtain ⟨hbel, cur', hc, hz, ht⟩ := h
  rw [hc] at hcur
  simp only [Option.some.injEq, Obj.cells.injEq, and_true, true_and] at hcur
  subst hcur
  have hl : cur'.toList.length = NN := by rw [Array.length_toList, hz]
  refine ⟨hb, _, hW, ?_, ?_⟩
  · rw [List.size_toArray, List.length_append, List.length_append, List.length_take, List.length_drop, Lib.byteCells_length, hl]
    omega
  · rw [hR, List.length_append, ht, Lib.byteCells_append]
    have e : (Lib.byteCells (repl M (l.take k)) ++ Lib.byteCells bs).length = (repl M (l.take k)).length + bs.length := by rw [List.length_append, Lib.byteCells_length, Lib.byteCells_length]
    rw [← e, List.take_left]
theorem fil_one {w wr : World} {M : List (UInt8 × ByteArray)} {l : List UInt8} {NN k : Nat} {c : UInt8} (h : Fil w M l NN k wr) (hR : repl M (l.take (k + 1)) = repl M (l.take k) ++ [c]) (hle : (repl M (l.take k)).length + 1 ≤ NN) :
    Fil w M l NN (k + 1) (wr.setCell ⟨w.heap.size, (repl M (l.take k)).length, none⟩ (.int .u8 (c.toNat : Int))) := by
  obtain ⟨cur, hcur, hz, ht⟩ := h.row
  have hl : cur.toList.length = NN := by rw [Array.length_toList, hz]
  refine fil_put h hR hle hcur ?_ (h.bel.setCell (p := ⟨w.heap.size, _, none⟩) (Nat.le_refl _) _)
  rw [setCell_heap hcur]
  congr 2
  apply Array.toList_inj.mp
  rw [Array.toList_setIfInBounds]
  show _ = cur.toList.take (repl M (l.take k)).length ++ [Value.int .u8 (c.toNat : Int)] ++ cur.toList.drop ((repl M (l.take k)).length + 1)
  rw [List.set_eq_take_append_cons_drop, if_pos (by omega)]
  simp
theorem setRow_below {w W : World} (h : Below w.heap.size w W) (c : Array Value) : Below w.heap.size w (W.drew.setRow w.heap.size c) := by
  refine ⟨h.os, h.tape, h.output, ?_, fun k hk => ?_⟩
  · have := h.size
    simp [World.setRow]; omega
  · rw [← h.block k hk]
    unfold World.setRow
    rw [Array.getElem?_modify, if_neg (by omega)]
    rfl
theorem fil_copy {w wr : World} {cur : Array Value} {NN g : Nat} {v : ByteArray} (hcur : wr.heap[w.heap.size]? = some (.cells cur TU (0, 0))) (hcz : cur.size = NN) (hb : Below w.heap.size w wr) (hr : RowB w g v) (cap J : Nat) (hle : J + v.size ≤ NN) :
    ∀ (ty : TypeId), (Builtin.copy_ #[56, 56] ty #[.slice (some ⟨w.heap.size, J, none⟩) (NN - J) (NN - J), .slice (some ⟨g, 0, none⟩) v.size cap]).run Tryz.prog wr.drew = .ok (.int .i64 (v.size : Int)) (wr.drew.setRow w.heap.size (cur.toList.take J ++ Lib.strCells v ++ cur.toList.drop (J + v.size)).toArray) := by
  intro ty
  obtain ⟨rc, fz, hg, hrc⟩ := hr
  have hgl := (Array.getElem?_eq_some_iff.1 hg).1
  have hcl : (Lib.strCells v).length = v.size := Lib.strCells_length v
  have h := run_copy_row (P := Tryz.prog) wr.drew 56 56 ty TU w.heap.size J (NN - J) (NN - J) ⟨g, 0, none⟩ v.size cap cur TU (Lib.strCells v) Tryz.underlying56 (by kernel_rfl) hcur (by rw [hcl]; exact (Nat.min_eq_left (by omega)).symm) ?_ (by rw [hcl, hcz]; omega) (Lib.strCells_oneCell v)
  · rw [hcl] at h
    exact h
  · intro j u hj
    have hjv : j < v.size := by have := (List.getElem?_eq_some_iff.1 hj).1; omega
    have h1 := hrc j hjv
    have h2 : wr.drew.heap[g]? = some (.cells rc TU fz) := (hb.block g hgl).trans hg
    have h3 : wr.drew.cell? ((⟨g, 0, none⟩ : Addr).add j) = rc[j]? := by
      by_cases hj0 : j = 0
      · subst hj0; simpa [Addr.add] using cell_of h2 0
      · simpa [Addr.add, hj0] using cell_of h2 j
    rw [h3, h1, ← hj]
    have hjd : j < v.data.size := hjv
    simp [Lib.strCells, List.getD]
    rw [Array.getElem?_eq_getElem hjd]
    rfl
theorem conv_row (W : World) (b NN : Nat) (cur : Array Value) (fz : Nat × Nat) (l : List UInt8) (h : W.heap[b]? = some (.cells cur TU fz)) (hc : cur.toList = Lib.byteCells l) (hl : l.length = NN) :
    (convert 56 9 (.slice (some ⟨b, 0, none⟩) NN NN)).run Tryz.prog W = .ok (.string ⟨l.toArray⟩) W := by
  subst hl
  refine run_convert_bytes_back W 56 9 TU ⟨b, 0, none⟩ l.length l Tryz.underlying56 Tryz.underlying5 Tryz.underlying9 ?_
  intro j hj
  have h1 : cur[j]? = some (.int .u8 (l[j].toNat : Int)) := by rw [← Array.getElem?_toList, hc]; simp [Lib.byteCells, hj]
  by_cases hj0 : j = 0
  · subst hj0; simpa [Addr.add] using (cell_of h 0).trans h1
  · simpa [Addr.add, hj0] using (cell_of h j).trans h1
theorem look_mem (M : List (UInt8 × ByteArray)) (hnd : (M.map (·.1)).Nodup) (p : UInt8 × ByteArray) (hp : p ∈ M) : look p.1 M = some p.2 := by
  induction M with
  | nil => cases hp
  | cons q M ih =>
    rw [List.map_cons, List.nodup_cons] at hnd
    rw [show q = (q.1, q.2) from rfl, look_cons]
    rcases List.mem_cons.1 hp with rfl | hp
    · rw [if_pos rfl]
    · rw [if_neg (fun e => hnd.1 (List.mem_map.2 ⟨p, hp, e.symm⟩))]
      exact ih hnd.2 hp
set_option maxRecDepth 100000 in
set_option maxHeartbeats 4000000 in
theorem replace_any (B bk : Nat) (M : List (UInt8 × ByteArray)) (hnd : (M.map (·.1)).Nodup) (hM : 2 ≤ M.length) (hM2 : M.length ≤ 100) (hV : ∀ p ∈ M, 2 ≤ p.2.size ∧ p.2.size ≤ 100) (s : ByteArray) (hs : s.size ≤ 1000000000) (w : World) (h : Bst B w bk M) :
    Calls Tryz.prog 160 #[.pointer (some ⟨bk, 0, none⟩), .string s] w fun e w' => e = .returned (.string ⟨(repl M s.data.toList).toArray⟩) ∧ Below w.heap.size w w' := by
  obtain ⟨kg, kcap, hk, hkc, hkeys⟩ := bst_keys h (by omega)
  obtain ⟨m, hm⟩ : ∃ m, M.length = m := ⟨_, rfl⟩
  rw [hm] at hk hkc hM hM2
  have HM := Lib.hid hm
  have HB := Lib.hid h
  have HK := Lib.hid hkeys
  have HV := Lib.hid hV
  have HND := Lib.hid hnd
  clear hm h hkeys hV hnd
  go_enter Tryz.func160, Tryz.ntmps160
  go_upto_if 26 with (fail)
  go_cut [5, 6] (fun z y wx => z = .int .i64 ((repl M s.data.toList).length : Int) ∧ y = .bool (s.data.toList.any (isIn M)) ∧ ∃ q, wx = w.drewN q)
  case first =>
    have hN : ((repl M s.data.toList).length : Int) = s.size + moreAll M s.data.toList := repl_length M s.data.toList
    have hmb := moreBy_all M HND.out s.data.toList
    have hab := anyBy_all M s.data.toList
    by_cases hcnt : (m : Int) * 8 ≤ (s.size : Int)
    · have hdc : decide ((m : Int) * 8 ≤ (s.size : Int)) = true := by simpa using hcnt
      go_wp2
      try rw [hdc]
      go_loopw [32, 5, 6] (fun u z y wr => ∃ k : Nat, u = .int .i64 k ∧ k ≤ m ∧ z = .int .i64 ((s.size : Int) + moreBy s.data.toList (M.reverse.take k)) ∧ y = .bool (anyBy s.data.toList (M.reverse.take k)) ∧ ∃ q, wr = w.drewN q) (fun u _ _ _ => m - (intOf u).toNat)
      case atStart => exact ⟨0, rfl, by omega, by simp [moreBy], by simp [anyBy], 0, rfl⟩
      case round =>
        obtain ⟨k, rfl, hk2, rfl, rfl, q, rfl⟩ := hrel
        by_cases hlt : k < m
        · obtain ⟨p, hp⟩ : ∃ p, M.reverse[k]? = some p := by
            have : k < M.reverse.length := by rw [List.length_reverse, HM.out]; exact hlt
            exact ⟨_, List.getElem?_eq_getElem this⟩
          have d0 := HK.out k p hp
          have hpM : p ∈ M := by have := List.mem_of_getElem? hp; simpa using this
          have hlk : look p.1 M = some p.2 := look_mem M HND.out p hpM
          obtain ⟨hp2, hp3⟩ := HV.out p hpM
          obtain ⟨g, cap, hcl⟩ : ∃ g cap, w.cell? ⟨bk, p.1.toNat, none⟩ = some (.slice (some ⟨g, 0, none⟩) p.2.size cap) := by
            rcases bst_cell HB.out p.1 with ⟨h1, _⟩ | ⟨v, g, cap, h1, h2, _⟩
            · rw [hlk] at h1; cases h1
            · rw [hlk] at h1
              obtain rfl := Option.some.inj h1
              exact ⟨g, cap, h2⟩
          have htk : M.reverse.take (k + 1) = M.reverse.take k ++ [p] := by rw [List.take_add_one, hp]; rfl
          have hbd := moreBy_bd s.data.toList (M.reverse.take k) (fun q hq => HV.out q (by have := List.mem_of_mem_take hq; simpa using this))
          have hbl : s.data.toList.length * 100 * (M.reverse.take k).length ≤ 1000000000 * 100 * 100 := by
            have h1 : s.data.toList.length = s.size := rfl
            have h2 : (M.reverse.take k).length ≤ 100 := by rw [List.length_take]; omega
            exact Nat.mul_le_mul (Nat.mul_le_mul (by omega) (Nat.le_refl _)) h2
          have hb1 : 0 ≤ moreBy s.data.toList (M.reverse.take k) := hbd.1
          have hb2 : moreBy s.data.toList (M.reverse.take k) ≤ 10000000000000 := by have := hbd.2; omega
          have cC := fun W => Tryz.strings_Count_one s p.1 W
          have hcb := cnt_bd s.data.toList p.1
          have hm1 : moreBy s.data.toList (M.reverse.take (k + 1)) = moreBy s.data.toList (M.reverse.take k) + (Lib.countByte s.data.toList p.1 : Int) * ((p.2.size : Int) - 1) := by
            rw [htk, moreBy_app]; simp [moreBy]
          have ha1 : anyBy s.data.toList (M.reverse.take (k + 1)) = (anyBy s.data.toList (M.reverse.take k) || decide (Lib.countByte s.data.toList p.1 ≠ 0)) := by
            rw [htk]; unfold anyBy; rw [List.any_append]; simp
          have hX0 : 0 ≤ (Lib.countByte s.data.toList p.1 : Int) * ((p.2.size : Int) - 1) := Int.mul_nonneg (by omega) (by omega)
          have hX1 : (Lib.countByte s.data.toList p.1 : Int) * ((p.2.size : Int) - 1) ≤ 100000000000 := by
            have h5 := mul_bd (Lib.countByte s.data.toList p.1) (p.2.size - 1) 1000000000 100 (by have h1 : s.data.toList.length = s.size := rfl; omega) (by omega)
            have h6 : ((p.2.size - 1 : Nat) : Int) = (p.2.size : Int) - 1 := by omega
            rw [h6] at h5
            omega
          obtain ⟨K, hK⟩ : ∃ K : ByteArray, K = ⟨#[p.1]⟩ := ⟨_, rfl⟩
          rw [← hK] at d0 cC
          have hk0 : ∀ h : 0 < K.size, K[0]'h = p.1 := by subst hK; intro h; rfl
          have hks : K.size = 1 := by subst hK; rfl
          have hkz : 0 < K.size := by omega
          have hc256 := p.1.toNat_lt
          have HM1 := Lib.hid hm1
          have HA1 := Lib.hid ha1
          clear hK hm1 ha1 hbd hbl htk hlk hpM hp hcb hN hmb hab
          generalize moreBy s.data.toList (M.reverse.take k) = Y at *
          generalize anyBy s.data.toList (M.reverse.take k) = A at *
          generalize hCN : Lib.countByte s.data.toList p.1 = CN at *
          clear hCN
          obtain ⟨pk, pv⟩ := p
          simp only at *
          by_cases hz : CN = 0
          · have hz1 : ((CN : Int) != 0) = false := by simp [hz]
            go_wp2_with (go_at_call 162; refine (cC _).mono ?_; rintro e w' ⟨rfl, rfl⟩)
            go_roundw
            case rel => exact ⟨k + 1, by go_num, by omega, by rw [HM1.out, hz]; simp, by rw [HA1.out, hz]; simp, q, rfl⟩
            case measure => simp [intOf]; omega
          · have hz1 : ((CN : Int) != 0) = true := by simp [hz]
            go_wp2_with (go_at_call 162; refine (cC _).mono ?_; rintro e w' ⟨rfl, rfl⟩)
            go_quiet (fail)
            go_wp2
            go_roundw
            case rel => exact ⟨k + 1, by go_num, by omega, by rw [HM1.out, Int.add_assoc], by rw [HA1.out, decide_eq_true hz]; simp, _, rfl⟩
            case measure => simp [intOf]; omega
        · obtain rfl : k = m := by omega
          have htk : M.reverse.take k = M.reverse := List.take_of_length_le (by rw [List.length_reverse, HM.out]; omega)
          rw [htk, moreBy_rev, hmb, ← hN, anyBy_rev, hab]
          clear hN hmb hab htk
          go_wp2
          go_meet
          case rel => exact ⟨rfl, rfl, q, rfl⟩
    · have hdc : decide ((m : Int) * 8 ≤ (s.size : Int)) = false := by simpa using hcnt
      go_wp2
      try rw [hdc]
      go_loopw [10, 5, 6] (fun u z y wr => ∃ k : Nat, u = .int .i64 k ∧ k ≤ s.size ∧ z = .int .i64 ((s.size : Int) + moreAll M (s.data.toList.take k)) ∧ y = .bool ((s.data.toList.take k).any (isIn M)) ∧ ∃ q, wr = w.drewN q) (fun u _ _ _ => s.size - (intOf u).toNat)
      case atStart => exact ⟨0, rfl, by omega, by simp [moreAll], by simp, 0, rfl⟩
      case round =>
        obtain ⟨k, rfl, hk2, rfl, rfl, q, rfl⟩ := hrel
        have hsl : s.data.toList.length = s.size := rfl
        by_cases hlt : k < s.size
        · obtain ⟨c, hc⟩ : ∃ c, s[k]'hlt = c := ⟨_, rfl⟩
          have htk : s.data.toList.take (k + 1) = s.data.toList.take k ++ [c] := by
            rw [List.take_add_one, List.getElem?_eq_getElem (by omega)]
            rw [← hc]; rfl
          have hbd := moreAll_bd M HV.out (s.data.toList.take k)
          have hb1 : 0 ≤ moreAll M (s.data.toList.take k) := hbd.1
          have hb2 : moreAll M (s.data.toList.take k) ≤ 100000000000 := by have := hbd.2; rw [List.length_take] at this; omega
          have hm1 : moreAll M (s.data.toList.take (k + 1)) = moreAll M (s.data.toList.take k) + more M c := by rw [htk, moreAll_snoc]
          have ha1 : (s.data.toList.take (k + 1)).any (isIn M) = ((s.data.toList.take k).any (isIn M) || isIn M c) := by rw [htk, List.any_append]; simp
          have HM1 := Lib.hid hm1
          have HA1 := Lib.hid ha1
          have hc256 := c.toNat_lt
          have hN1 := nenil
          have hN2 := nenil2
          have hcell := bst_cell HB.out c
          clear hm1 ha1 hbd htk hN hmb hab
          generalize moreAll M (s.data.toList.take k) = Y at *
          generalize (s.data.toList.take k).any (isIn M) = A at *
          rcases hcell with ⟨hl, hcl⟩ | ⟨v, g, cap, hl, hcl, hrw⟩
          · have hmo : more M c = 0 := by unfold more; rw [hl]
            have hin : isIn M c = false := by unfold isIn; rw [hl]; rfl
            go_wp2
            go_roundw
            case rel => exact ⟨k + 1, by go_num, by omega, by rw [HM1.out, hmo]; simp, by rw [HA1.out, hin]; simp, q, rfl⟩
            case measure => simp [intOf]; omega
          · have hmo : more M c = (v.size : Int) - 1 := by unfold more; rw [hl]
            have hin : isIn M c = true := by unfold isIn; rw [hl]; rfl
            obtain ⟨p, hp, hpv⟩ : ∃ p ∈ M, p.2 = v := by
              unfold look at hl
              cases hf : M.find? fun p => p.1 == c with
              | none => rw [hf] at hl; cases hl
              | some p => rw [hf] at hl; exact ⟨p, List.mem_of_find?_eq_some hf, Option.some.inj hl⟩
            have hvs := HV.out p hp
            rw [hpv] at hvs
            obtain ⟨hv1, hv2⟩ := hvs
            clear hl hrw hp hpv
            go_wp2
            go_roundw
            case rel => exact ⟨k + 1, by go_num, by omega, by rw [HM1.out, hmo, Int.add_assoc], by rw [HA1.out, hin]; simp, q, rfl⟩
            case measure => simp [intOf]; omega
        · obtain rfl : k = s.size := by omega
          have htk : s.data.toList.take s.size = s.data.toList := List.take_of_length_le (by omega)
          rw [htk, ← hN]
          clear hN hmb hab htk
          go_wp2
          go_meet
          case rel => exact ⟨rfl, rfl, q, rfl⟩
  case rest =>
    obtain ⟨rfl, rfl, q, rfl⟩ := hcut
    obtain ⟨NN, hNN⟩ : ∃ n, (repl M s.data.toList).length = n := ⟨_, rfl⟩
    have hlen := repl_length M s.data.toList
    have hbd := moreAll_bd M HV.out s.data.toList
    have hsl : s.data.toList.length = s.size := rfl
    rw [hNN]
    have hNb : NN ≤ 101000000000 := by omega
    have HNN := Lib.hid hNN
    clear hlen hbd hNN
    cases hany : s.data.toList.any (isIn M) with
    | false =>
      have hr := repl_none M _ hany
      have HRr := Lib.hid hr
      clear hany hr
      go_wp2
      go_ret
      refine ⟨?_, ⟨rfl, rfl, rfl, Nat.le_refl _, fun _ _ => rfl⟩⟩
      rw [HRr.out]
      rfl
    | true =>
      obtain ⟨i0, hi, hz0, hz1, hz2⟩ := info_parts Val.infoU
      have hmk : ∀ W : World, (Instr.makeSlice 56 (.int .i64 (NN : Int)) (.int .i64 (NN : Int))).run Tryz.prog W = .ok (.slice (some ⟨W.heap.size, 0, none⟩) NN NN) (W.alloc (.cells (madeCells #[.int .u8 0] NN) TU)) := fun W => by
        have := run_make (P := Tryz.prog) W 56 TU i0 (.int .u8 0) Tryz.underlying56 hi hz0 .i64 .i64 (NN : Int) (NN : Int) (by omega) (by omega) (by rw [hz2]; omega) (by omega)
        rw [hz1] at this
        simpa [Value.cells] using this
      clear hany
      go_wp2
      have HF0 : Hid (Fil w M s.data.toList NN 0 ((w.drewN q).alloc (.cells (madeCells #[.int .u8 0] NN) TU))) := fil_start w q M s.data.toList NN
      clear hmk
      generalize ((w.drewN q).alloc (.cells (madeCells #[.int .u8 0] NN) TU)) = W0 at *
      go_loopw [13, 14] (fun jj ii wr => ∃ k : Nat, ii = .int .i64 k ∧ k ≤ s.size ∧ jj = .int .i64 ((repl M (s.data.toList.take k)).length : Int) ∧ Hid (Fil w M s.data.toList NN k wr)) (fun _ ii _ => s.size - (intOf ii).toNat)
      case atStart => exact ⟨0, rfl, by omega, rfl, HF0⟩
      case round =>
        obtain ⟨k, rfl, hk2, rfl, HF⟩ := hrel
        clear HF0
        by_cases hlt : k < s.size
        · obtain ⟨c, hc⟩ : ∃ c, s[k]'hlt = c := ⟨_, rfl⟩
          have htk : s.data.toList.take (k + 1) = s.data.toList.take k ++ [c] := by
            rw [List.take_add_one, List.getElem?_eq_getElem (by omega)]
            rw [← hc]; rfl
          have hR1 : repl M (s.data.toList.take (k + 1)) = repl M (s.data.toList.take k) ++ one M c := by rw [htk, repl_snoc]
          have hle : (repl M (s.data.toList.take (k + 1))).length ≤ NN := by
            have := repl_app M (s.data.toList.take (k + 1)) (s.data.toList.drop (k + 1))
            rw [List.take_append_drop] at this
            rw [← HNN.out, this, List.length_append]
            omega
          have hbw := HF.out.bel
          obtain ⟨cur, hcur, hcz, hct⟩ := HF.out.row
          have hblt : w.heap.size < wr.heap.size := (Array.getElem?_eq_some_iff.1 hcur).1
          have hcell := bst_cell HB.out c
          have hbkl : bk < w.heap.size := by obtain ⟨_, cs, tr, hcs, _⟩ := HB.out; exact (Array.getElem?_eq_some_iff.1 hcs).1
          have hN1 := nenil
          have hN2 := nenil2
          have hc256 := c.toNat_lt
          have hc257 : (c.toNat : Int) < 256 := by omega
          rw [hR1, List.length_append] at hle
          rcases hcell with ⟨hl, hcl⟩ | ⟨v, g, cap, hl, hcl, hrw⟩
          · have h1 : one M c = [c] := by unfold one; rw [hl]
            have hcl2 := (hbw.cell (p := ⟨bk, c.toNat, none⟩) hbkl).trans hcl
            rw [h1] at hle
            have hFn : Fil w M s.data.toList NN (k + 1) (wr.setCell ⟨w.heap.size, (repl M (s.data.toList.take k)).length, none⟩ (.int .u8 (c.toNat : Int))) := fil_one HF.out (by rw [hR1, h1]) (by simpa using hle)
            have hj1 : ((repl M (s.data.toList.take (k + 1))).length : Int) = (repl M (s.data.toList.take k)).length + 1 := by rw [hR1, h1]; simp
            have HFN := Lib.hid hFn
            have HJ := Lib.hid hj1
            have d1 : wr.cell? ⟨w.heap.size, (repl M (s.data.toList.take k)).length, none⟩ = some (cur.getD (repl M (s.data.toList.take k)).length (.int .u8 0)) := by
              rw [cell_of hcur]
              have : (repl M (s.data.toList.take k)).length < cur.size := by simp at hle; omega
              simp [this]
            have f1 : wr.frozen? ⟨w.heap.size, (repl M (s.data.toList.take k)).length, none⟩ = false := frozen_of hcur _
            have hjl : (repl M (s.data.toList.take k)).length < NN := by simp at hle; omega
            clear hFn hj1 hR1 htk hl hcl hct hcz hcur
            generalize (repl M (s.data.toList.take k)).length = J at *
            go_wp2
            go_roundw
            case rel => exact ⟨k + 1, by go_num, by omega, by rw [HJ.out], HFN.out⟩
            case measure => simp [intOf]; omega
          · have h1 : one M c = v.data.toList := by unfold one; rw [hl]
            have hcl2 := (hbw.cell (p := ⟨bk, c.toNat, none⟩) hbkl).trans hcl
            rw [h1] at hle
            have hvl : v.data.toList.length = v.size := rfl
            rw [hvl] at hle
            obtain ⟨p, hp, hpv⟩ : ∃ p ∈ M, p.2 = v := by
              unfold look at hl
              cases hf : M.find? fun p => p.1 == c with
              | none => rw [hf] at hl; cases hl
              | some p => rw [hf] at hl; exact ⟨p, List.mem_of_find?_eq_some hf, Option.some.inj hl⟩
            have hvs := HV.out p hp
            rw [hpv] at hvs
            obtain ⟨hv1, hv2⟩ := hvs
            have hjl : (repl M (s.data.toList.take k)).length < NN := by omega
            have hjl2 : (repl M (s.data.toList.take k)).length ≤ NN := by omega
            have hcp := fil_copy hcur hcz hbw hrw cap (repl M (s.data.toList.take k)).length (by omega)
            have hFn : Fil w M s.data.toList NN (k + 1) (wr.drew.setRow w.heap.size (cur.toList.take (repl M (s.data.toList.take k)).length ++ Lib.strCells v ++ cur.toList.drop ((repl M (s.data.toList.take k)).length + v.size)).toArray) :=
              fil_put HF.out (by rw [hR1, h1]) (by rw [hvl]; exact hle) hcur (setRow_heap wr.drew w.heap.size cur _ TU (0, 0) hcur) (setRow_below hbw _)
            have hj1 : ((repl M (s.data.toList.take (k + 1))).length : Int) = (repl M (s.data.toList.take k)).length + v.size := by rw [hR1, h1]; simp [hvl]
            have HFN := Lib.hid hFn
            have HJ := Lib.hid hj1
            clear hFn hj1 hR1 htk hl hcl hct hcz hcur hrw hp hpv
            generalize (repl M (s.data.toList.take k)).length = J at *
            go_wp2
            go_region
            go_wp2
            go_roundw
            case rel => exact ⟨k + 1, by go_num, by omega, by rw [HJ.out], by have := HFN.out; rw [List.append_assoc] at this; exact this⟩
            case measure => simp [intOf]; omega
        · obtain rfl : k = s.size := by omega
          have htk : s.data.toList.take s.size = s.data.toList := List.take_of_length_le (by omega)
          obtain ⟨cur, hcur, hcz, hct⟩ := HF.out.row
          rw [htk, HNN.out, List.take_of_length_le (by rw [Array.length_toList, hcz]; omega)] at hct
          have hcv := conv_row wr w.heap.size NN cur (0, 0) (repl M s.data.toList) hcur hct HNN.out
          have HBW := Lib.hid HF.out.bel
          clear hcur hcz hct htk
          go_wp2
          go_ret
          exact ⟨rfl, HBW.out⟩
end Go.Proofs.YtmjdjpelhhibgaaGreatDoor.Rep
