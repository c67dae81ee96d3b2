/- The contracts of the package of what stands ahead: an entity's text. The contracts of the package of what stands ahead: rows of what is declared. -/
import Derived.Test.YtmjdjpelhhibgaaDoorDBld
import Derived.Test.YtmjdjpelhhibgaaDoorKChar
namespace Go.Proofs.YtmjdjpelhhibgaaDoor.DA
open Go.RowKit Go.Proofs.YtmjdjpelhhibgaaDoor.Ow Go.Proofs.YtmjdjpelhhibgaaDoor.DS Go.Proofs.YtmjdjpelhhibgaaDoor.Spec Go.Proofs.YtmjdjpelhhibgaaDoor.Giv
set_option linter.unusedVariables false
set_option linter.unusedSimpArgs false
theorem bld_below {B b : Nat} {cs : List Value} {w w' : World} (h : Lib.IsBuilderF TB TU B b cs w) (hb : Below w.heap.size w w') : Lib.IsBuilderF TB TU B b cs w' := by
  have step : ∀ p, Lib.BuilderAtF TB TU B b p cs w → Lib.BuilderAtF TB TU B b p cs w' := by
    rintro p ⟨hB, v, hbk, hown, hne⟩
    exact ⟨hB, v, (hb.block b (Array.getElem?_eq_some_iff.1 hbk).1).trans hbk, hown.kept (row := none) ⟨hb.os, hb.tape, hb.output, hb.size, fun k hk _ => hb.block k hk⟩ (by cases v.ownBlock <;> simp), hne⟩
  exact h.elim (fun x => .inl (step _ x)) (fun x => .inr (step _ x))
theorem below_wide {B : Nat} {w w' : World} (h : Below w.heap.size w w') (hB : B ≤ w.heap.size) : Below B w w' := h.mono hB
theorem index_lt {t : List UInt8} {c : UInt8} (h : (Lib.cut t [c]).2.2 = true) : (Lib.cut t [c]).1.length + 1 + (Lib.cut t [c]).2.1.length = t.length := by
  rw [DNames.cut_one] at h ⊢
  cases hf : t.findIdx? (· == c) with
  | none => rw [hf] at h; cases h
  | some j =>
    have := DNames.find_lt hf
    simp
    omega
def refB (n : List UInt8) : ByteArray := bs ([38] ++ n ++ [59])
theorem refB_eq (n : List UInt8) : (⟨#[38]⟩ : ByteArray) ++ bs n ++ ⟨#[59]⟩ = refB n := by
  apply ByteArray.ext
  apply Array.toList_inj.mp
  simp [refB, bs]
theorem refB_size (n : List UInt8) : (refB n).size = n.length + 2 := by
  have : (refB n).size = ([38] ++ n ++ [59]).length := List.size_toArray
  rw [this]; simp
def entCh (n : List UInt8) : List UInt8 := if (charRefV (refB n)).2 = true then Lib.encodeRune (charRefV (refB n)).1 else [38] ++ n ++ [59]
theorem entR_amp (b : Nat) (t : List UInt8) : entR (b + 1) (38 :: t) = if (!(Lib.cut t [59]).2.2 || (!(charRefV (refB (Lib.cut t [59]).1)).2 && !ncB (bs (Lib.cut t [59]).1))) = true then none
    else (entR b (Lib.cut t [59]).2.1).map fun z => entCh (Lib.cut t [59]).1 ++ z := rfl
theorem map_map {o : Option (List UInt8)} {a b : List UInt8} : (o.map fun z => b ++ z).map (fun z => a ++ z) = o.map fun z => (a ++ b) ++ z := by
  cases o <;> simp
theorem charRef_rng (s : ByteArray) : -2147483648 ≤ (charRefV s).1 ∧ (charRefV s).1 ≤ 2147483647 := by
  unfold charRefV
  cases crNum s with
  | none => simp
  | some r =>
    simp only
    split
    · rename_i h
      rw [Bool.and_eq_true] at h
      have := h.2
      unfold charB at this
      rw [decide_eq_true_eq] at this
      simp only
      omega
    · simp
def strSz : Value → Nat | .string t => t.size | _ => 0
set_option maxRecDepth 100000 in
set_option maxHeartbeats 4000000 in
theorem Entity_any (s : ByteArray) (w : World) (hs : s.size < 4294967279) (hE : Env w) :
    Calls Tryd.prog 26 #[.string s] w fun e w' => e = .returned (.tuple #[.string (bs (ent s.data.toList).1), .bool (ent s.data.toList).2]) ∧ Below w.heap.size w w' := by
  obtain ⟨R, hR⟩ : ∃ R, entR (s.data.toList.length + 1) s.data.toList = R := ⟨_, rfl⟩
  have hA : ent s.data.toList = entO R := by unfold ent; rw [hR]
  have hs0 : bs s.data.toList = s := rfl
  rw [hA]
  have HR := Lib.hid hR
  have HE := Lib.hid hE
  clear hA hR hE
  go_enter Tryd.func26, Tryd.ntmps26
  go_wp2_with fail
  go_loopw [0] (fun v wr => ∃ (l acc : List UInt8) (k : Nat), v = .string (bs l) ∧ Hid (Lib.IsBuilderF TB TU w.heap.size w.heap.size (Lib.byteCells acc) wr) ∧ Hid (Below w.heap.size w wr) ∧ Hid ((entR k l).map (fun z => acc ++ z) = R) ∧ Hid (l.length < k ∧ acc.length + 4 * l.length ≤ 4 * s.size)) (fun v _ => strSz v)
  case atStart => exact ⟨s.data.toList, [], s.data.toList.length + 1, rfl, Lib.IsBuilderF.of (Lib.fresh_isBuilder TB TU w), (Below.refl _ _).alloc (Nat.le_refl _) _, (by show Option.map _ _ = _; rw [HR.out]; cases R <;> simp), (⟨by omega, by simp⟩ : _ ∧ _)⟩
  case round =>
    obtain ⟨l, acc, k, rfl, HBl, HBw, HS, HL⟩ := hrel
    have hEr : Env wr := HE.out.below HBw.out
    cases l with
    | nil =>
      have HS2 : Hid (R = some acc) := by
        have := HS.out
        obtain ⟨k, rfl⟩ : ∃ m, k = m + 1 := ⟨k - 1, by have := HL.out.1; omega⟩
        show R = _; rw [← this]; simp [entR]
      have HZ : Hid (bs [] = (⟨#[]⟩ : ByteArray)) := rfl
      have hz : (bs []).toList.isEmpty = true := by rw [ByteArray.toList_eq]; rfl
      have HST := Tryd.Builder_String_any_k w.heap.size w.heap.size acc wr HBl.out HBw.out.size
      clear HS HL HE hs0 HR
      go_wp2_with fail
      refine HST.mono ?_
      clear HST
      rintro e w1 ⟨rfl, _, hb1, _⟩
      go_wp2_with fail
      go_ret2
      rw [HS2.out]
      exact ⟨rfl, HBw.out.trans hb1⟩
    | cons c t =>
      have hk0 := HL.out
      simp only [List.length_cons] at hk0
      obtain ⟨k, rfl⟩ : ∃ m, k = m + 1 := ⟨k - 1, by omega⟩
      obtain ⟨T, hT⟩ : ∃ T, bs (c :: t) = T := ⟨_, rfl⟩
      have hTs : T.size = t.length + 1 := by rw [← hT]; exact List.size_toArray
      have hTd : T.data.toList = c :: t := by rw [← hT]; rfl
      have h0 : 0 < T.size := by omega
      have hc : T[0]'h0 = c := by
        have := drop_at T 0 h0
        rw [hTd] at this
        simpa using this.symm
      have hne : T.toList.isEmpty = false := by rw [ByteArray.toList_eq, hTd]; rfl
      have hx : T.extract 1 T.size = bs t := by rw [← bs_drop, hTd]; rfl
      rw [hT] at *
      have hlt : (0 : Int) < (T.size : Int) := by omega
      have hle : (1 : Int) ≤ (T.size : Int) := by omega
      have HX := Lib.hid hx
      have HK := Lib.hid hk0
      have HTS := Lib.hid hTs
      clear hTs hTd hx hk0 HL hT HE hs0 HR
      by_cases c37 : c = 37
      · subst c37
        have HS2 : Hid (R = none) := by
          show R = _; rw [← HS.out]; simp [entR]
        clear HS
        go_wp2_with fail
        go_ret2
        rw [HS2.out]
        exact ⟨rfl, HBw.out⟩
      · have k37 : ((c.toNat : Int) == 37) = false := by
          rw [beq_eq_false_iff_ne]; intro h; apply c37; apply UInt8.toNat_inj.1; show c.toNat = 37; omega
        by_cases c38 : c = 38
        · subst c38
          have hq := entR_amp k t
          have hlen := fun h => index_lt (t := t) (c := 59) h
          have hcl : (Lib.cut t [59]).1.length ≤ t.length := by
            unfold Lib.cut; split
            · simp; omega
            · simp
          have HQ := fun W hE => cut_q (bs t) ⟨#[59]⟩ W (by rw [show (bs t).size = t.length from List.size_toArray]; have := HK.out; omega) hE
          rw [bs_data, show (⟨#[59]⟩ : ByteArray).data.toList = [59] from rfl] at HQ
          rw [hq] at HS
          generalize (Lib.cut t [59]).1 = q1 at HQ hcl hlen HS
          generalize (Lib.cut t [59]).2.1 = q2 at HQ hlen HS
          generalize (Lib.cut t [59]).2.2 = is at HQ hlen HS
          have HC0 := fun W => charRef_any (refB q1) W (by rw [refB_size]; have := HK.out; omega)
          unfold CRPost at HC0
          have hrng := charRef_rng (refB q1)
          obtain ⟨CH, hCH⟩ : ∃ z, entCh q1 = z := ⟨_, rfl⟩
          rw [hCH] at HS
          unfold entCh at hCH
          obtain ⟨cv, hcv⟩ : ∃ z, (charRefV (refB q1)).1 = z := ⟨_, rfl⟩
          obtain ⟨good, hgood⟩ : ∃ z, (charRefV (refB q1)).2 = z := ⟨_, rfl⟩
          rw [hcv] at hCH HC0 hrng
          rw [hgood] at hCH HC0 HS
          obtain ⟨nc, hnc⟩ : ∃ z, ncB (bs q1) = z := ⟨_, rfl⟩
          rw [hnc] at HS
          have hsz : (bs q1).size < 4294967281 := by rw [show (bs q1).size = q1.length from List.size_toArray]; have := HK.out; omega
          have HN := fun W hE => DNames.runes_NCName.calls (bs q1) nc W hE (by unfold DNames.runes_NCName.f; rw [if_pos hsz, hnc])
          have HWS := fun W h hl hB => writeString_any w.heap.size w.heap.size (Lib.byteCells acc) (refB q1) W h hl hB
          have hsc : Lib.byteCells acc ++ Lib.strCells (refB q1) = Lib.byteCells (acc ++ ([38] ++ q1 ++ [59])) := by
            rw [Lib.strCells_eq]; simp [Lib.byteCells, refB, bs]
          have hrz : (refB q1).size = q1.length + 2 := refB_size q1
          rw [← refB_eq] at HC0 HWS hrz
          rw [← refB_eq] at hsc
          obtain ⟨NB, hNB⟩ : ∃ z, bs q1 = z := ⟨_, rfl⟩
          obtain ⟨RB, hRB⟩ : ∃ z, bs q2 = z := ⟨_, rfl⟩
          rw [hNB] at HQ HC0 HN HWS hsc hrz hsz
          have hnb : NB.size < 4294967281 := hsz
          rw [hRB] at HQ
          rw [← HX.out] at HQ
          have hal : (Lib.byteCells acc).length = acc.length := by simp [Lib.byteCells]
          have HAL := Lib.hid hal
          have HRB := Lib.hid hRB
          have HCL := Lib.hid hcl
          have HLEN0 := Lib.hid hlen
          have HCH := Lib.hid hCH
          have HSC := Lib.hid hsc
          have HRZ := Lib.hid hrz
          have HRNG := Lib.hid hrng
          have HWS' := Lib.hid HWS
          clear hq hcl hlen hCH hrng hcv hgood hnc hsz hsc hrz hNB hRB hal HWS k37 c37
          go_wp2_with fail
          refine (HQ _ hEr).mono ?_
          clear HQ
          rintro e w1 ⟨rfl, n1, rfl⟩
          go_wp2_with fail
          refine (HC0 _).mono ?_
          clear HC0
          rintro e w2 ⟨rfl, hbc⟩
          have hb2 : Below wr.heap.size wr w2 := below_undrewN hbc
          have HBW2 := Lib.hid (HBw.out.trans (hb2.mono HBw.out.size))
          have HBl2 := Lib.hid (bld_below HBl.out hb2)
          have hE2 := hEr.below hb2
          clear hbc hb2 HBw HBl hEr
          cases is
          · have HS2 : Hid (R = none) := by show R = _; rw [← HS.out]; rfl
            clear HS
            go_wp2_with fail
            go_ret2
            rw [HS2.out]
            exact ⟨rfl, HBW2.out⟩
          · have HLEN : Hid (q1.length + 1 + q2.length = t.length) := HLEN0.out rfl
            cases good
            · cases nc
              · have HS2 : Hid (R = none) := by show R = _; rw [← HS.out]; rfl
                clear HS
                go_wp2_with fail
                refine (HN _ hE2).mono ?_
                rintro e w3 ⟨rfl, hb3⟩
                go_wp2_with fail
                go_ret2
                rw [HS2.out]
                exact ⟨rfl, HBW2.out.trans (hb3.mono HBW2.out.size)⟩
              · have HS3 : Hid ((entR k q2).map (fun z => (acc ++ ([38] ++ q1 ++ [59])) ++ z) = R) := by
                  have h1 := HCH.out
                  rw [if_neg (by decide)] at h1
                  show _ = R; rw [← HS.out, h1, ← map_map]; rfl
                clear HS
                go_wp2_with fail
                refine (HN _ hE2).mono ?_
                rintro e w3 ⟨rfl, hb3⟩
                have HBW3 := Lib.hid (HBW2.out.trans (hb3.mono HBW2.out.size))
                have HW := HWS'.out w3 (bld_below HBl2.out hb3) (by rw [HAL.out, HRZ.out]; have := HK.out; have := HCL.out; omega) HBW3.out.size
                rw [HSC.out] at HW
                clear hb3 HBW2 HBl2
                go_wp2_with fail
                refine HW.mono ?_
                clear HW
                rintro e w4 ⟨rfl, hB2, hbw4⟩
                have HB2 := Lib.hid hB2
                clear hB2
                go_wp2_with fail
                go_roundw
                case rel =>
                  refine ⟨q2, acc ++ ([38] ++ q1 ++ [59]), k, by rw [HRB.out], .inr HB2.out, HBW3.out.trans hbw4, HS3, ?_⟩
                  have h1 := HK.out
                  have h2 := HLEN.out
                  have h3 : ([38] ++ q1 ++ [59]).length = q1.length + 2 := by simp
                  show q2.length < k ∧ (acc ++ ([38] ++ q1 ++ [59])).length + 4 * q2.length ≤ 4 * s.size
                  rw [List.length_append]
                  omega
                case measure =>
                  show RB.size < T.size
                  rw [HTS.out, ← HRB.out, show (bs q2).size = q2.length from List.size_toArray]
                  have h2 := HLEN.out
                  omega
            · have HS3 : Hid ((entR k q2).map (fun z => (acc ++ Lib.encodeRune cv) ++ z) = R) := by
                have h1 := HCH.out
                rw [if_pos rfl] at h1
                show _ = R; rw [← HS.out, h1, ← map_map]; rfl
              have HW := writeRune_any w.heap.size w.heap.size (Lib.byteCells acc) cv HRNG.out.1 HRNG.out.2 w2 HBl2.out (by rw [HAL.out]; have := HK.out; omega) HBW2.out.size
              have hrc : Lib.byteCells acc ++ Lib.runeCells cv = Lib.byteCells (acc ++ Lib.encodeRune cv) := by rw [← Lib.byteCells_encodeRune]; simp [Lib.byteCells]
              rw [hrc] at HW
              clear HS hrc
              go_wp2_with fail
              refine HW.mono ?_
              clear HW
              rintro e w4 ⟨rfl, hB2, hbw4⟩
              have HB2 := Lib.hid hB2
              clear hB2
              go_wp2_with fail
              go_roundw
              case rel =>
                refine ⟨q2, acc ++ Lib.encodeRune cv, k, by rw [HRB.out], .inr HB2.out, HBW2.out.trans hbw4, HS3, ?_⟩
                have h1 := HK.out
                have h2 := HLEN.out
                have h3 : (Lib.encodeRune cv).length ≤ 4 := by have := Lib.runeCells_le cv; unfold Lib.runeCells at this; unfold Lib.encodeRune; simp at this ⊢; exact this.2
                show q2.length < k ∧ (acc ++ Lib.encodeRune cv).length + 4 * q2.length ≤ 4 * s.size
                rw [List.length_append]
                omega
              case measure =>
                show RB.size < T.size
                rw [HTS.out, ← HRB.out, show (bs q2).size = q2.length from List.size_toArray]
                have h2 := HLEN.out
                omega
        · have k38 : ((c.toNat : Int) == 38) = false := by
            rw [beq_eq_false_iff_ne]; intro h; apply c38; apply UInt8.toNat_inj.1; show c.toNat = 38; omega
          have HS2 : Hid ((entR k t).map (fun z => (acc ++ [c]) ++ z) = R) := by
            show _ = R; rw [← HS.out]
            have : entR (k + 1) (c :: t) = (entR k t).map fun z => [c] ++ z := by
              rw [entR, if_neg (by simpa using c37), if_neg (by simpa using c38)]; rfl
            rw [this, map_map]
          have hcr : Lib.byteCells acc ++ [Value.int .u8 (c.toNat : Int)] = Lib.byteCells (acc ++ [c]) := by simp [Lib.byteCells]
          have hal : (Lib.byteCells acc).length = acc.length := by simp [Lib.byteCells]
          have HW := writeByte_any w.heap.size w.heap.size (Lib.byteCells acc) (c.toNat : Int) wr HBl.out (by rw [hal]; have := HK.out; omega) HBw.out.size
          rw [hcr] at HW
          clear HS c37 c38 hcr hal
          go_wp2_with fail
          refine HW.mono ?_
          clear HW
          rintro e w1 ⟨rfl, hb1, hbw1⟩
          have HB1 := Lib.hid hb1
          clear hb1
          go_wp2_with fail
          go_roundw
          case rel =>
            refine ⟨t, acc ++ [c], k, by rw [HX.out], .inr HB1.out, HBw.out.trans hbw1, HS2, ?_⟩
            have := HK.out
            show t.length < k ∧ (acc ++ [c]).length + 4 * t.length ≤ 4 * s.size
            rw [List.length_append, List.length_singleton]
            omega
          case measure =>
            show strSz (.string (T.extract 1 T.size)) < strSz (.string T)
            rw [HX.out]
            show (bs t).size < T.size
            rw [HTS.out, show (bs t).size = t.length from List.size_toArray]
            omega
end Go.Proofs.YtmjdjpelhhibgaaDoor.DA
namespace Go.Proofs.YtmjdjpelhhibgaaDoor.DA
open Go.RowKit Go.Proofs.YtmjdjpelhhibgaaDoor.Ow Go.Proofs.YtmjdjpelhhibgaaDoor.DS Go.Proofs.YtmjdjpelhhibgaaDoor.Spec Go.Proofs.YtmjdjpelhhibgaaDoor.Giv
set_option linter.unusedVariables false
set_option linter.unusedSimpArgs false
abbrev TE : TypeId := 52
theorem own_kept_below {w w' : World} {B T s n : Nat} {v : Value} {xs : List Value} (h : w.ownsRow B T s v n xs) (hb : Below w.heap.size w w') : w'.ownsRow B T s v n xs :=
  h.kept (row := none) ⟨hb.os, hb.tape, hb.output, hb.size, fun k hk _ => hb.block k hk⟩ (by cases v.ownBlock <;> simp)
def IdxF (m : Bool) (w : World) (e : Ending) (w' : World) : Prop := ∃ n : Int, e = .returned (.int .i64 n) ∧ decide (0 ≤ n) = m ∧ n ≤ 4611686018427387904 ∧ -1 ≤ n ∧ Below w.heap.size w w'
/-! ### Ent -/
def zE : Ent := ⟨[], [], false⟩
def cellsE (l : List Ent) : List Value := l.flatMap fun a => [.string (bs a.nm), .string (bs a.vl), .bool a.ext]
theorem cellsE_app (l m : List Ent) : cellsE (l ++ m) = cellsE l ++ cellsE m := by simp [cellsE]
theorem cellsE_len (l : List Ent) : (cellsE l).length = l.length * 3 := by
  induction l with
  | nil => rfl
  | cons e l ih => simp only [cellsE, List.flatMap_cons, List.length_append, List.length_cons] at *; simp at *; omega
theorem cellsE_at (l : List Ent) : ∀ i j, i < l.length → j < 3 → (cellsE l)[i * 3 + j]? = ([.string (bs (l.getD i zE).nm), .string (bs (l.getD i zE).vl), .bool (l.getD i zE).ext] : List Value)[j]? := by
  induction l with
  | nil => intro i j hi; simp at hi
  | cons e l ih =>
    intro i j hi hj
    have hc : cellsE (e :: l) = [.string (bs e.nm), .string (bs e.vl), .bool e.ext] ++ cellsE l := rfl
    rw [hc]
    cases i with
    | zero => rw [List.getElem?_append_left (by simp; omega)]; simp
    | succ i =>
      rw [List.getElem?_append_right (by simp; omega)]
      have := ih i j (by simpa using hi) hj
      rw [show (i + 1) * 3 + j - ([.string (bs e.nm), .string (bs e.vl), .bool e.ext] : List Value).length = i * 3 + j by simp; omega, this]
      simp
def CellsAtE (w : World) (A : Option Addr) (l : List Ent) : Prop :=
  ∀ i, i < l.length → ∃ b o, A = some ⟨b, o, none⟩ ∧ b < w.heap.size ∧ w.cell? ⟨b, o + i * 3, none⟩ = some (.string (bs (l.getD i zE).nm)) ∧ w.cell? ⟨b, o + i * 3 + 1, none⟩ = some (.string (bs (l.getD i zE).vl)) ∧ w.cell? ⟨b, o + i * 3 + 2, none⟩ = some (.bool (l.getD i zE).ext)
theorem cellsAtE_of_own {w : World} {B n : Nat} {v : Value} {l : List Ent} (h : w.ownsRow B TE 3 v n (cellsE l)) (hn : l.length = n) : ∃ A cap, v = .slice A n cap ∧ CellsAtE w A l := by
  rcases h.2 with ⟨rfl, rfl⟩ | ⟨g, cap, cur, rfl, hg, h3, _⟩
  · exact ⟨none, 0, rfl, fun i hi => by omega⟩
  · refine ⟨_, cap, rfl, fun i hi => ⟨g, 0, rfl, (Array.getElem?_eq_some_iff.1 h3).1, ?_⟩⟩
    have hc := h.cells (g := g) rfl
    have ha : ∀ k, (⟨g, 0, none⟩ : Addr).add k = ⟨g, k, none⟩ := by intro k; unfold Addr.add; split <;> simp_all
    refine ⟨?_, ?_, ?_⟩
    · have := hc (i * 3 + 0) _ (cellsE_at l i 0 hi (by omega)); rw [ha] at this; simpa using this
    · have := hc (i * 3 + 1) _ (cellsE_at l i 1 hi (by omega)); rw [ha] at this; simpa using this
    · have := hc (i * 3 + 2) _ (cellsE_at l i 2 hi (by omega)); rw [ha] at this; simpa using this

def sameE (a b : Ent) : Bool := ((bs b.nm).toList == (bs a.nm).toList)
set_option maxRecDepth 100000 in
theorem cloE_any (a b : Ent) (bx : Nat) (w : World) (c0 : w.cell? ⟨bx, 0, none⟩ = some (.string (bs a.nm))) (hbx : bx < w.heap.size) :
    Calls Tryd.prog 91 #[.agg #[.string (bs b.nm), .string (bs b.vl), .bool b.ext], .pointer (some ⟨bx, 0, none⟩)] w fun e w' => e = .returned (.bool (sameE a b)) ∧ Below w.heap.size w w' := by
  unfold sameE
  cases h1 : ((bs b.nm).toList == (bs a.nm).toList)
  all_goals
    go_enter Tryd.func91, Tryd.ntmps91
    go_wp2_with fail
    go_ret
    exact ⟨rfl, (Below.refl _ _).alloc (Nat.le_refl _) _⟩

set_option maxRecDepth 100000 in
theorem indexE_any (a : Ent) (bx : Nat) (A : Option Addr) (cap : Nat) (m : List Ent) (w : World) (hm : CellsAtE w A m) (hl : m.length ≤ 4611686018427387904) (c0 : w.cell? ⟨bx, 0, none⟩ = some (.string (bs a.nm))) (hbx : bx < w.heap.size) :
    Calls Tryd.prog 110 #[.slice A m.length cap, .func (.func 91) #[] #[.pointer (some ⟨bx, 0, none⟩)]] w (IdxF (m.any (sameE a)) w) := by
  obtain ⟨R, hR⟩ : ∃ R, m.any (sameE a) = R := ⟨_, rfl⟩
  rw [hR]
  obtain ⟨n, hn⟩ : ∃ n, m.length = n := ⟨_, rfl⟩
  rw [hn] at hl ⊢
  have HN := Lib.hid hn
  have HR := Lib.hid hR
  clear hn hR
  go_enter Tryd.func110, Tryd.ntmps110
  go_wp2_with fail
  go_loopw [8] (fun x wr => ∃ j : Nat, j ≤ n ∧ x = .int .i64 j ∧ Hid ((m.take j).any (sameE a) = false) ∧ Below w.heap.size w wr) (fun x _ => n - (intOf x).toNat)
  case atStart => exact ⟨0, by omega, rfl, (by simp : (m.take 0).any _ = false), Below.refl _ _⟩
  case round =>
    obtain ⟨j, hj, rfl, hS, hB⟩ := hrel
    have d0 := (hB.cell (p := ⟨bx, 0, none⟩) hbx).trans c0
    have hbz : bx < wr.heap.size := Nat.lt_of_lt_of_le hbx hB.size
    by_cases hlt : j < n
    · have hjm : j < m.length := by rw [HN.out]; exact hlt
      obtain ⟨b, hb⟩ : ∃ b, m.getD j zE = b := ⟨_, rfl⟩
      obtain ⟨g, o, rfl, hgl, e0, e1, e2⟩ := hm j hjm
      rw [hb] at e0 e1 e2
      have htake : m.take (j + 1) = m.take j ++ [b] := by rw [List.take_succ_eq_append_getElem hjm, ← hb]; simp [List.getD, hjm]
      have HT := Lib.hid htake
      have f0 := (hB.cell (p := ⟨g, o + j * 3, none⟩) hgl).trans e0
      have f1 := (hB.cell (p := ⟨g, o + j * 3 + 1, none⟩) hgl).trans e1
      have f2 := (hB.cell (p := ⟨g, o + j * 3 + 2, none⟩) hgl).trans e2
      have hgz : g < wr.heap.size := Nat.lt_of_lt_of_le hgl hB.size
      have HP := cloE_any a b bx wr d0 hbz
      clear htake hb e0 e1 e2 hm c0
      cases hs : sameE a b with
      | true =>
        rw [hs] at HP
        have HS2 := Lib.hid hs
        clear hs
        go_wp2_with fail
        refine HP.mono ?_
        clear HP
        rintro e w1 ⟨rfl, hb1⟩
        go_wp2_with fail
        go_ret
        refine ⟨_, rfl, ?_, by omega, by omega, hB.trans (hb1.mono hB.size)⟩
        rw [← HR.out]
        have h1 : m.any (sameE a) = true := by
          rw [← List.take_append_drop (j + 1) m, List.any_append, HT.out, List.any_append]
          simp [HS2.out]
        rw [h1]
        simp
      | false =>
        rw [hs] at HP
        have HS2 : Hid ((m.take (j + 1)).any (sameE a) = false) := by
          show (m.take (j + 1)).any (sameE a) = false
          rw [HT.out, List.any_append, hS.out]; simp [hs]
        clear hs
        go_wp2_with fail
        refine HP.mono ?_
        clear HP
        rintro e w1 ⟨rfl, hb1⟩
        go_wp2_with fail
        go_roundw
        case rel => exact ⟨j + 1, by omega, by go_num, HS2, hB.trans (hb1.mono hB.size)⟩
        case measure => simp [intOf]; omega
    · obtain rfl : j = n := by omega
      clear hm
      go_wp2_with fail
      go_ret
      refine ⟨_, rfl, ?_, by omega, by omega, hB⟩
      rw [← HR.out]
      have := hS.out
      rw [← HN.out, List.take_length] at this
      rw [this]
      rfl
theorem containsE_any (a : Ent) (bx : Nat) (A : Option Addr) (cap : Nat) (m : List Ent) (w : World) (hm : CellsAtE w A m) (hl : m.length ≤ 4611686018427387904) (c0 : w.cell? ⟨bx, 0, none⟩ = some (.string (bs a.nm))) (hbx : bx < w.heap.size) :
    Calls Tryd.prog 90 #[.slice A m.length cap, .func (.func 91) #[] #[.pointer (some ⟨bx, 0, none⟩)]] w fun e w' => e = .returned (.bool (m.any (sameE a))) ∧ Below w.heap.size w w' := by
  have H := indexE_any a bx A cap m w hm hl c0 hbx
  clear hm c0 hbx hl
  go_enter Tryd.func90, Tryd.ntmps90
  go_wp2_with fail
  refine H.mono ?_
  clear H
  rintro e w' ⟨n, rfl, hn, hn1, hn2, hb⟩
  have HN := Lib.hid hn
  clear hn
  go_wp2_with fail
  go_ret
  refine ⟨?_, hb⟩
  rw [← HN.out]
  simp
/-! ### Att -/
def zA : Att := ⟨[], [], 0, false, []⟩
def cellsA (l : List Att) : List Value := l.flatMap fun a => [.string (bs a.el), .string (bs a.nm), .int .i64 a.ty, .bool a.has, .string (bs a.vl)]
theorem cellsA_app (l m : List Att) : cellsA (l ++ m) = cellsA l ++ cellsA m := by simp [cellsA]
theorem cellsA_len (l : List Att) : (cellsA l).length = l.length * 5 := by
  induction l with
  | nil => rfl
  | cons e l ih => simp only [cellsA, List.flatMap_cons, List.length_append, List.length_cons] at *; simp at *; omega
theorem cellsA_at (l : List Att) : ∀ i j, i < l.length → j < 5 → (cellsA l)[i * 5 + j]? = ([.string (bs (l.getD i zA).el), .string (bs (l.getD i zA).nm), .int .i64 (l.getD i zA).ty, .bool (l.getD i zA).has, .string (bs (l.getD i zA).vl)] : List Value)[j]? := by
  induction l with
  | nil => intro i j hi; simp at hi
  | cons e l ih =>
    intro i j hi hj
    have hc : cellsA (e :: l) = [.string (bs e.el), .string (bs e.nm), .int .i64 e.ty, .bool e.has, .string (bs e.vl)] ++ cellsA l := rfl
    rw [hc]
    cases i with
    | zero => rw [List.getElem?_append_left (by simp; omega)]; simp
    | succ i =>
      rw [List.getElem?_append_right (by simp; omega)]
      have := ih i j (by simpa using hi) hj
      rw [show (i + 1) * 5 + j - ([.string (bs e.el), .string (bs e.nm), .int .i64 e.ty, .bool e.has, .string (bs e.vl)] : List Value).length = i * 5 + j by simp; omega, this]
      simp
def CellsAtA (w : World) (A : Option Addr) (l : List Att) : Prop :=
  ∀ i, i < l.length → ∃ b o, A = some ⟨b, o, none⟩ ∧ b < w.heap.size ∧ w.cell? ⟨b, o + i * 5, none⟩ = some (.string (bs (l.getD i zA).el)) ∧ w.cell? ⟨b, o + i * 5 + 1, none⟩ = some (.string (bs (l.getD i zA).nm)) ∧ w.cell? ⟨b, o + i * 5 + 2, none⟩ = some (.int .i64 (l.getD i zA).ty) ∧ w.cell? ⟨b, o + i * 5 + 3, none⟩ = some (.bool (l.getD i zA).has) ∧ w.cell? ⟨b, o + i * 5 + 4, none⟩ = some (.string (bs (l.getD i zA).vl))
theorem cellsAtA_of_own {w : World} {B n : Nat} {v : Value} {l : List Att} (h : w.ownsRow B TA 5 v n (cellsA l)) (hn : l.length = n) : ∃ A cap, v = .slice A n cap ∧ CellsAtA w A l := by
  rcases h.2 with ⟨rfl, rfl⟩ | ⟨g, cap, cur, rfl, hg, h3, _⟩
  · exact ⟨none, 0, rfl, fun i hi => by omega⟩
  · refine ⟨_, cap, rfl, fun i hi => ⟨g, 0, rfl, (Array.getElem?_eq_some_iff.1 h3).1, ?_⟩⟩
    have hc := h.cells (g := g) rfl
    have ha : ∀ k, (⟨g, 0, none⟩ : Addr).add k = ⟨g, k, none⟩ := by intro k; unfold Addr.add; split <;> simp_all
    refine ⟨?_, ?_, ?_, ?_, ?_⟩
    · have := hc (i * 5 + 0) _ (cellsA_at l i 0 hi (by omega)); rw [ha] at this; simpa using this
    · have := hc (i * 5 + 1) _ (cellsA_at l i 1 hi (by omega)); rw [ha] at this; simpa using this
    · have := hc (i * 5 + 2) _ (cellsA_at l i 2 hi (by omega)); rw [ha] at this; simpa using this
    · have := hc (i * 5 + 3) _ (cellsA_at l i 3 hi (by omega)); rw [ha] at this; simpa using this
    · have := hc (i * 5 + 4) _ (cellsA_at l i 4 hi (by omega)); rw [ha] at this; simpa using this

def sameA (a b : Att) : Bool := ((bs b.el).toList == (bs a.el).toList) && ((bs b.nm).toList == (bs a.nm).toList)
set_option maxRecDepth 100000 in
theorem cloA_any (a b : Att) (bx : Nat) (w : World) (c0 : w.cell? ⟨bx, 0, none⟩ = some (.string (bs a.el))) (c1 : w.cell? ⟨bx, 1, none⟩ = some (.string (bs a.nm))) (hbx : bx < w.heap.size) :
    Calls Tryd.prog 95 #[.agg #[.string (bs b.el), .string (bs b.nm), .int .i64 b.ty, .bool b.has, .string (bs b.vl)], .pointer (some ⟨bx, 0, none⟩)] w fun e w' => e = .returned (.bool (sameA a b)) ∧ Below w.heap.size w w' := by
  unfold sameA
  cases h1 : ((bs b.el).toList == (bs a.el).toList) <;> cases h2 : ((bs b.nm).toList == (bs a.nm).toList)
  all_goals
    go_enter Tryd.func95, Tryd.ntmps95
    go_wp2_with fail
    go_ret
    exact ⟨rfl, (Below.refl _ _).alloc (Nat.le_refl _) _⟩

set_option maxRecDepth 100000 in
theorem indexA_any (a : Att) (bx : Nat) (A : Option Addr) (cap : Nat) (m : List Att) (w : World) (hm : CellsAtA w A m) (hl : m.length ≤ 4611686018427387904) (c0 : w.cell? ⟨bx, 0, none⟩ = some (.string (bs a.el))) (c1 : w.cell? ⟨bx, 1, none⟩ = some (.string (bs a.nm))) (hbx : bx < w.heap.size) :
    Calls Tryd.prog 113 #[.slice A m.length cap, .func (.func 95) #[] #[.pointer (some ⟨bx, 0, none⟩)]] w (IdxF (m.any (sameA a)) w) := by
  obtain ⟨R, hR⟩ : ∃ R, m.any (sameA a) = R := ⟨_, rfl⟩
  rw [hR]
  obtain ⟨n, hn⟩ : ∃ n, m.length = n := ⟨_, rfl⟩
  rw [hn] at hl ⊢
  have HN := Lib.hid hn
  have HR := Lib.hid hR
  clear hn hR
  go_enter Tryd.func113, Tryd.ntmps113
  go_wp2_with fail
  go_loopw [8] (fun x wr => ∃ j : Nat, j ≤ n ∧ x = .int .i64 j ∧ Hid ((m.take j).any (sameA a) = false) ∧ Below w.heap.size w wr) (fun x _ => n - (intOf x).toNat)
  case atStart => exact ⟨0, by omega, rfl, (by simp : (m.take 0).any _ = false), Below.refl _ _⟩
  case round =>
    obtain ⟨j, hj, rfl, hS, hB⟩ := hrel
    have d0 := (hB.cell (p := ⟨bx, 0, none⟩) hbx).trans c0
    have d1 := (hB.cell (p := ⟨bx, 1, none⟩) hbx).trans c1
    have hbz : bx < wr.heap.size := Nat.lt_of_lt_of_le hbx hB.size
    by_cases hlt : j < n
    · have hjm : j < m.length := by rw [HN.out]; exact hlt
      obtain ⟨b, hb⟩ : ∃ b, m.getD j zA = b := ⟨_, rfl⟩
      obtain ⟨g, o, rfl, hgl, e0, e1, e2, e3, e4⟩ := hm j hjm
      rw [hb] at e0 e1 e2 e3 e4
      have htake : m.take (j + 1) = m.take j ++ [b] := by rw [List.take_succ_eq_append_getElem hjm, ← hb]; simp [List.getD, hjm]
      have HT := Lib.hid htake
      have f0 := (hB.cell (p := ⟨g, o + j * 5, none⟩) hgl).trans e0
      have f1 := (hB.cell (p := ⟨g, o + j * 5 + 1, none⟩) hgl).trans e1
      have f2 := (hB.cell (p := ⟨g, o + j * 5 + 2, none⟩) hgl).trans e2
      have f3 := (hB.cell (p := ⟨g, o + j * 5 + 3, none⟩) hgl).trans e3
      have f4 := (hB.cell (p := ⟨g, o + j * 5 + 4, none⟩) hgl).trans e4
      have hgz : g < wr.heap.size := Nat.lt_of_lt_of_le hgl hB.size
      have HP := cloA_any a b bx wr d0 d1 hbz
      clear htake hb e0 e1 e2 e3 e4 hm c0 c1
      cases hs : sameA a b with
      | true =>
        rw [hs] at HP
        have HS2 := Lib.hid hs
        clear hs
        go_wp2_with fail
        refine HP.mono ?_
        clear HP
        rintro e w1 ⟨rfl, hb1⟩
        go_wp2_with fail
        go_ret
        refine ⟨_, rfl, ?_, by omega, by omega, hB.trans (hb1.mono hB.size)⟩
        rw [← HR.out]
        have h1 : m.any (sameA a) = true := by
          rw [← List.take_append_drop (j + 1) m, List.any_append, HT.out, List.any_append]
          simp [HS2.out]
        rw [h1]
        simp
      | false =>
        rw [hs] at HP
        have HS2 : Hid ((m.take (j + 1)).any (sameA a) = false) := by
          show (m.take (j + 1)).any (sameA a) = false
          rw [HT.out, List.any_append, hS.out]; simp [hs]
        clear hs
        go_wp2_with fail
        refine HP.mono ?_
        clear HP
        rintro e w1 ⟨rfl, hb1⟩
        go_wp2_with fail
        go_roundw
        case rel => exact ⟨j + 1, by omega, by go_num, HS2, hB.trans (hb1.mono hB.size)⟩
        case measure => simp [intOf]; omega
    · obtain rfl : j = n := by omega
      clear hm
      go_wp2_with fail
      go_ret
      refine ⟨_, rfl, ?_, by omega, by omega, hB⟩
      rw [← HR.out]
      have := hS.out
      rw [← HN.out, List.take_length] at this
      rw [this]
      rfl
theorem containsA_any (a : Att) (bx : Nat) (A : Option Addr) (cap : Nat) (m : List Att) (w : World) (hm : CellsAtA w A m) (hl : m.length ≤ 4611686018427387904) (c0 : w.cell? ⟨bx, 0, none⟩ = some (.string (bs a.el))) (c1 : w.cell? ⟨bx, 1, none⟩ = some (.string (bs a.nm))) (hbx : bx < w.heap.size) :
    Calls Tryd.prog 94 #[.slice A m.length cap, .func (.func 95) #[] #[.pointer (some ⟨bx, 0, none⟩)]] w fun e w' => e = .returned (.bool (m.any (sameA a))) ∧ Below w.heap.size w w' := by
  have H := indexA_any a bx A cap m w hm hl c0 c1 hbx
  clear hm c0 c1 hbx hl
  go_enter Tryd.func94, Tryd.ntmps94
  go_wp2_with fail
  refine H.mono ?_
  clear H
  rintro e w' ⟨n, rfl, hn, hn1, hn2, hb⟩
  have HN := Lib.hid hn
  clear hn
  go_wp2_with fail
  go_ret
  refine ⟨?_, hb⟩
  rw [← HN.out]
  simp
theorem sameE_eq (a : Ent) : (fun z : Ent => z.nm == a.nm) = sameE a := by funext b; simp only [sameE, bs_toList]
theorem sameA_eq (a : Att) : (fun z : Att => z.el == a.el && z.nm == a.nm) = sameA a := by funext b; simp only [sameA, bs_toList]
theorem addEnt_eq (es : List Ent) (a : Ent) : addEnt es a = if (es.any (sameE a)) = true then es else es ++ [a] := by unfold addEnt; rw [sameE_eq]
theorem addAtt_eq (l : List Att) (a : Att) : addAtt l a = if (l.any (sameA a)) = true then l else l ++ [a] := by unfold addAtt; rw [sameA_eq]
end Go.Proofs.YtmjdjpelhhibgaaDoor.DA
