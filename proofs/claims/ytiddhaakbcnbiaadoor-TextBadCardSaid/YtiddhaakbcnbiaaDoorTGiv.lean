/- The contracts of the package of texts: text.Ends, text.Read, text.Lines; the document's own Ends and Valid. -/
import Derived.Test.YtiddhaakbcnbiaaDoorR4x1
import Derived.Test.YtiddhaakbcnbiaaDoorRef
namespace Go.Proofs.YtiddhaakbcnbiaaDoor.TGiv
open Go.RowKit Go.Proofs.YtiddhaakbcnbiaaDoorW.PrintWords Go.Proofs.YtiddhaakbcnbiaaDoorW.PrintLast Go.Proofs.YtiddhaakbcnbiaaDoor.Spec Go.Proofs.YtiddhaakbcnbiaaDoor.Giv Go.Proofs.YtiddhaakbcnbiaaDoor.Txt
set_option linter.unusedVariables false

/-! ### ends of lines -/
theorem arr_list (l : List UInt8) : (⟨l.toArray⟩ : ByteArray).data.toList = l := rfl
theorem arr_size (l : List UInt8) : (⟨l.toArray⟩ : ByteArray).size = l.length := rfl
theorem list_size (s : ByteArray) : s.data.toList.length = s.size := data_length s
theorem Ends_f (a0 : ByteArray) (h : a0.size < 1000000000) : R4.text_Ends.f a0 = some (endsB a0) := by
  have h1 : strings_ReplaceAll.f a0 (⟨#[13, 10]⟩ : ByteArray) (⟨#[10]⟩ : ByteArray) = some ⟨(Lib.replaceAll a0.data.toList [13, 10] [10]).toArray⟩ := by
    unfold strings_ReplaceAll.f
    exact if_pos ⟨h, by decide, by decide⟩
  have h2 : (⟨(Lib.replaceAll a0.data.toList [13, 10] [10]).toArray⟩ : ByteArray).size < 1000000000 := by
    rw [arr_size, replaceAll_repl _ _ _ (by decide) (by decide)]
    have := crlf_length a0.data.toList.length a0.data.toList
    rw [list_size] at this
    exact Nat.lt_of_le_of_lt this h
  unfold R4.text_Ends.f
  rw [h1, Option.bind_some]
  unfold strings_ReplaceAll.f
  rw [if_pos ⟨h2, by decide, by decide⟩, Option.bind_some, arr_list]
  show some _ = some _
  rw [show (⟨#[13]⟩ : ByteArray).data.toList = [13] from rfl, show (⟨#[10]⟩ : ByteArray).data.toList = [10] from rfl, ends_two]
  rfl
def text_Ends.f (a0 : ByteArray) : Option ByteArray := if a0.size < 1000000000 then some (endsB a0) else none
theorem text_Ends.calls (a0 : ByteArray) (r : ByteArray) (w : World) (hE : Env w) (h : text_Ends.f a0 = some r) :
    Calls Tryd.prog 38 #[.string a0] w fun e w' => e = .returned (.string r) ∧ Below w.heap.size w w' := by
  unfold text_Ends.f at h
  by_cases hs : a0.size < 1000000000
  · rw [if_pos hs] at h; exact R4.text_Ends.calls a0 r w hE ((Ends_f a0 hs).trans h)
  · rw [if_neg hs] at h; cases h
def text_Lines.f (a0 : ByteArray) : Option Int := some (Lib.countByte a0.data.toList 10 : Int)
theorem text_Lines.calls (a0 : ByteArray) (r : Int) (w : World) (h : text_Lines.f a0 = some r) :
    Calls Tryd.prog 40 #[.string a0] w fun e w' => e = .returned (.int .i64 r) ∧ Drawn0 w w' :=
  R4.text_Lines.calls a0 r w (by
    rw [← h]
    unfold R4.text_Lines.f strings_Count.f text_Lines.f
    rw [if_pos (by rfl)]
    rfl)

/-! ### bytes.TrimPrefix, text.Read -/
def markN : List Int := [239, 187, 191]
def trimN (l : List Int) : List Int := if bytesOk l = true ∧ bom.isPrefixOf (strOfNums l).data.toList = true then l.drop 3 else l
theorem take_str (l : List Int) (h3 : 3 ≤ l.length) (h : bytesOk l = true) : R4.bytes_Equal.f (l.take 3) markN = some (bom.isPrefixOf (strOfNums l).data.toList) := by
  unfold R4.bytes_Equal.f
  obtain ⟨a, b, c, l', rfl⟩ : ∃ a b c l', l = a :: b :: c :: l' := by
    match l, h3 with
    | a :: b :: c :: l', _ => exact ⟨a, b, c, l', rfl⟩
  congr 1
  rw [ByteArray.toList_eq, ByteArray.toList_eq]
  simp only [strOfNums_data]
  show (([a, b, c].map fun n => UInt8.ofNat n.toNat) == (markN.map fun n => UInt8.ofNat n.toNat)) = _
  show (([UInt8.ofNat a.toNat, UInt8.ofNat b.toNat, UInt8.ofNat c.toNat] : List UInt8) == [239, 187, 191]) = ((239 : UInt8) == UInt8.ofNat a.toNat && ((187 : UInt8) == UInt8.ofNat b.toNat && ((191 : UInt8) == UInt8.ofNat c.toNat && true)))
  generalize UInt8.ofNat a.toNat = x
  generalize UInt8.ofNat b.toNat = y
  generalize UInt8.ofNat c.toNat = z
  rw [Bool.eq_iff_iff]
  simp only [beq_iff_eq, Bool.and_eq_true, List.cons.injEq, and_true]
  exact ⟨fun ⟨a, b, c⟩ => ⟨a.symm, b.symm, c.symm⟩, fun ⟨a, b, c⟩ => ⟨a.symm, b.symm, c.symm⟩⟩
theorem nums_mark (W : World) : ReadsInt (W.alloc (.cells #[.int .u8 239, .int .u8 187, .int .u8 191] 5)) .u8 (some ⟨W.heap.size, 0, none⟩) 3 markN :=
  own_reads' (own_lit W W.heap.size 5 .u8 markN (Nat.le_refl _) (by decide))
theorem reads_C {w : World} {A : Option Addr} {n : Nat} {l : List Int} (h : ReadsInt w .u8 A n l) : Kd.C (Kd.int .u8) w A n l :=
  Kd.C_of_reads (enc := Value.int .u8) (d := (0 : Int)) (h1 := fun _ => rfl) h
set_option maxRecDepth 100000 in
set_option maxHeartbeats 2000000 in
theorem has_prefix (A0 : Option Addr) (c0 : Nat) (l0 : List Int) (hc0 : l0.length ≤ c0) (hb : bytesOk l0 = true) (W : World) (A1 : Option Addr) (c1 : Nat) (h0 : ReadsInt W .u8 A0 l0.length l0) (h1 : ReadsInt W .u8 A1 3 markN) (hc1 : 3 ≤ c1) :
    Calls Tryd.prog 59 #[.slice A0 l0.length c0, .slice A1 3 c1] W fun e w' => e = .returned (.bool (bom.isPrefixOf (strOfNums l0).data.toList)) ∧ Drawn0 W w' := by
  have mixed : Tryd.prog.follows .mixedOrders = true := by kernel_rfl
  by_cases h3 : 3 ≤ l0.length
  · have hf := take_str l0 h3 hb
    have h0' := h0.take_ 3 h3
    have hl3 : (l0.take 3).length = 3 := by rw [List.length_take]; omega
    obtain ⟨v, hv⟩ : ∃ v, bom.isPrefixOf (strOfNums l0).data.toList = v := ⟨_, rfl⟩
    rw [hv] at hf ⊢
    obtain ⟨N, hN⟩ : ∃ N, l0.length = N := ⟨_, rfl⟩
    have cE : ∀ W', W'.heap = W.heap → Calls Tryd.prog 64 #[.slice A0 3 c0, .slice A1 3 c1] W' fun e w' => e = .returned (.bool v) ∧ Drawn0 W' w' := fun W' hW => by
      have hh : ∀ {A n l}, ReadsInt W .u8 A n l → ReadsInt W' .u8 A n l := fun h => ⟨h.1, h.2.1, fun hn => by
        obtain ⟨ad, ha, hc⟩ := h.2.2 hn
        refine ⟨ad, ha, fun j hj => ?_⟩
        rw [← hc j hj]; unfold World.cell?; rw [hW]⟩
      have := R4.bytes_Equal.calls A0 c0 (l0.take 3) A1 c1 markN v W' (by rw [hl3]; exact reads_C (hh h0')) (by omega) (reads_C (hh h1)) hc1 hf
      rw [hl3] at this
      exact this
    have hcut : ∀ W', (Instr.slice 34 (.slice A0 N c0) none (some (.int .i64 3)) none).run Tryd.prog W' = .ok (.slice A0 3 c0) W' := fun W' => by
      have hu : Tryd.prog.underlying 34 = some (.slice (Tryd.prog.elem 34)) := by kernel_rfl
      have hel : Tryd.prog.elem 34 = 5 := by kernel_rfl
      have hi : (Tryd.prog.info? 5).map (fun i => i.size) = some 1 := by kernel_rfl
      obtain ⟨i, hi1, hi2⟩ := Option.map_eq_some_iff.1 hi
      rw [run_slice_h W' 34 A0 N c0 hu .i64 3 (by decide) (by omega), hel]
      have ha : A0.map (fun x => x.add 0) = A0 := by cases A0 <;> simp [Addr.add]
      simp [sizeOf, typeInfo, hi1, hi2, sliced, Result.andThen, ha]
    rw [hN]
    have h3z : (3 : Int) ≤ (N : Int) := by omega
    clear h0 h1 h0' hf hv hN h3 hl3 hb hc0 hc1
    go_enter Tryd.func59, Tryd.ntmps59
    go_wp2_with (go_at_call 64; refine (cE _ rfl).mono ?_; rintro e w' ⟨rfl, ⟨n, rfl⟩⟩)
    go_ret
    exact ⟨rfl, ⟨_, rfl⟩⟩
  · have hv : bom.isPrefixOf (strOfNums l0).data.toList = false := by
      rw [Bool.eq_false_iff]
      intro hp
      have := List.IsPrefix.length_le (List.isPrefixOf_iff_prefix.1 hp)
      rw [list_size, strOfNums_size] at this
      exact h3 this
    rw [hv]
    obtain ⟨N, hN⟩ : ∃ N, l0.length = N := ⟨_, rfl⟩
    rw [hN]
    have h3z : ¬ (3 : Int) ≤ (N : Int) := by omega
    have h3b : decide ((3 : Int) ≤ (N : Int)) = false := decide_eq_false h3z
    clear h0 h1 hv hN h3 hb hc0 hc1
    go_enter Tryd.func59, Tryd.ntmps59
    go_wp2
    go_ret
    exact ⟨rfl, Drawn0.refl _⟩
set_option maxRecDepth 100000 in
set_option maxHeartbeats 2000000 in
theorem trim_any (A0 : Option Addr) (c0 : Nat) (l0 : List Int) (hc0 : l0.length ≤ c0) (hb : bytesOk l0 = true) :
    ∃ (A' : Option Addr) (c' : Nat), (∀ W, ReadsInt W .u8 A0 l0.length l0 → ReadsInt W .u8 A' (trimN l0).length (trimN l0)) ∧ (trimN l0).length ≤ c' ∧
      ∀ (W : World) (A1 : Option Addr) (c1 : Nat), ReadsInt W .u8 A0 l0.length l0 → ReadsInt W .u8 A1 3 markN → 3 ≤ c1 →
        Calls Tryd.prog 51 #[.slice A0 l0.length c0, .slice A1 3 c1] W fun e w' => e = .returned (.slice A' (trimN l0).length c') ∧ Drawn0 W w' := by
  obtain ⟨v, hv⟩ : ∃ v, bom.isPrefixOf (strOfNums l0).data.toList = v := ⟨_, rfl⟩
  have hP : ∀ (W : World) (A1 : Option Addr) (c1 : Nat), ReadsInt W .u8 A0 l0.length l0 → ReadsInt W .u8 A1 3 markN → 3 ≤ c1 →
      Calls Tryd.prog 59 #[.slice A0 l0.length c0, .slice A1 3 c1] W fun e w' => e = .returned (.bool v) ∧ Drawn0 W w' := fun W A1 c1 h0 h1 hc1 =>
    hv ▸ has_prefix A0 c0 l0 hc0 hb W A1 c1 h0 h1 hc1
  cases v with
  | false =>
    have ht : trimN l0 = l0 := by unfold trimN; rw [if_neg]; rw [hv]; simp
    refine ⟨A0, c0, fun W h => by rw [ht]; exact h, by rw [ht]; exact hc0, fun W A1 c1 h0 h1 hc1 => ?_⟩
    rw [ht]
    have cP := hP W A1 c1 h0 h1 hc1
    clear hP h0 h1 hv
    go_enter Tryd.func51, Tryd.ntmps51
    go_wp2_with (go_at_call 59; refine cP.mono ?_; rintro e w' ⟨rfl, ⟨n, rfl⟩⟩)
    go_ret
    exact ⟨rfl, ⟨_, rfl⟩⟩
  | true =>
    have ht : trimN l0 = l0.drop 3 := by unfold trimN; rw [if_pos ⟨hb, hv⟩]
    have h3 : 3 ≤ l0.length := by
      have := List.IsPrefix.length_le (List.isPrefixOf_iff_prefix.1 hv)
      rw [list_size, strOfNums_size] at this
      exact this
    obtain ⟨i, hi, hsz⟩ : ∃ i, Tryd.prog.info? 5 = some i ∧ i.size = 1 := by
      have hi : (Tryd.prog.info? 5).map (fun i => i.size) = some 1 := by kernel_rfl
      exact Option.map_eq_some_iff.1 hi
    obtain ⟨A', hcut, hA'⟩ := print_cut (P := Tryd.prog) 34 5 .i64 (by kernel_rfl) hi hsz A0 l0.length c0 3 h3
    have hcut : ∀ W, (Instr.slice 34 (.slice A0 l0.length c0) (some (.int .i64 3)) none none).run Tryd.prog W = .ok (.slice A' (l0.length - 3) (c0 - 3)) W := hcut
    have hl : (trimN l0).length = l0.length - 3 := by rw [ht, List.length_drop]
    refine ⟨A', c0 - 3, fun W h => by rw [hl, ht]; exact hA' W .u8 l0 hc0 h, by omega, fun W A1 c1 h0 h1 hc1 => ?_⟩
    rw [hl]
    have cP := hP W A1 c1 h0 h1 hc1
    clear hP h0 h1 hv hl ht hA' hi hb
    obtain ⟨N, hN⟩ : ∃ N, l0.length = N := ⟨_, rfl⟩
    rw [hN] at hcut cP ⊢
    have h3z : (3 : Int) ≤ (N : Int) := by omega
    go_enter Tryd.func51, Tryd.ntmps51
    go_wp2_with (go_at_call 59; refine cP.mono ?_; rintro e w' ⟨rfl, ⟨n, rfl⟩⟩)
    go_ret
    exact ⟨rfl, ⟨_, rfl⟩⟩
theorem trimN_str (l : List Int) (h : bytesOk l = true) : (strOfNums (trimN l)).data.toList = if bom.isPrefixOf (strOfNums l).data.toList then (strOfNums l).data.toList.drop 3 else (strOfNums l).data.toList := by
  unfold trimN
  by_cases hp : bom.isPrefixOf (strOfNums l).data.toList = true
  · rw [if_pos ⟨h, hp⟩, if_pos hp]
    simp [strOfNums_data, List.map_drop]
  · rw [if_neg (fun hh => hp hh.2), if_neg hp]
theorem trimN_ok (l : List Int) (h : bytesOk l = true) : bytesOk (trimN l) = true := by
  unfold trimN
  split
  · exact List.all_eq_true.2 fun x hx => List.all_eq_true.1 h x (List.mem_of_mem_drop hx)
  · exact h
theorem trimN_length (l : List Int) : (trimN l).length ≤ l.length := by
  unfold trimN
  split
  · rw [List.length_drop]; omega
  · exact Nat.le_refl _
theorem str_of_list (s : ByteArray) : (⟨s.data.toList.toArray⟩ : ByteArray) = s := by
  obtain ⟨⟨l⟩⟩ := s
  rfl
def text_Read.f (l0 : List Int) : Option (ByteArray × Int) := if bytesOk l0 = true ∧ l0.length < 1000000000 then some (readB (strOfNums l0).data.toList) else none
set_option maxRecDepth 100000 in
set_option maxHeartbeats 2000000 in
theorem read_any (A0 : Option Addr) (c0 : Nat) (l0 : List Int) (w : World) (hE : Env w) (hr0 : ReadsInt w .u8 A0 l0.length l0) (hc0 : l0.length ≤ c0) (hb : bytesOk l0 = true) (hlen : l0.length < 1000000000) :
    Calls Tryd.prog 35 #[.slice A0 l0.length c0] w fun e w' => e = .returned (.tuple #[.string (readB (strOfNums l0).data.toList).1, .int .i64 (readB (strOfNums l0).data.toList).2]) ∧ Below w.heap.size w w' := by
  obtain ⟨A', c', hA', hc', cT⟩ := trim_any A0 c0 l0 hc0 hb
  have hs := trimN_str l0 hb
  have hok := trimN_ok l0 hb
  have htl := trimN_length l0
  obtain ⟨t, ht⟩ : ∃ t, trimN l0 = t := ⟨_, rfl⟩
  rw [ht] at hA' hc' cT hs hok htl
  have hread : readB (strOfNums l0).data.toList = if charsB (strOfNums t) then (endsB (strOfNums t), 0) else (⟨#[]⟩, 2) := by
    unfold readB
    rw [← hs]
  rw [hread]
  obtain ⟨v, hv⟩ : ∃ v, charsB (strOfNums t) = v := ⟨_, rfl⟩
  rw [hv]
  have hA'w := hA' w hr0
  have hcv : ∀ W, Below w.heap.size w W → (convert 34 9 (.slice A' t.length c')).run Tryd.prog W = .ok (.string (strOfNums t)) W := fun W hW =>
    string_of_reads (P := Tryd.prog) (by kernel_rfl : Tryd.prog.underlying 34 = some (.slice 5)) (by kernel_rfl) (by kernel_rfl) (hA'w.below hW)
  have cV : ∀ W, Below w.heap.size w W → Calls Tryd.prog 34 #[.slice A' t.length c'] W fun e w' => e = .returned (.bool v) ∧ Below W.heap.size W w' := fun W hW =>
    hv ▸ text_valid_any A' c' t W (Env.below hE hW) (hA'w.below hW) hc' hok
  have cE : ∀ W, Below w.heap.size w W → Calls Tryd.prog 38 #[.string (strOfNums t)] W fun e w' => e = .returned (.string (endsB (strOfNums t))) ∧ Below W.heap.size W w' := fun W hW =>
    text_Ends.calls _ _ W (Env.below hE hW) (by unfold text_Ends.f; rw [if_pos]; rw [strOfNums_size]; omega)
  have hb1 : Below w.heap.size w (w.alloc (.cells #[.int .u8 239, .int .u8 187, .int .u8 191] 5)) := below_alloc (Below.refl _ _) _
  have cT1 := cT (w.alloc (.cells #[.int .u8 239, .int .u8 187, .int .u8 191] 5)) (some ⟨w.heap.size, 0, none⟩) 3 (hr0.below hb1) (nums_mark w) (Nat.le_refl _)
  have HB1 := Lib.hid hb1
  have HCV := Lib.hid hcv
  obtain ⟨N, hN⟩ : ∃ N, l0.length = N := ⟨_, rfl⟩
  obtain ⟨s, hs'⟩ : ∃ s, strOfNums t = s := ⟨_, rfl⟩
  obtain ⟨s2, hs2⟩ : ∃ s2, endsB (strOfNums t) = s2 := ⟨_, rfl⟩
  obtain ⟨M, hM⟩ : ∃ M, t.length = M := ⟨_, rfl⟩
  rw [hs2] at cE ⊢
  rw [hs'] at cE HCV
  rw [hN] at cT1 ⊢
  rw [hM] at cT1 cV HCV
  clear hcv hb1 cT hE hr0 hA' hA'w hs hok htl hread hv ht hN hs' hs2 hM hc' hc0 hb hlen
  go_enter Tryd.func35, Tryd.ntmps35
  go_upto_region 2 with (go_at_call 51; refine cT1.mono ?_; rintro e w' ⟨rfl, ⟨n, rfl⟩⟩)
  have hb2 : Below w.heap.size w ((w.alloc (.cells #[.int .u8 239, .int .u8 187, .int .u8 191] 5)).drewN n) := pw_below_drewN HB1.out n
  have cV2 := cV _ hb2
  cases v with
  | false =>
    go_wp2_with (go_at_call 34; refine cV2.mono ?_; rintro e W3 ⟨rfl, hb3⟩)
    go_ret2
    exact ⟨rfl, hb2.trans (hb3.mono hb2.size)⟩
  | true =>
    go_upto_region 4 with (go_at_call 34; refine cV2.mono ?_; rintro e W3 ⟨rfl, hb3⟩)
    have hb4 : Below w.heap.size w W3 := hb2.trans (hb3.mono hb2.size)
    have cE4 := cE W3 hb4
    have hcv4 := HCV.out W3 hb4
    go_wp2_with (go_at_call 38; refine cE4.mono ?_; rintro e W5 ⟨rfl, hb5⟩)
    go_ret2
    exact ⟨rfl, hb4.trans (hb5.mono hb4.size)⟩
theorem text_Read.calls (A0 : Option Addr) (c0 : Nat) (l0 : List Int) (r1 : ByteArray) (r2 : Int) (w : World) (hE : Env w) (hr0 : Kd.C (Kd.int .u8) w A0 l0.length l0) (hc0 : l0.length ≤ c0) (h : text_Read.f l0 = some (r1, r2)) :
    Calls Tryd.prog 35 #[.slice A0 l0.length c0] w fun e w' => e = .returned (.tuple #[.string r1, .int .i64 r2]) ∧ Below w.heap.size w w' := by
  unfold text_Read.f at h
  by_cases hb : bytesOk l0 = true ∧ l0.length < 1000000000
  · rw [if_pos hb] at h
    have h2 := Option.some.inj h
    have := read_any A0 c0 l0 w hE (Kd.reads_of_C (enc := Value.int .u8) (d := (0 : Int)) (h1 := fun _ => rfl) hr0) hc0 hb.1 hb.2
    rw [h2] at this
    exact this
  · rw [if_neg hb] at h
    cases h

end Go.Proofs.YtiddhaakbcnbiaaDoor.TGiv
