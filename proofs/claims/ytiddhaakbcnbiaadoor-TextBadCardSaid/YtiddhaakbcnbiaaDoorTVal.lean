/- text.Valid: a range over a string made of bytes, then the library's own look at the bytes. -/
import Derived.Test.YtiddhaakbcnbiaaDoorU8V
import Derived.Test.YtiddhaakbcnbiaaDoorText
import Derived.Test.YtiddhaakbcnbiaaDoorShelf2
import Derived.Test.YtiddhaakbcnbiaaDoorWWords
namespace Go.Proofs.YtiddhaakbcnbiaaDoor.MkC
open Go.RowKit Go.Proofs.YtiddhaakbcnbiaaDoorW.PrintWords
set_option linter.unusedVariables false

theorem make_cap {P : Program} {ops : Array Oper} {rest : List Oper} {o : Oper} {a : Act} {Q : Exit → Act → World → Prop} {α : Type} (d : Kd α) {w0 W : World} (base e : Nat) (hgd : o.guard = none) {N : Tmp} (_hd : o.dst = some N) (t : TypeId) (x y : Operand) (ho : o.op = .makeSlice t x y) (c : Int) (hx : a.eval x = .int .i64 0) (hy : a.eval y = .int .i64 c)
    (ht : P.underlying t = some (.slice e)) (z : Value) (bytes : Nat) (hinfo : (P.info? e).map (fun i => (i.zero, i.size, i.bytes)) = some (some z, d.sz, bytes)) (hb0 : 0 < bytes)
    (z0 : α) {ok : Nat → Prop} (hfresh : ok W.heap.size) (h0 : 0 ≤ c) (hl : c.toNat * bytes ≤ 281474976710656) (HB : Below base w0 W) (hbase : base ≤ W.heap.size)
    (h : ∀ v1 w1, d.R e w1 base ok v1 (List.replicate 0 z0) → Below base w0 w1 → W.grownBy w1 none → (∃ b, v1.ownBlock = some b ∧ W.heap.size ≤ b) → wpList P ops Q rest (a.put o.dst v1) w1) : wpList P ops Q (o :: rest) a W := by
  obtain ⟨m, rfl⟩ := Int.eq_ofNat_of_zero_le h0
  simp only [Int.toNat_natCast] at hl
  obtain ⟨i0, hi, hzz⟩ := Option.map_eq_some_iff.1 hinfo
  simp only [Prod.mk.injEq] at hzz
  obtain ⟨hz0, hz1, hz2⟩ := hzz
  have hm : m ≤ 281474976710656 := Nat.le_trans (Nat.le_mul_of_pos_right _ hb0) hl
  obtain ⟨w1, hr, hown, hgr⟩ := run_make_own (P := P) W base t e i0 z d.sz ht hi hz0 hz1 .i64 .i64 m (by rw [hz2, Nat.mul_comm]; exact hl) (by simp [maxLen]; omega) hbase
  have hbw : Below W.heap.size W w1 := ⟨hgr.os, hgr.tape, hgr.output, hgr.size, fun i hi => hgr.block i hi (by simp)⟩
  refine Kd.event_run hgd (v := .slice (some ⟨W.heap.size, 0, none⟩) 0 m) (w1 := w1) ?_ (h _ _ ⟨fun k hk => ?_, [], hown, Reps.none _ _⟩ (below_then HB hbase hbw) hgr ⟨W.heap.size, by simp [Value.ownBlock], Nat.le_refl _⟩)
  · simp [execOp, ho, hx, hy, hr]
  · have : W.heap.size = k := by simpa [Value.ownBlock] using hk
    subst this
    exact hfresh

end Go.Proofs.YtiddhaakbcnbiaaDoor.MkC

namespace Go.Proofs.YtiddhaakbcnbiaaDoor.TGiv
open Go.RowKit Go.Proofs.YtiddhaakbcnbiaaDoorW.PrintWords Go.Proofs.YtiddhaakbcnbiaaDoorW.PrintLast Go.Proofs.YtiddhaakbcnbiaaDoor.Spec Go.Proofs.YtiddhaakbcnbiaaDoor.Giv Go.Proofs.YtiddhaakbcnbiaaDoor.Txt
set_option linter.unusedVariables false

/-- Each number is a byte's. -/
def bytesOk (l : List Int) : Bool := l.all fun x => decide (0 ≤ x ∧ x < 256)
theorem bytesOk_get {l : List Int} (h : bytesOk l = true) (i : Nat) (hi : i < l.length) : 0 ≤ l.getD i 0 ∧ l.getD i 0 < 256 := by
  have := List.all_eq_true.1 h l[i] (List.getElem_mem hi)
  simpa [List.getD_eq_getElem?_getD, hi] using this
theorem strOfNums_get (l : List Int) (h : bytesOk l = true) (i : Nat) (hi : i < l.length) : (((strOfNums l).get! i).toNat : Int) = l.getD i 0 := by
  have hs : i < (strOfNums l).size := by rw [strOfNums_size]; exact hi
  rw [Utf8W.get!_of_lt _ i hs]
  have e : (strOfNums l)[i]'hs = UInt8.ofNat (l[i]).toNat := by
    have h2 : i < (strOfNums l).data.toList.length := by rw [data_length]; exact hs
    have e1 : (strOfNums l)[i]'hs = (strOfNums l).data.toList[i]'h2 := rfl
    rw [e1]
    simp only [strOfNums_data, List.getElem_map]
  have hb := bytesOk_get h i hi
  have hg : l.getD i 0 = l[i] := by simp [List.getD_eq_getElem?_getD, hi]
  rw [hg] at hb ⊢
  rw [e, UInt8.toNat_ofNat']
  omega
theorem at_of_reads {w : World} {A : Option Addr} {n : Nat} {l : List Int} (h : ReadsInt w .u8 A n l) (hb : bytesOk l = true) : U8.At w A (strOfNums l) := fun i hi => by
  rw [strOfNums_size] at hi
  have hl := h.1
  obtain ⟨ad, ha, hc⟩ := h.2.2 (by omega)
  exact ⟨ad, ha, by rw [hc i (by omega), strOfNums_get l hb i hi]⟩

def text_Valid.f (l0 : List Int) : Option Bool := if bytesOk l0 = true ∧ l0.length < 1000000000 then some (charsB (strOfNums l0)) else none
set_option maxRecDepth 100000 in
set_option maxHeartbeats 2000000 in
theorem text_valid_any (A0 : Option Addr) (c0 : Nat) (l0 : List Int) (w : World) (hE : Env w) (hr0 : ReadsInt w .u8 A0 l0.length l0) (hc0 : l0.length ≤ c0) (hb : bytesOk l0 = true) :
    Calls Tryd.prog 34 #[.slice A0 l0.length c0] w fun e w' => e = .returned (.bool (charsB (strOfNums l0))) ∧ Below w.heap.size w w' := by
  have hAt := at_of_reads hr0 hb
  have hlen := hr0.2.1
  have hcv : ∀ W, Below w.heap.size w W → (convert 34 9 (.slice A0 l0.length c0)).run Tryd.prog W = .ok (.string (strOfNums l0)) W := fun W hW =>
    string_of_reads (P := Tryd.prog) (by kernel_rfl : Tryd.prog.underlying 34 = some (.slice 5)) (by kernel_rfl) (by kernel_rfl) (hr0.below hW)
  have hcv0 := hcv w (Below.refl _ _)
  obtain ⟨s, hs⟩ : ∃ s, strOfNums l0 = s := ⟨_, rfl⟩
  have hsz : s.size = l0.length := by rw [← hs, strOfNums_size]
  rw [hs] at hcv0 hAt
  obtain ⟨N, hN⟩ : ∃ N, l0.length = N := ⟨_, rfl⟩
  rw [hN] at hcv0 hsz hc0 hlen
  rw [hs, hN, charsB_walk]
  obtain ⟨ANS, hANS⟩ : ∃ b, (runesAll (fun _ r => charB r) s s.size 0 && Lib.validD s.data.toList) = b := ⟨_, rfl⟩
  rw [hANS]
  have HE := Lib.hid hE
  have HAT := Lib.hid hAt
  have HA : Hid ((runesAll (fun _ r => charB r) s s.size 0 && Lib.validD s.data.toList) = ANS) := hANS
  clear hANS hcv hr0 hb hE hAt hs
  go_enter Tryd.func34, Tryd.ntmps34
  go_wp2
  go_loopw [4] (fun v wr => ∃ (pos b : Nat), wr.heap[w.heap.size]? = some (.stringIter s pos) ∧ Below w.heap.size w wr ∧ Hid ((runesAll (fun _ r => charB r) s b pos && Lib.validD s.data.toList) = ANS) ∧ s.size ≤ pos + b) (fun _ wr => s.size - wr.iterPos w.heap.size)
  case atStart => exact ⟨0, s.size, World.iter_heap w s 0, (Below.refl _ _).alloc (Nat.le_refl _) _, HA, by omega⟩
  case round =>
    obtain ⟨pos, b, hit, hbw, HS, hb⟩ := hrel
    clear HA
    have hpos0 := iterPos_of hit
    by_cases hp : pos < s.size
    · have hnx : ∀ ty, (Instr.next (.pointer (some ⟨w.heap.size, 0, none⟩)) true ty).run Tryd.prog wr = _ := fun ty => Lib.run_next_any_at wr w.heap.size s pos ty hit hp
      have hwd := width_pos s pos hp
      have hit2 := Lib.iterAt_heap wr w.heap.size s pos (pos + (Utf8.decode s pos).2) hit
      have hbw2 := Lib.below_iterAt hbw (k := w.heap.size) (Nat.le_refl _) s (pos + (Utf8.decode s pos).2)
      obtain ⟨e1, g1⟩ := runesAll_step (fun _ r => charB r) s b pos hb hp
      obtain ⟨W1, hW1⟩ : ∃ W1, W1 = wr.iterAt w.heap.size s (pos + (Utf8.decode s pos).2) := ⟨_, rfl⟩
      rw [← hW1] at hnx hit2 hbw2
      obtain ⟨c, hc⟩ : ∃ c, charB ((Utf8.decode s pos).1 : Int) = c := ⟨_, rfl⟩
      have HS2 : Hid ((c && runesAll (fun _ r => charB r) s (b - 1) (pos + (Utf8.decode s pos).2) && Lib.validD s.data.toList) = ANS) := by rw [← HS.out, e1, hc]; rfl
      have cS : ∀ W, Calls Tryd.prog 20 #[.int .i32 ((Utf8.decode s pos).1 : Int)] W fun e w' => e = .returned (.bool c) ∧ Below W.heap.size W w' := fun W => runes_Char.calls _ _ W (by rw [← hc]; rfl)
      have hBlt := lt_of_block hit2
      clear hW1 hit hbw e1 hc HS
      cases c with
      | true =>
        go_wp2_with (go_at_call 20; refine (cS _).mono ?_; rintro e W3 ⟨rfl, hb3⟩)
        have hit4 : W3.heap[w.heap.size]? = _ := (hb3.block _ hBlt).trans hit2
        go_roundw
        case rel => exact ⟨_, b - 1, hit4, hbw2.trans (hb3.mono (by omega)), (show _ = ANS by have := HS2.out; simpa using this), g1⟩
        case measure =>
          rw [iterPos_of hit4, hpos0]
          omega
      | false =>
        go_wp2_with (go_at_call 20; refine (cS _).mono ?_; rintro e W3 ⟨rfl, hb3⟩)
        go_ret
        exact ⟨ret_bool (by have := HS2.out; simpa using this), hbw2.trans (hb3.mono (by omega))⟩
    · have hnx : ∀ ty, (Instr.next (.pointer (some ⟨w.heap.size, 0, none⟩)) true ty).run Tryd.prog wr = _ := fun ty => Lib.run_next_end_at wr w.heap.size s pos ty hit hp
      have HR : Hid (Lib.validD s.data.toList = ANS) := by have := HS.out; rw [runesAll_end _ _ _ _ hp, Bool.true_and] at this; exact this
      clear HS
      have cV : Calls Tryd.prog 50 #[.slice A0 N c0] wr fun e w' => e = .returned (.bool ANS) ∧ Below wr.heap.size wr w' := by
        have := U8.valid_at A0 s N c0 wr hsz.symm (by omega) hc0 (HAT.out.below hbw) (Env.below HE.out hbw).2
        rw [HR.out] at this
        exact this
      go_wp2_with (go_at_call 50; refine cV.mono ?_; rintro e W2 ⟨rfl, hb2⟩)
      go_ret
      exact ⟨rfl, hbw.trans (hb2.mono hbw.size)⟩
theorem text_Valid.calls (A0 : Option Addr) (c0 : Nat) (l0 : List Int) (r : Bool) (w : World) (hE : Env w) (hr0 : Kd.C (Kd.int .u8) w A0 l0.length l0) (hc0 : l0.length ≤ c0) (h : text_Valid.f l0 = some r) :
    Calls Tryd.prog 34 #[.slice A0 l0.length c0] w fun e w' => e = .returned (.bool r) ∧ Below w.heap.size w w' := by
  unfold text_Valid.f at h
  by_cases hb : bytesOk l0 = true ∧ l0.length < 1000000000
  · rw [if_pos hb] at h
    obtain rfl := Option.some.inj h
    exact text_valid_any A0 c0 l0 w hE (Kd.reads_of_C (enc := Value.int .u8) (d := (0 : Int)) (h1 := fun _ => rfl) hr0) hc0 hb.1
  · rw [if_neg hb] at h
    cases h

/-! ### the library's -/
def strings_ReplaceAll.f (a0 a1 a2 : ByteArray) : Option ByteArray := if a0.size < 1000000000 ∧ 1 ≤ a1.size ∧ a2.size ≤ a1.size then some ⟨(Lib.replaceAll a0.data.toList a1.data.toList a2.data.toList).toArray⟩ else none
theorem strings_ReplaceAll.calls (a0 a1 a2 : ByteArray) (r : ByteArray) (w : World) (hE : Env w) (h : strings_ReplaceAll.f a0 a1 a2 = some r) :
    Calls Tryd.prog 53 #[.string a0, .string a1, .string a2] w fun e w' => e = .returned (.string r) ∧ Below w.heap.size w w' := by
  unfold strings_ReplaceAll.f at h
  by_cases hb : a0.size < 1000000000 ∧ 1 ≤ a1.size ∧ a2.size ≤ a1.size
  · rw [if_pos hb] at h
    obtain rfl := Option.some.inj h
    obtain ⟨⟨m, hm⟩, -⟩ := hE
    have h1 := Lib.countB_mul_le a1 hb.2.1 a0.size a0 (Nat.le_refl _)
    have h2 := Nat.mul_le_mul_left (Lib.countB a0 a1) hb.2.2
    exact Tryd.strings_ReplaceAll a0 a1 a2 m w (by omega) hm hb.2.1 (by omega)
  · rw [if_neg hb] at h
    cases h
def strings_Count.f (a0 a1 : ByteArray) : Option Int := if a1.size = 1 then some (Lib.countByte a0.data.toList (a1.get! 0) : Int) else none
theorem strings_Count.calls (a0 a1 : ByteArray) (r : Int) (w : World) (h : strings_Count.f a0 a1 = some r) :
    Calls Tryd.prog 54 #[.string a0, .string a1] w fun e w' => e = .returned (.int .i64 r) ∧ Drawn0 w w' := by
  unfold strings_Count.f at h
  by_cases hb : a1.size = 1
  · rw [if_pos hb] at h
    obtain rfl := Option.some.inj h
    obtain ⟨⟨l⟩⟩ := a1
    obtain ⟨c, rfl⟩ := List.length_eq_one_iff.1 (show l.length = 1 from hb)
    refine (Tryd.strings_Count_one a0 c w).mono ?_
    rintro e w' ⟨rfl, rfl⟩
    exact ⟨rfl, Drawn0.refl _⟩
  · rw [if_neg hb] at h
    cases h

end Go.Proofs.YtiddhaakbcnbiaaDoor.TGiv
