/- The law's own look at a few texts: what 'told' answers. -/
import Derived.Test.YtiddhaakbcnbiaaDoorTRef
import Derived.Lib.SlBytesConst
namespace Go.Proofs.YtiddhaakbcnbiaaDoor.TGiv
open Go.RowKit Go.Proofs.YtiddhaakbcnbiaaDoorW.PrintWords Go.Proofs.YtiddhaakbcnbiaaDoorW.PrintLast Go.Proofs.YtiddhaakbcnbiaaDoor.Spec Go.Proofs.YtiddhaakbcnbiaaDoor.Giv Go.Proofs.YtiddhaakbcnbiaaDoor.Txt
set_option linter.unusedVariables false

set_option maxRecDepth 100000 in
theorem tf1 : readB (strOfNums [239, 187, 191, 97, 13, 10, 98, 13, 99]).data.toList = (⟨#[97, 10, 98, 10, 99]⟩, 0) := by decide +kernel
set_option maxRecDepth 100000 in
theorem tf2 : readB (strOfNums [192, 128]).data.toList = (⟨#[]⟩, 2) := by decide +kernel
set_option maxRecDepth 100000 in
theorem tf3 : readB (strOfNums [0]).data.toList = (⟨#[]⟩, 2) := by decide +kernel
set_option maxRecDepth 100000 in
theorem tf4 : text_Ends.f ⟨#[13, 10, 13]⟩ = some ⟨#[10, 10]⟩ := by decide +kernel
set_option maxRecDepth 100000 in
theorem tf5 : text_Lines.f ⟨#[97, 10, 98, 10]⟩ = some 2 := by decide +kernel
set_option maxRecDepth 100000 in
theorem tf6 : charsB (strOfNums [226, 130, 172]) = true := by decide +kernel
set_option maxRecDepth 100000 in
theorem tf7 : charsB (strOfNums [237, 160, 128]) = false := by decide +kernel
set_option maxRecDepth 100000 in
theorem tf8 : ((⟨#[97, 10, 98, 10, 99]⟩ : ByteArray).toList == ([97, 10, 98, 10, 99] : List UInt8)) = true := by decide +kernel
set_option maxRecDepth 100000 in
theorem tf9 : ((⟨#[10, 10]⟩ : ByteArray).toList == ([10, 10] : List UInt8)) = true := by decide +kernel

/-- A row of bytes that was just laid is read. -/
theorem lit_reads (W : World) (xs : List Int) (fr : Nat × Nat) (hx : xs.length ≤ 9223372036854775807) : ReadsInt (W.alloc (.cells (nums .u8 xs).toArray 5 fr)) .u8 (some ⟨W.heap.size, 0, none⟩) xs.length xs := by
  refine ⟨rfl, hx, fun hn => ⟨_, rfl, fun j hj => ?_⟩⟩
  rw [add_plain]
  have hb : (W.alloc (.cells (nums .u8 xs).toArray 5 fr)).heap[W.heap.size]? = some (.cells (nums .u8 xs).toArray 5 fr) := blk_new W _
  unfold World.cell?
  rw [hb]
  simp [nums, hj, List.getD_eq_getElem?_getD]
theorem read_lit (xs : List Int) (n : Nat) (C : Array Value) (fr : Nat × Nat) (S : ByteArray) (c : Int) (hn : n = xs.length) (hC : C = (nums .u8 xs).toArray) (hb : bytesOk xs = true) (hl : xs.length < 1000000000) (hr : readB (strOfNums xs).data.toList = (S, c)) (W : World) (hE : Env W) :
    Calls Tryd.prog 35 #[.slice (some ⟨W.heap.size, 0, none⟩) n n] (W.alloc (.cells C 5 fr)) fun e w' => e = .returned (.tuple #[.string S, .int .i64 c]) ∧ Below W.heap.size W w' := by
  subst hn hC
  have hb1 : Below W.heap.size W (W.alloc (.cells (nums .u8 xs).toArray 5 fr)) := below_alloc (Below.refl _ _) _
  have := read_any (some ⟨W.heap.size, 0, none⟩) xs.length xs _ (Env.below hE hb1) (lit_reads W xs fr (by omega)) (Nat.le_refl _) hb hl
  rw [hr] at this
  exact this.mono fun e w' ⟨he, hb2⟩ => ⟨he, hb1.trans (hb2.mono hb1.size)⟩
theorem valid_lit (xs : List Int) (n : Nat) (C : Array Value) (fr : Nat × Nat) (v : Bool) (hn : n = xs.length) (hC : C = (nums .u8 xs).toArray) (hb : bytesOk xs = true) (hl : xs.length < 1000000000) (hr : charsB (strOfNums xs) = v) (W : World) (hE : Env W) :
    Calls Tryd.prog 34 #[.slice (some ⟨W.heap.size, 0, none⟩) n n] (W.alloc (.cells C 5 fr)) fun e w' => e = .returned (.bool v) ∧ Below W.heap.size W w' := by
  subst hn hC
  have hb1 : Below W.heap.size W (W.alloc (.cells (nums .u8 xs).toArray 5 fr)) := below_alloc (Below.refl _ _) _
  have := text_valid_any (some ⟨W.heap.size, 0, none⟩) xs.length xs _ (Env.below hE hb1) (lit_reads W xs fr (by omega)) (Nat.le_refl _) hb
  rw [hr] at this
  exact this.mono fun e w' ⟨he, hb2⟩ => ⟨he, hb1.trans (hb2.mono hb1.size)⟩

set_option maxRecDepth 100000 in
set_option maxHeartbeats 4000000 in
theorem told_any (w : World) (hE : Env w) : Calls Tryd.prog 33 #[] w fun e w' => e = .returned (.bool true) ∧ Below w.heap.size w w' := by
  obtain ⟨S1, hS1⟩ : ∃ S : ByteArray, S = ⟨#[97, 10, 98, 10, 99]⟩ := ⟨_, rfl⟩
  obtain ⟨S2, hS2⟩ : ∃ S : ByteArray, S = ⟨#[]⟩ := ⟨_, rfl⟩
  obtain ⟨S4, hS4⟩ : ∃ S : ByteArray, S = ⟨#[10, 10]⟩ := ⟨_, rfl⟩
  have cR1 := fun W => read_lit [239, 187, 191, 97, 13, 10, 98, 13, 99] 9 #[.int .u8 239, .int .u8 187, .int .u8 191, .int .u8 97, .int .u8 13, .int .u8 10, .int .u8 98, .int .u8 13, .int .u8 99] (9, 10) S1 0 rfl rfl rfl (by decide) (by rw [hS1]; exact tf1) W
  have cR2 := fun W => read_lit [192, 128] 2 #[.int .u8 192, .int .u8 128] (0, 0) S2 2 rfl rfl rfl (by decide) (by rw [hS2]; exact tf2) W
  have cR3 := fun W => read_lit [0] 1 #[.int .u8 0] (0, 0) S2 2 rfl rfl rfl (by decide) (by rw [hS2]; exact tf3) W
  have cE4 : ∀ W, Env W → Calls Tryd.prog 38 #[.string ⟨#[13, 10, 13]⟩] W fun e w' => e = .returned (.string S4) ∧ Below W.heap.size W w' := fun W h => text_Ends.calls _ _ W h (by rw [hS4]; exact tf4)
  have cL5 : ∀ W, Calls Tryd.prog 40 #[.string ⟨#[97, 10, 98, 10]⟩] W fun e w' => e = .returned (.int .i64 2) ∧ Drawn0 W w' := fun W => text_Lines.calls _ _ W tf5
  have cV6 := fun W => valid_lit [226, 130, 172] 3 #[.int .u8 226, .int .u8 130, .int .u8 172] (3, 4) true rfl rfl rfl (by decide) tf6 W
  have cV7 := fun W => valid_lit [237, 160, 128] 3 #[.int .u8 237, .int .u8 160, .int .u8 128] (0, 0) false rfl rfl rfl (by decide) tf7 W
  have q1 : (S1.toList == ([97, 10, 98, 10, 99] : List UInt8)) = true := by rw [hS1]; exact tf8
  have q4 : (S4.toList == ([10, 10] : List UInt8)) = true := by rw [hS4]; exact tf9
  have kc := fun (W : World) (C : Array Value) (n c : Nat) => Lib.run_convert_bytes_const (P := Tryd.prog) W 34 5 C n c (by kernel_rfl) (by kernel_rfl)
  have HE := Lib.hid hE
  clear hE hS1 hS2 hS4
  go_enter Tryd.func33, Tryd.ntmps33
  go_wp2_with (first
    | (go_at_call 35; with_reducible refine (cR1 _ HE.out).mono ?_; rintro e W1 ⟨rfl, hb1⟩; have HB1 := Lib.hid hb1; clear hb1)
    | (go_at_call 35; with_reducible refine (cR2 _ (Env.below HE.out HB1.out)).mono ?_; rintro e W2 ⟨rfl, hb2⟩; have HB2 := Lib.hid (HB1.out.trans (hb2.mono HB1.out.size)); clear hb2)
    | (go_at_call 35; with_reducible refine (cR3 _ (Env.below HE.out HB2.out)).mono ?_; rintro e W3 ⟨rfl, hb3⟩; have HB3 := Lib.hid (HB2.out.trans (hb3.mono HB2.out.size)); clear hb3)
    | (go_at_call 38; with_reducible refine (cE4 _ (Env.below HE.out HB3.out)).mono ?_; rintro e W4 ⟨rfl, hb4⟩; have HB4 := Lib.hid (HB3.out.trans (hb4.mono HB3.out.size)); clear hb4)
    | (go_at_call 40; with_reducible refine (cL5 _).mono ?_; rintro e W5 ⟨rfl, ⟨n5, rfl⟩⟩; have HB5 := Lib.hid (pw_below_drewN HB4.out n5); generalize W4.drewN n5 = W5 at HB5 ⊢)
    | (go_at_call 34; with_reducible refine (cV6 _ (Env.below HE.out HB5.out)).mono ?_; rintro e W6 ⟨rfl, hb6⟩; have HB6 := Lib.hid (HB5.out.trans (hb6.mono HB5.out.size)); clear hb6)
    | (go_at_call 34; with_reducible refine (cV7 _ (Env.below HE.out HB6.out)).mono ?_; rintro e W7 ⟨rfl, hb7⟩; have HB7 := Lib.hid (HB6.out.trans (hb7.mono HB6.out.size)); clear hb7))
  go_ret
  exact ⟨rfl, HB7.out⟩
def brackenlaw2_told.f : Option Bool := some true
theorem brackenlaw2_told.calls (r : Bool) (w : World) (hE : Env w) (h : brackenlaw2_told.f = some r) :
    Calls Tryd.prog 33 #[] w fun e w' => e = .returned (.bool r) ∧ Below w.heap.size w w' := by
  obtain rfl := Option.some.inj h
  exact told_any w hE

end Go.Proofs.YtiddhaakbcnbiaaDoor.TGiv
