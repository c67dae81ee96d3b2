/- What the law of values tells of a few: told. -/
import Derived.Test.YtmjdjpelhhibgaaGreatDoorVAttr
namespace Go.Proofs.YtmjdjpelhhibgaaGreatDoor.Val
open Go Go.RowKit Go.Proofs.YtmjdjpelhhibgaaGreatDoor.Rf Go.Proofs.YtmjdjpelhhibgaaGreatDoor.Spec Go.Proofs.YtmjdjpelhhibgaaGreatDoor.Giv
set_option linter.unusedVariables false
set_option linter.unusedSimpArgs false
theorem RowE.below {w w' : World} {A : Option Addr} {E : List Ent} (h : RowE w A E) (hb : Below w.heap.size w w') : RowE w' A E := by
  intro i hi
  obtain ⟨b, o, rfl, hl, h1, h2, h3⟩ := h i hi
  exact ⟨b, o, rfl, Nat.lt_of_lt_of_le hl hb.size, (hb.cell (p := ⟨b, o + i * 3, none⟩) hl).trans h1, (hb.cell (p := ⟨b, o + i * 3 + 1, none⟩) hl).trans h2, (hb.cell (p := ⟨b, o + i * 3 + 2, none⟩) hl).trans h3⟩
/-- A call of Read, its result reckoned. -/
theorem RS.read {w0 w : World} {p : Nat} {E : List Ent} {op : List ByteArray} {sp : Int} (h : RS w0 w p E op sp) (hE0 : Env w0) (hEv : ∀ nm, (entR E nm).2.1.size < 4294967281) (h0 : 0 ≤ sp) (h1 : sp ≤ 9223372036854775807) (most : Int) (hm0 : -9223372036854775808 ≤ most) (hm1 : most ≤ 9223372036854775807)
    (raw : ByteArray) (hraw : raw.size < 4294967281) (kind : Int) (n : Nat) (hop : op.length + n ≤ 1000000000) (k : Int) (st' : St) (hr : runT E most n false raw.data.toList ⟨[], op, sp⟩ = some (k, st')) (ho : st'.out.length ≤ 1000000000) (R : ByteArray) (hR : readS kind k st'.out = R) :
    Calls Tryz.prog 10 #[.pointer (some ⟨p, 0, none⟩), .string raw, .int .i64 kind, .int .i64 most] w fun e w' => e = .returned (.tuple #[.string R, .int .i64 k]) ∧ RS w0 w' p E st'.op st'.sp := by
  subst hR
  exact read_any w0 hE0 E most hm0 hm1 hEv p op sp w h h0 h1 raw hraw kind n hop k st' hr ho
theorem entR_small (E : List Ent) (h : ∀ e ∈ E, e.vl.size < 4294967281) (nm : ByteArray) : (entR E nm).2.1.size < 4294967281 := by
  unfold entR
  cases hf : fnd nm E with
  | none => decide
  | some e =>
    have := h e (List.mem_of_find?_eq_some hf)
    simpa using this
abbrev toldE : List Ent := [⟨⟨#[101]⟩, ⟨#[120, 9, 121]⟩, false⟩, ⟨⟨#[98]⟩, ⟨#[60]⟩, false⟩, ⟨⟨#[114]⟩, ⟨#[38, 114, 59]⟩, false⟩]
theorem t1 : runT toldE 100 40 false [32, 97, 38, 101, 59, 38, 35, 49, 48, 59, 10, 38, 108, 116, 59] ⟨[], [], 0⟩ = some (0, ⟨[32, 97, 120, 32, 121, 10, 32, 60], [], 3⟩) := by kernel_rfl
theorem t2 : runT toldE 100 40 false [32, 32, 97, 32, 32, 98, 32] ⟨[], [], 3⟩ = some (0, ⟨[32, 32, 97, 32, 32, 98, 32], [], 3⟩) := by kernel_rfl
theorem t3 : runT toldE 100 40 false [38, 98, 59] ⟨[], [], 3⟩ = some (2, ⟨[], [⟨#[98]⟩], 4⟩) := by kernel_rfl
theorem t4 : runT toldE 100 40 false [38, 114, 59] ⟨[], [], 0⟩ = some (2, ⟨[], [⟨#[114]⟩], 3⟩) := by kernel_rfl
theorem t5 : runT toldE 2 40 false [38, 101, 59] ⟨[], [], 0⟩ = some (3, ⟨[], [], 0⟩) := by kernel_rfl
theorem t6 : runT toldE 100 40 false [38] ⟨[], [⟨#[98]⟩], 4⟩ = some (2, ⟨[], [⟨#[98]⟩], 4⟩) := by kernel_rfl
theorem n1 : normB [32, 32, 97, 32, 32, 98, 32] = [97, 32, 98] := by kernel_rfl
theorem x1 : Rep.repl Rep.textM [97, 60, 98, 62, 38, 13, 10] = [97, 38, 108, 116, 59, 98, 38, 103, 116, 59, 38, 97, 109, 112, 59, 38, 35, 49, 51, 59, 10] := by kernel_rfl
theorem x2 : Rep.repl Rep.attrM [97, 60, 34, 9, 10, 13, 38, 62] = [97, 38, 108, 116, 59, 38, 113, 117, 111, 116, 59, 38, 35, 57, 59, 38, 35, 49, 48, 59, 38, 35, 49, 51, 59, 38, 97, 109, 112, 59, 62] := by kernel_rfl
theorem told_row (w : World) (o : Nat) (h : ∀ i, i < 9 → w.cell? ⟨o, i, none⟩ = some ([Value.string ⟨#[101]⟩, .string ⟨#[120, 9, 121]⟩, .bool false, .string ⟨#[98]⟩, .string ⟨#[60]⟩, .bool false, .string ⟨#[114]⟩, .string ⟨#[38, 114, 59]⟩, .bool false].getD i (.bool false))) (hb : o < w.heap.size) : RowE w (some ⟨o, 0, none⟩) toldE := by
  intro i hi
  match i, hi with
  | 0, _ => exact ⟨o, 0, rfl, hb, h 0 (by omega), h 1 (by omega), h 2 (by omega)⟩
  | 1, _ => exact ⟨o, 0, rfl, hb, h 3 (by omega), h 4 (by omega), h 5 (by omega)⟩
  | 2, _ => exact ⟨o, 0, rfl, hb, h 6 (by omega), h 7 (by omega), h 8 (by omega)⟩
theorem toldEv : ∀ nm, (entR toldE nm).2.1.size < 4294967281 := entR_small toldE (by decide)
theorem bytes_ne (a b : List UInt8) (h : (a == b) = true) : (⟨a.toArray⟩ : ByteArray) = ⟨b.toArray⟩ := by rw [eq_of_beq h]
set_option maxRecDepth 100000 in
set_option maxHeartbeats 4000000 in
theorem told_any (w : World) (hE : Env w) : Calls Tryz.prog 11 #[] w fun e w' => e = .returned (.bool true) ∧ Below w.heap.size w w' := by
  have HE := Lib.hid hE
  clear hE
  go_enter Tryz.func11, Tryz.ntmps11
  go_wp2_with fail
  obtain ⟨w1, hW⟩ : ∃ W, W = (w.alloc (.cells #[.string ⟨#[101]⟩, .string ⟨#[120, 9, 121]⟩, .bool false, .string ⟨#[98]⟩, .string ⟨#[60]⟩, .bool false, .string ⟨#[114]⟩, .string ⟨#[38, 114, 59]⟩, .bool false] 26)).alloc (.cells #[.string ⟨#[]⟩, .slice (some ⟨w.heap.size, 0, none⟩) 3 3, .slice none 0 0] 30) := ⟨_, rfl⟩
  rw [← hW]
  have hr : RowE w1 (some ⟨w.heap.size, 0, none⟩) toldE := by
    refine told_row w1 w.heap.size ?_ (by rw [hW]; simp; omega)
    intro i hi
    rw [hW, cell_of ((heap_alloc_old _ _ (by simp)).trans (heap_alloc_new w _))]
    match i, hi with
    | 0, _ | 1, _ | 2, _ | 3, _ | 4, _ | 5, _ | 6, _ | 7, _ | 8, _ => rfl
  have hd : w1.heap[w.heap.size + 1]? = some (Obj.cells #[.string ⟨#[]⟩, .slice (some ⟨w.heap.size, 0, none⟩) 3 3, .slice none 0 0] 30) := by
    have := heap_alloc_new (w.alloc (.cells #[.string ⟨#[101]⟩, .string ⟨#[120, 9, 121]⟩, .bool false, .string ⟨#[98]⟩, .string ⟨#[60]⟩, .bool false, .string ⟨#[114]⟩, .string ⟨#[38, 114, 59]⟩, .bool false] 26)) (.cells #[.string ⟨#[]⟩, .slice (some ⟨w.heap.size, 0, none⟩) 3 3, .slice none 0 0] 30)
    rw [hW]
    simpa using this
  have hb1 : Below w.heap.size w w1 := by rw [hW]; exact ((Below.refl _ _).alloc (Nat.le_refl _) _).alloc (by simp) _
  clear hW
  have HE1 := Lib.hid (HE.out.below hb1)
  have HR := Lib.hid hr
  have HD := Lib.hid hd
  have HB := Lib.hid hb1
  clear hr hd hb1
  refine (new_RS _ _ 3 _ _ toldE w1 HR.out rfl (by omega)).mono ?_
  rintro e w2 ⟨p, rfl, h2⟩
  go_wp2_with fail
  refine (RS.read h2 HE1.out toldEv (by decide) (by decide) 100 (by decide) (by decide) ⟨#[32, 97, 38, 101, 59, 38, 35, 49, 48, 59, 10, 38, 108, 116, 59]⟩ (by decide) 1 40 (by decide) 0 ⟨[32, 97, 120, 32, 121, 10, 32, 60], [], 3⟩ t1 (by decide) ⟨#[32, 97, 120, 32, 121, 10, 32, 60]⟩ rfl).mono ?_
  rintro e w3 ⟨rfl, h3⟩
  clear h2
  go_wp2_with fail
  refine (RS.read h3 HE1.out toldEv (by decide) (by decide) 100 (by decide) (by decide) ⟨#[32, 32, 97, 32, 32, 98, 32]⟩ (by decide) 2 40 (by decide) 0 ⟨[32, 32, 97, 32, 32, 98, 32], [], 3⟩ t2 (by decide) ⟨#[97, 32, 98]⟩ (by unfold readS; rw [if_pos rfl, if_pos rfl, n1])).mono ?_
  rintro e w4 ⟨rfl, h4⟩
  clear h3
  go_wp2_with fail
  refine (RS.read h4 HE1.out toldEv (by decide) (by decide) 100 (by decide) (by decide) ⟨#[38, 98, 59]⟩ (by decide) 1 40 (by decide) 2 ⟨[], [⟨#[98]⟩], 4⟩ t3 (by decide) ⟨#[]⟩ rfl).mono ?_
  rintro e w5 ⟨rfl, h5⟩
  clear h4
  have hdw5 := (h5.bel.block _ (Array.getElem?_eq_some_iff.1 HD.out).1).trans HD.out
  have e0w5 := cell_of hdw5 0
  have e1w5 := cell_of hdw5 1
  have e2w5 := cell_of hdw5 2
  simp only [List.getElem?_toArray, List.getElem?_cons_zero, List.getElem?_cons_succ] at e0w5 e1w5 e2w5
  go_wp2_with fail
  refine (new_RS _ _ 3 _ _ toldE w5 (RowE.below HR.out h5.bel) rfl (by omega)).mono ?_
  rintro e w6 ⟨p2, rfl, h6⟩
  clear hdw5 e0w5 e1w5 e2w5
  have HE6 := Lib.hid (RS.env h5 HE1.out)
  go_wp2_with fail
  refine (RS.read h6 HE6.out toldEv (by decide) (by decide) 100 (by decide) (by decide) ⟨#[38, 114, 59]⟩ (by decide) 1 40 (by decide) 2 ⟨[], [⟨#[114]⟩], 3⟩ t4 (by decide) ⟨#[]⟩ rfl).mono ?_
  rintro e w7 ⟨rfl, h7⟩
  have h8 := h5.below h7.bel
  clear h5 h6 h7
  have hdw7 := (h8.bel.block _ (Array.getElem?_eq_some_iff.1 HD.out).1).trans HD.out
  have e0w7 := cell_of hdw7 0
  have e1w7 := cell_of hdw7 1
  have e2w7 := cell_of hdw7 2
  simp only [List.getElem?_toArray, List.getElem?_cons_zero, List.getElem?_cons_succ] at e0w7 e1w7 e2w7
  go_wp2_with fail
  refine (new_RS _ _ 3 _ _ toldE w7 (RowE.below HR.out h8.bel) rfl (by omega)).mono ?_
  rintro e w8 ⟨p3, rfl, h9⟩
  clear hdw7 e0w7 e1w7 e2w7
  have HE8 := Lib.hid (RS.env h8 HE1.out)
  go_wp2_with fail
  refine (RS.read h9 HE8.out toldEv (by decide) (by decide) 2 (by decide) (by decide) ⟨#[38, 101, 59]⟩ (by decide) 1 40 (by decide) 3 ⟨[], [], 0⟩ t5 (by decide) ⟨#[]⟩ rfl).mono ?_
  rintro e w9 ⟨rfl, h10⟩
  have h11 := h8.below h10.bel
  clear h8 h9 h10
  go_wp2_with fail
  refine (RS.read h11 HE1.out toldEv (by decide) (by decide) 100 (by decide) (by decide) ⟨#[38]⟩ (by decide) 1 40 (by decide) 2 ⟨[], [⟨#[98]⟩], 4⟩ t6 (by decide) ⟨#[]⟩ rfl).mono ?_
  rintro e w10 ⟨rfl, h12⟩
  clear h11
  have HB2 := Lib.hid (HB.out.trans (h12.bel.mono HB.out.size))
  clear h12
  have cN := Val.norm_any ⟨#[32, 32, 97, 32, 32, 98, 32]⟩
  have cT := Rep.text_any ⟨#[97, 60, 98, 62, 38, 13, 10]⟩ (by decide)
  have cA := Rep.attr_any ⟨#[97, 60, 34, 9, 10, 13, 38, 62]⟩ (by decide)
  go_wp2_with (first | (go_at_call 15; refine (cN _ (by decide)).mono ?_; rw [n1]; rintro e w11 ⟨rfl, hb11⟩) | (go_at_call 21; refine (cT _).mono ?_; rw [x1]; rintro e w12 ⟨rfl, hb12⟩) | (go_at_call 13; refine (cA _).mono ?_; rw [x2]; rintro e w13 ⟨rfl, hb13⟩))
  go_ret
  exact ⟨rfl, HB2.out.trans ((hb11.trans ((hb12.trans (hb13.mono hb12.size)).mono hb11.size)).mono HB2.out.size)⟩
end Go.Proofs.YtmjdjpelhhibgaaGreatDoor.Val
