/- An attribute's value, as the program reads it. -/
import Derived.Test.YtmjdjpelhhibgaaGreatDoorVNorm
namespace Go.Proofs.YtmjdjpelhhibgaaGreatDoor.Val
open Go Go.RowKit Go.Proofs.YtmjdjpelhhibgaaGreatDoor.Rf Go.Proofs.YtmjdjpelhhibgaaGreatDoor.Spec Go.Proofs.YtmjdjpelhhibgaaGreatDoor.Giv
set_option linter.unusedVariables false
set_option linter.unusedSimpArgs false
theorem VS.string {w0 w : World} {p rb : Nat} {E : List Ent} {most : Int} {st : St} (h : VS w0 w p rb E most st) :
    Calls Tryz.prog 24 #[.pointer (some ⟨rb, 0, none⟩)] w fun e w' => e = .returned (.string ⟨st.out.toArray⟩) ∧ RS w0 w' p E st.op st.sp := by
  obtain ⟨q, hq⟩ : ∃ q, RdAt w0.heap.size rb q (.pointer (some ⟨p, 0, none⟩)) most (Lib.byteCells st.out) w := by
    rcases h.rd with h | h
    · exact ⟨_, h⟩
    · exact ⟨_, h⟩
  refine (string_any _ _ _ _ _ _ w hq).mono ?_
  rintro e w' ⟨rfl, hb, hk⟩
  have hne := h.ne
  obtain ⟨bm, v, hI, hb0, hpl, hv⟩ := h.rs
  exact ⟨rfl, bm, v, IsRefs.others hI hne hk (fun _ _ _ => trivial) hq.heap, hb0.trans hb, hpl, hv⟩
/-- What is told of a value that was read. -/
def readS (kind k : Int) (out : List UInt8) : ByteArray := if k = 0 then (if kind = 2 then ⟨(normB out).toArray⟩ else ⟨out.toArray⟩) else ⟨#[]⟩
theorem RS.env {w0 w : World} {p : Nat} {E : List Ent} {op : List ByteArray} {sp : Int} (h : RS w0 w p E op sp) (hE : Env w0) : Env w := hE.below h.bel
theorem vs_new {w0 w : World} {p : Nat} {E : List Ent} {op : List ByteArray} {sp most : Int} (h : RS w0 w p E op sp) (h0 : 0 ≤ sp) (h1 : sp ≤ 9223372036854775807) :
    VS w0 (w.alloc (.cells #[.pointer none, .slice none 0 0, .pointer (some ⟨p, 0, none⟩), .int .i64 most] TR)) p w.heap.size E most ⟨[], op, sp⟩ :=
  ⟨h.below ((Below.refl _ _).alloc (Nat.le_refl _) _), .inl ⟨h.size, _, heap_alloc_new w _, ⟨rfl, .inl ⟨rfl, rfl⟩⟩, by simp [Value.ownBlock], fun _ => rfl⟩, h0, h1⟩
set_option maxRecDepth 100000 in
set_option maxHeartbeats 2000000 in
theorem read_any (w0 : World) (hE0 : Env w0) (E : List Ent) (most : Int) (hm0 : -9223372036854775808 ≤ most) (hm1 : most ≤ 9223372036854775807) (hEv : ∀ nm, (entR E nm).2.1.size < 4294967281) (p : Nat) (op : List ByteArray) (sp : Int) (w : World) (h : RS w0 w p E op sp) (h0 : 0 ≤ sp) (h1 : sp ≤ 9223372036854775807)
    (raw : ByteArray) (hraw : raw.size < 4294967281) (kind : Int) (n : Nat) (hop : op.length + n ≤ 1000000000) (k : Int) (st' : St) (hr : runT E most n false raw.data.toList ⟨[], op, sp⟩ = some (k, st')) (ho : st'.out.length ≤ 1000000000) :
    Calls Tryz.prog 10 #[.pointer (some ⟨p, 0, none⟩), .string raw, .int .i64 kind, .int .i64 most] w fun e w' => e = .returned (.tuple #[.string (readS kind k st'.out), .int .i64 k]) ∧ RS w0 w' p E st'.op st'.sp := by
  have hv := vs_new (most := most) h h0 h1
  have cT := text_any w0 hE0 E most hm0 hm1 hEv p w.heap.size n raw false ⟨[], op, sp⟩ _ k st' hraw hv hr (by omega) hop
  have HO := Lib.hid ho
  have HE := Lib.hid hE0
  clear hr hEv hop ho h h0 h1 hm0 hm1 hv hraw
  by_cases hk : k = 0
  · subst hk
    by_cases h2 : kind = 2
    · subst h2
      have hR : readS 2 0 st'.out = ⟨(normB st'.out).toArray⟩ := rfl
      rw [hR]
      have cN := fun W => norm_any ⟨st'.out.toArray⟩ W (by have := HO.out; show st'.out.toArray.size < _; simp; omega)
      have e1 : (⟨st'.out.toArray⟩ : ByteArray).data.toList = st'.out := rfl
      rw [e1] at cN
      generalize normB st'.out = NB at *
      go_enter Tryz.func10, Tryz.ntmps10
      go_wp2_with (first | (go_at_call 23; refine cT.mono ?_; rintro e w1 ⟨rfl, hv1, hf1⟩; have HV := Lib.hid hv1; clear hv1) | (go_at_call 24; refine HV.out.string.mono ?_; rintro e w2 ⟨rfl, h2⟩; have H2 := Lib.hid h2; clear h2) | (go_at_call 15; refine (cN _).mono ?_; rintro e w3 ⟨rfl, hb3⟩))
      go_ret2
      exact ⟨rfl, H2.out.below hb3⟩
    · have hR : readS kind 0 st'.out = ⟨st'.out.toArray⟩ := by unfold readS; rw [if_pos rfl, if_neg h2]
      rw [hR]
      have hk2 : (kind == 2) = false := by simpa using h2
      go_enter Tryz.func10, Tryz.ntmps10
      go_wp2_with (first | (go_at_call 23; refine cT.mono ?_; rintro e w1 ⟨rfl, hv1, hf1⟩; have HV := Lib.hid hv1; clear hv1) | (go_at_call 24; refine HV.out.string.mono ?_; rintro e w2 ⟨rfl, h2⟩; have H2 := Lib.hid h2; clear h2))
      go_ret2
      exact ⟨rfl, H2.out⟩
  · have hR : readS kind k st'.out = ⟨#[]⟩ := by unfold readS; rw [if_neg hk]
    rw [hR]
    have hkn : (k != 0) = true := by simpa using hk
    go_enter Tryz.func10, Tryz.ntmps10
    go_wp2_with (first | (go_at_call 23; refine cT.mono ?_; rintro e w1 ⟨rfl, hv1, hf1⟩; have HV := Lib.hid hv1; clear hv1))
    go_ret2
    exact ⟨rfl, HV.out.rs⟩
end Go.Proofs.YtmjdjpelhhibgaaGreatDoor.Val
