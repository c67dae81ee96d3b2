/- A text as it is written; a value as it is written. -/
import Derived.Test.YtmjdjpelhhibgaaGreatDoorVRepl
namespace Go.Proofs.YtmjdjpelhhibgaaGreatDoor.Rep
open Go Go.RowKit Go.Proofs.YtmjdjpelhhibgaaGreatDoor.Rf Go.Proofs.YtmjdjpelhhibgaaGreatDoor.Once
set_option linter.unusedVariables false
set_option linter.unusedSimpArgs false
theorem rpl_ne {w : World} {R : Nat} {d st : Int} {rv on : Value} (h : Rpl w R d st rv on) {k : Nat} {cs : Array Value} {T : TypeId} {fz : Nat × Nat} (hk : w.heap[k]? = some (.cells cs T fz)) (hT : T ≠ TP) : k ≠ R := by
  rintro rfl
  unfold Rpl at h
  rw [hk] at h
  simp only [Option.some.injEq, Obj.cells.injEq] at h
  exact hT h.2.1
theorem Bst.kept {B : Nat} {W W' : World} {bk : Nat} {M : List (UInt8 × ByteArray)} (h : Bst B W bk M) (hk : ∀ (k : Nat) (cs : Array Value) (T : TypeId) (fz : Nat × Nat), W.heap[k]? = some (Obj.cells cs T fz) → T ≠ TP → W'.heap[k]? = W.heap[k]?) : Bst B W' bk M := by
  obtain ⟨h1, cs, tr, h2, h3, h4, h5, h6⟩ := h
  exact ⟨h1, cs, tr, (hk _ _ _ _ h2 (by decide)).trans h2, h3, fun b => (h4 b).kept (fun k cs fz h => hk k cs _ fz h (by decide)), h5, own_keep h6 (fun k cs fz h => hk k cs _ fz h (by decide))⟩
theorem Bst.mono {B B' : Nat} {W : World} {bk : Nat} {M : List (UInt8 × ByteArray)} (h : Bst B W bk M) (hB : B' ≤ B) : Bst B' W bk M := by
  obtain ⟨h1, cs, tr, h2, h3, h4, h5, h6, h7⟩ := h
  refine ⟨Nat.le_trans hB h1, cs, tr, h2, h3, h4, h5, h6, ?_⟩
  rcases h7 with h0 | ⟨g, cap, cur, hv, hb, rest⟩
  · exact .inl h0
  · exact .inr ⟨g, cap, cur, hv, Nat.le_trans hB hb, rest⟩
/-- What a build leaves: a row of what stands for each byte, behind an interface. -/
def Built (B R : Nat) (M : List (UInt8 × ByteArray)) (bv : Value) (W : World) : Prop := ∃ bk, bv = .iface 150 (.pointer (some ⟨bk, 0, none⟩)) ∧ Bst B W bk M ∧ ∃ cs, W.heap[R]? = some (.cells cs TP (0, 0))
theorem built_stays (B R : Nat) (M : List (UInt8 × ByteArray)) (bv : Value) : Stays R (Built B R M bv) := by
  refine ⟨fun W j x ⟨bk, h1, h2, cs, h3⟩ => ⟨bk, h1, h2.kept ?_, _, setCell_heap h3 j x⟩, fun W ⟨bk, h1, h2, h3⟩ => ⟨bk, h1, h2, h3⟩⟩
  intro k c T fz hk hT
  refine Below.heap_setCell _ _ _ _ ?_
  rintro rfl
  rw [h3] at hk
  simp only [Option.some.injEq, Obj.cells.injEq] at hk
  exact hT hk.2.1.symm
set_option maxRecDepth 100000 in
set_option maxHeartbeats 1600000 in
theorem buildOnce_any (B R : Nat) (M : List (UInt8 × ByteArray)) (hnd : (M.map (·.1)).Nodup) (hM : 2 ≤ M.length) (hM2 : M.length ≤ 100) (hV : ∀ p ∈ M, 2 ≤ p.2.size) (on : Value) (w : World) (hB : B ≤ R) (hBw : B ≤ w.heap.size) (h : Rpl w R 0 1 .nilIface on) (ho : w.ownsRow B 9 1 on (oldnew M).length ((oldnew M).map Value.string)) :
    Calls Tryz.prog 43 #[.pointer (some ⟨R, 0, none⟩)] w fun e W' => e = .returned (.tuple #[]) ∧ ∃ bv, Rpl W' R 0 1 bv (.slice none 0 0) ∧ Built B R M bv W' ∧ Below B w W' := by
  have cB := build_any B R M hnd hM hM2 hV on w 0 1 h ho
  have hlt := h.lt
  have HR := Lib.hid h
  clear h ho hV hnd
  go_enter Tryz.func43, Tryz.ntmps43
  go_wp2_with (go_at_call 63; refine cB.mono ?_; rintro e w1 ⟨bk, rfl, hb, hbel⟩; have hr1 : Rpl w1 R 0 1 .nilIface on := (hbel.block R hlt).trans HR.out; have c3 := hr1.c3; have f3 := hr1.fz 3; have hr2 := hr1.s3 (.iface 150 (.pointer (some ⟨bk, 0, none⟩))); have c4 := hr2.c4; have f4 := hr2.fz 4; have HR1 := Lib.hid hr1; have HR2 := Lib.hid hr2; have HBs := Lib.hid hb; have HBel := Lib.hid hbel; clear hr1 hr2 hb hbel)
  go_end0
  have hb1 : Built B R M (.iface 150 (.pointer (some ⟨bk, 0, none⟩))) w1 := ⟨bk, rfl, HBs.out.mono hBw, _, HR1.out⟩
  exact ⟨rfl, _, HR2.out.s4 (.slice none 0 0), (built_stays B R M _).set _ 4 _ ((built_stays B R M _).set _ 3 _ hb1), ((HBel.out.mono hBw).setCell (p := ⟨R, 3, none⟩) hB _).setCell (p := ⟨R, 4, none⟩) hB _⟩
theorem meth (a : Addr) (W : World) : (method 321 150 (.pointer (some a)) "Replace").run Tryz.prog W = .ok (160, .pointer (some a)) W := by kernel_rfl
set_option maxRecDepth 100000 in
set_option maxHeartbeats 1600000 in
theorem run_any (B R : Nat) (M : List (UInt8 × ByteArray)) (hnd : (M.map (·.1)).Nodup) (hM : 2 ≤ M.length) (hM2 : M.length ≤ 100) (hV : ∀ p ∈ M, 2 ≤ p.2.size ∧ p.2.size ≤ 100) (s : ByteArray) (hs : s.size ≤ 1000000000) (on : Value) (w : World) (hB : B ≤ R) (hBw : B ≤ w.heap.size) (h : Rpl w R 0 0 .nilIface on) (ho : w.ownsRow B 9 1 on (oldnew M).length ((oldnew M).map Value.string)) :
    Calls Tryz.prog 28 #[.pointer (some ⟨R, 0, none⟩), .string s] w fun e w' => e = .returned (.string ⟨(repl M s.data.toList).toArray⟩) ∧ Below B w w' := by
  have hmf : ∀ (fn : Fn) (first cap : Array Value) (w : World), (Instr.makeFunc fn first cap).run Tryz.prog w = .ok (.func fn first cap) w := fun _ _ _ _ => rfl
  have hwb : B ≤ (w.setCell ⟨R, 1, none⟩ (.int .i32 1)).heap.size := by simpa [World.setCell] using hBw
  have ho1 : (w.setCell ⟨R, 1, none⟩ (.int .i32 1)).ownsRow B 9 1 on (oldnew M).length ((oldnew M).map Value.string) := own_keep ho fun k cs fz hk => Below.heap_setCell _ _ _ _ (rpl_ne h hk (by decide))
  have cD := do_any B R on (Built B R M) (built_stays B R M) w hB h (buildOnce_any B R M hnd hM hM2 (fun p hp => (hV p hp).1) on _ hB hwb (h.s1 1) ho1)
  have HS := Lib.hid hs
  have HV := Lib.hid hV
  have HN := Lib.hid hnd
  have hme := meth
  clear h ho ho1 hV hnd hs hwb
  go_enter Tryz.func28, Tryz.ntmps28
  go_wp2_with (first | (go_at_call 42; refine cD.mono ?_; rintro e w1 ⟨rfl, bv, hr, ⟨bk, rfl, hb, _⟩, hbel⟩; have c3 := hr.c3; have HBs := Lib.hid hb; have HBel := Lib.hid hbel; clear hb hbel hr) | (go_at_call 160; refine (replace_any B bk M HN.out hM hM2 HV.out s HS.out _ HBs.out).mono ?_; rintro e w2 ⟨rfl, hb2⟩))
  go_ret
  exact ⟨rfl, HBel.out.trans (hb2.mono (by have := HBel.out.size; omega))⟩
theorem own_mono {w : World} {B B' n : Nat} {v : Value} {xs : List Value} (h : w.ownsRow B 9 1 v n xs) (hB : B' ≤ B) : w.ownsRow B' 9 1 v n xs := by
  refine ⟨h.1, ?_⟩
  rcases h.2 with h0 | ⟨g, cap, cur, hv, hb, rest⟩
  · exact .inl h0
  · exact .inr ⟨g, cap, cur, hv, Nat.le_trans hB hb, rest⟩
/-- What a text, what a value is written by. -/
def textM : List (UInt8 × ByteArray) := [(38, ⟨#[38, 97, 109, 112, 59]⟩), (60, ⟨#[38, 108, 116, 59]⟩), (62, ⟨#[38, 103, 116, 59]⟩), (13, ⟨#[38, 35, 49, 51, 59]⟩)]
def attrM : List (UInt8 × ByteArray) := [(38, ⟨#[38, 97, 109, 112, 59]⟩), (60, ⟨#[38, 108, 116, 59]⟩), (34, ⟨#[38, 113, 117, 111, 116, 59]⟩), (9, ⟨#[38, 35, 57, 59]⟩), (10, ⟨#[38, 35, 49, 48, 59]⟩), (13, ⟨#[38, 35, 49, 51, 59]⟩)]
set_option maxRecDepth 100000 in
set_option maxHeartbeats 1600000 in
theorem text_any (s : ByteArray) (hs : s.size ≤ 1000000000) (w : World) :
    Calls Tryz.prog 21 #[.string s] w fun e w' => e = .returned (.string ⟨(repl textM s.data.toList).toArray⟩) ∧ Below w.heap.size w w' := by
  have cN := fun W hc => new_any w.heap.size 4 (oldnew textM) W rfl (by omega) hc
  have cR := fun R on W hB hBw h ho => run_any w.heap.size R textM (by decide) (by decide) (by decide) (by decide) s hs on W hB hBw h ho
  have hc : ∀ j u, ((oldnew textM).map Value.string)[j]? = some u → (w.alloc (.cells ((oldnew textM).map Value.string).toArray 9)).cell? ((⟨w.heap.size, 0, none⟩ : Addr).add j) = some u := by
    intro j u hj
    have h := cell_of (heap_alloc_new w (.cells ((oldnew textM).map Value.string).toArray 9)) j
    rw [List.getElem?_toArray, hj] at h
    by_cases hj0 : j = 0
    · subst hj0; simpa [Addr.add] using h
    · simpa [Addr.add, hj0] using h
  have HC := Lib.hid (cN _ hc)
  clear cN hc
  go_enter Tryz.func21, Tryz.ntmps21
  go_wp2_with (first | (go_at_call 27; refine HC.out.mono ?_; rintro e w1 ⟨R, on, rfl, hr, hRl, ho, hb1⟩) | (go_at_call 28; refine (cR R on w1 (by simp at hRl; omega) (by have := hb1.size; simp at this; omega) hr (own_mono ho (by simp))).mono ?_; rintro e w2 ⟨rfl, hb2⟩))
  go_ret
  exact ⟨rfl, ((Below.refl _ _).alloc (Nat.le_refl _) _).trans ((hb1.mono (by simp)).trans hb2)⟩
set_option maxRecDepth 100000 in
set_option maxHeartbeats 1600000 in
theorem attr_any (s : ByteArray) (hs : s.size ≤ 1000000000) (w : World) :
    Calls Tryz.prog 13 #[.string s] w fun e w' => e = .returned (.string ⟨(repl attrM s.data.toList).toArray⟩) ∧ Below w.heap.size w w' := by
  have cN := fun W hc => new_any w.heap.size 6 (oldnew attrM) W rfl (by omega) hc
  have cR := fun R on W hB hBw h ho => run_any w.heap.size R attrM (by decide) (by decide) (by decide) (by decide) s hs on W hB hBw h ho
  have hc : ∀ j u, ((oldnew attrM).map Value.string)[j]? = some u → (w.alloc (.cells ((oldnew attrM).map Value.string).toArray 9)).cell? ((⟨w.heap.size, 0, none⟩ : Addr).add j) = some u := by
    intro j u hj
    have h := cell_of (heap_alloc_new w (.cells ((oldnew attrM).map Value.string).toArray 9)) j
    rw [List.getElem?_toArray, hj] at h
    by_cases hj0 : j = 0
    · subst hj0; simpa [Addr.add] using h
    · simpa [Addr.add, hj0] using h
  have HC := Lib.hid (cN _ hc)
  clear cN hc
  go_enter Tryz.func13, Tryz.ntmps13
  go_wp2_with (first | (go_at_call 27; refine HC.out.mono ?_; rintro e w1 ⟨R, on, rfl, hr, hRl, ho, hb1⟩) | (go_at_call 28; refine (cR R on w1 (by simp at hRl; omega) (by have := hb1.size; simp at this; omega) hr (own_mono ho (by simp))).mono ?_; rintro e w2 ⟨rfl, hb2⟩))
  go_ret
  exact ⟨rfl, ((Below.refl _ _).alloc (Nat.le_refl _) _).trans ((hb1.mono (by simp)).trans hb2)⟩
end Go.Proofs.YtmjdjpelhhibgaaGreatDoor.Rep
