/- The program's reading and the document's side by side; the entities of the law. -/
import Derived.Test.YtmjdjpelhhibgaaGreatDoorVTold
import Derived.Test.YtmjdjpelhhibgaaGreatDoorVQf
import Derived.Test.YtmjdjpelhhibgaaGreatDoorVEsc
import Derived.Deep.RegionHeld3
import Derived.Deep.AppendLies
import Derived.Deep.RegionLaw
namespace Go.Proofs.YtmjdjpelhhibgaaGreatDoor.Val
open Go Go.RowKit Go.Proofs.YtmjdjpelhhibgaaGreatDoor.Rf Go.Proofs.YtmjdjpelhhibgaaGreatDoor.Spec Go.Proofs.YtmjdjpelhhibgaaGreatDoor.Giv
set_option linter.unusedVariables false
set_option linter.unusedSimpArgs false
/-! ### Read, and what stands across it -/
theorem VS.stringF {w0 w : World} {p rb : Nat} {E : List Ent} {most : Int} {st : St} (h : VS w0 w p rb E most st) :
    Calls Tryz.prog 24 #[.pointer (some ⟨rb, 0, none⟩)] w fun e w' => e = .returned (.string ⟨st.out.toArray⟩) ∧ RS w0 w' p E st.op st.sp ∧ Fr p rb w w' := by
  obtain ⟨q, hq⟩ : ∃ q, RdAt w0.heap.size rb q (.pointer (some ⟨p, 0, none⟩)) most (Lib.byteCells st.out) w := by
    rcases h.rd with h | h
    · exact ⟨_, h⟩
    · exact ⟨_, h⟩
  refine (string_any _ _ _ _ _ _ w hq).mono ?_
  rintro e w' ⟨rfl, hb, hk⟩
  have hne := h.ne
  obtain ⟨bm, v, hI, hb0, hpl, hv⟩ := h.rs
  exact ⟨rfl, ⟨bm, v, IsRefs.others hI hne hk (fun _ _ _ => trivial) hq.heap, hb0.trans hb, hpl, hv⟩, Fr.of_others hk⟩
set_option maxRecDepth 100000 in
set_option maxHeartbeats 2000000 in
theorem read_fr (w0 : World) (hE0 : Env w0) (E : List Ent) (most : Int) (hm0 : -9223372036854775808 ≤ most) (hm1 : most ≤ 9223372036854775807) (hEv : ∀ nm, (entR E nm).2.1.size < 4294967281) (p : Nat) (op : List ByteArray) (sp : Int) (w : World) (h : RS w0 w p E op sp) (h0 : 0 ≤ sp) (h1 : sp ≤ 9223372036854775807)
    (raw : ByteArray) (hraw : raw.size < 4294967281) (kind : Int) (n : Nat) (hop : op.length + n ≤ 1000000000) (k : Int) (st' : St) (hr : runT E most n false raw.data.toList ⟨[], op, sp⟩ = some (k, st')) (ho : st'.out.length ≤ 1000000000) :
    Calls Tryz.prog 10 #[.pointer (some ⟨p, 0, none⟩), .string raw, .int .i64 kind, .int .i64 most] w fun e w' => e = .returned (.tuple #[.string (readS kind k st'.out), .int .i64 k]) ∧ RS w0 w' p E st'.op st'.sp ∧ Fr p w.heap.size w w' := by
  have hv := vs_new (most := most) h h0 h1
  have cT := text_any w0 hE0 E most hm0 hm1 hEv p w.heap.size n raw false ⟨[], op, sp⟩ _ k st' hraw hv hr (by omega) hop
  have HO := Lib.hid ho
  have HE := Lib.hid hE0
  have HF := Lib.hid (Fr.of_below (p := p) (rb := w.heap.size) ((Below.refl w.heap.size w).alloc (Nat.le_refl _) (.cells #[.pointer none, .slice none 0 0, .pointer (some ⟨p, 0, none⟩), .int .i64 most] TR)))
  clear hr hEv hop ho h h0 h1 hm0 hm1 hv hraw
  by_cases hk : k = 0
  · subst hk
    by_cases h2 : kind = 2
    · subst h2
      have hR : readS 2 0 st'.out = ⟨(normB st'.out).toArray⟩ := rfl
      rw [hR]
      have cN := fun W => norm_any ⟨st'.out.toArray⟩ W (by have := HO.out; show st'.out.toArray.size < _; simp; omega)
      have e1 : (⟨st'.out.toArray⟩ : ByteArray).data.toList = st'.out := rfl
      rw [e1] at cN
      generalize normB st'.out = NB at *
      go_enter Tryz.func10, Tryz.ntmps10
      go_wp2_with (first | (go_at_call 23; refine cT.mono ?_; rintro e w1 ⟨rfl, hv1, hf1⟩; have HV := Lib.hid hv1; clear hv1) | (go_at_call 24; refine HV.out.stringF.mono ?_; rintro e w2 ⟨rfl, h2, hf2⟩; have H2 := Lib.hid h2; clear h2) | (go_at_call 15; refine (cN _).mono ?_; rintro e w3 ⟨rfl, hb3⟩))
      go_ret2
      exact ⟨rfl, H2.out.below hb3, ((HF.out.trans hf1).trans hf2).trans (Fr.of_below hb3)⟩
    · have hR : readS kind 0 st'.out = ⟨st'.out.toArray⟩ := by unfold readS; rw [if_pos rfl, if_neg h2]
      rw [hR]
      have hk2 : (kind == 2) = false := by simpa using h2
      go_enter Tryz.func10, Tryz.ntmps10
      go_wp2_with (first | (go_at_call 23; refine cT.mono ?_; rintro e w1 ⟨rfl, hv1, hf1⟩; have HV := Lib.hid hv1; clear hv1) | (go_at_call 24; refine HV.out.stringF.mono ?_; rintro e w2 ⟨rfl, h2, hf2⟩; have H2 := Lib.hid h2; clear h2))
      go_ret2
      exact ⟨rfl, H2.out, (HF.out.trans hf1).trans hf2⟩
  · have hR : readS kind k st'.out = ⟨#[]⟩ := by unfold readS; rw [if_neg hk]
    rw [hR]
    have hkn : (k != 0) = true := by simpa using hk
    go_enter Tryz.func10, Tryz.ntmps10
    go_wp2_with (first | (go_at_call 23; refine cT.mono ?_; rintro e w1 ⟨rfl, hv1, hf1⟩; have HV := Lib.hid hv1; clear hv1))
    go_ret2
    exact ⟨rfl, HV.out.rs, HF.out.trans hf1⟩
/-! ### The document's own references: Value; what stands across it -/
set_option maxRecDepth 100000 in
set_option maxHeartbeats 4000000 in
theorem valueV_any (q : Nat) (d : ByteArray) (A : Option Addr) (n cap : Nat) (av v : Value) (E : List Ent) (most kind : Int) (hn : E.length = n) (hl : n ≤ 1000000000) (hm0 : -9223372036854775808 ≤ most) (hm1 : most ≤ 9223372036854775807) (hE : ∀ e, e ∈ E → e.vl.size ≤ 1000000000) (hA : ∀ a, A = some a → a.block ≠ q)
    (N : Nat) (s : ByteArray) (w : World) (k : Int) (o : List UInt8) (op' : List ByteArray) (sp' : Int) (hs : s.size ≤ 1000000000) (hMS : MS w q d A n cap av v E [] 0) (hr : runT E most N false s.data.toList ⟨[], [], 0⟩ = some (k, ⟨o, op', sp'⟩)) (ho : o.length ≤ 1000000000) (h1 : sp' ≤ 1000000000000) (hN : N ≤ 1000000000) :
    Calls Tryz.prog 18 #[.pointer (some ⟨q, 0, none⟩), .string s, .int .i64 kind, .int .i64 most] w fun e w' => e = .returned (.tuple #[.string (readS kind k o), .int .i64 k]) ∧ QT q w w' ∧ ∃ v', MS w' q d A n cap av v' E op' sp' := by
  have cV := valueQ_any q d A n cap av E most hn hl hm0 hm1 hE hA N s false [] 0 v w k o op' sp' hs hMS hr ho (by decide) h1 (by simpa using hN)
  clear hr hMS
  by_cases hk : k = 0
  · subst hk
    rw [if_pos rfl] at cV
    by_cases h2 : kind = 2
    · subst h2
      have hR : readS 2 0 o = ⟨(normB o).toArray⟩ := rfl
      rw [hR]
      have cN := fun W => normR_any ⟨o.toArray⟩ W (by show o.toArray.size ≤ _; simpa using ho)
      have e1 : (⟨o.toArray⟩ : ByteArray).data.toList = o := rfl
      rw [e1] at cN
      generalize normB o = NB at *
      go_enter Tryz.func18, Tryz.ntmps18
      go_wp2_with (first | (go_at_call 32; refine cV.mono ?_; rintro e w1 ⟨rfl, hq1, v1, hm1⟩; have HM := Lib.hid hm1; have HQ := Lib.hid hq1; clear hm1 hq1) | (go_at_call 16; refine (cN _).mono ?_; rintro e w3 ⟨rfl, hb3⟩))
      go_ret2
      exact ⟨rfl, HQ.out.trans (QT.of_below hb3), _, HM.out.below hb3⟩
    · have hR : readS kind 0 o = ⟨o.toArray⟩ := by unfold readS; rw [if_pos rfl, if_neg h2]
      rw [hR]
      have hk2 : (kind == 2) = false := by simpa using h2
      go_enter Tryz.func18, Tryz.ntmps18
      go_wp2_with (first | (go_at_call 32; refine cV.mono ?_; rintro e w1 ⟨rfl, hq1, v1, hm1⟩; have HM := Lib.hid hm1; have HQ := Lib.hid hq1; clear hm1 hq1))
      go_ret2
      exact ⟨rfl, HQ.out, _, HM.out⟩
  · have hR : readS kind k o = ⟨#[]⟩ := by unfold readS; rw [if_neg hk]
    rw [hR]
    rw [if_neg hk] at cV
    have hkn : (k != 0) = true := by simpa using hk
    go_enter Tryz.func18, Tryz.ntmps18
    go_wp2_with (first | (go_at_call 32; refine cV.mono ?_; rintro e w1 ⟨rfl, hq1, v1, hm1⟩; have HM := Lib.hid hm1; have HQ := Lib.hid hq1; clear hm1 hq1))
    go_ret2
    exact ⟨rfl, HQ.out, _, HM.out⟩
/-! ### the two side by side -/
theorem RS.qt {w0 w w' : World} {p q : Nat} {E : List Ent} {op : List ByteArray} {sp : Int} {cs : Array Value} {fz : Nat × Nat} (h : RS w0 w p E op sp) (hq : w.heap[q]? = some (.cells cs TQ fz)) (hQ : QT q w w') (h0 : w0.heap.size ≤ q) : RS w0 w' p E op sp := by
  obtain ⟨bm, v, ⟨hc, ⟨L, hm, hR⟩, ho⟩, hb, hp, hv⟩ := h
  have hst : ∀ (k : Nat) (x : Obj), w.heap[k]? = some x → k ≠ q → w'.heap[k]? = some x := fun k x hk hne => (hQ.block k (Array.getElem?_eq_some_iff.1 hk).1 hne (by simp [Value.ownBlock])).trans hk
  refine ⟨bm, v, ⟨hst p _ hc ?_, ⟨L, ?_, hR⟩, ho.1, ?_⟩, hb.trans ⟨hQ.os, hQ.tape, hQ.output, hQ.size, fun k hk => hQ.block k (by have := hb.size; omega) (by omega) (by simp [Value.ownBlock])⟩, hp, hv⟩
  · rintro rfl
    rw [hc] at hq
    simp only [Option.some.injEq, Obj.cells.injEq] at hq
    exact absurd hq.2.1 (by decide)
  · obtain ⟨es, cl, h1, h2⟩ := hm
    refine ⟨es, cl, hst bm _ h1 ?_, h2⟩
    rintro rfl
    rw [hq] at h1; cases h1
  · rcases ho.2 with h1 | ⟨g, cap, cur, h1, h2, hg, rest⟩
    · exact .inl h1
    · refine .inr ⟨g, cap, cur, h1, h2, hst g _ hg ?_, rest⟩
      rintro rfl
      rw [hg] at hq
      simp only [Option.some.injEq, Obj.cells.injEq] at hq
      exact absurd hq.2.1 (by decide)
theorem RS.ne {w0 w : World} {p q : Nat} {E : List Ent} {op : List ByteArray} {sp : Int} {cs : Array Value} {fz : Nat × Nat} (h : RS w0 w p E op sp) (hq : w.heap[q]? = some (.cells cs TQ fz)) : q ≠ p := by
  obtain ⟨bm, v, ⟨hc, _⟩, _⟩ := h
  rintro rfl
  rw [hc] at hq
  simp only [Option.some.injEq, Obj.cells.injEq] at hq
  exact absurd hq.2.1 (by decide)
/-- The box of the document's references stands across what the program reads. -/
theorem ms_fr {w0 w w' : World} {p q rb : Nat} {d : ByteArray} {A : Option Addr} {n cap : Nat} {av : Value} {E : List Ent} (h : w.heap[q]? = some (.cells #[.string d, .slice A n cap, av, .int .i64 0, .slice none 0 0] TQ (0, 0))) (hF : Fr p rb w w') (hp : q ≠ p) (hr : q ≠ rb) (hrow : RowE w0 A E) (hb : Below w0.heap.size w0 w') : MS w' q d A n cap av (.slice none 0 0) E [] 0 :=
  ⟨hF q _ h hp hr (by intro c fz e; simp only [Obj.cells.injEq] at e; exact absurd e.2.1 (by decide)) (by intro c fz e; simp only [Obj.cells.injEq] at e; exact absurd e.2.1 (by decide)), rowE_below hrow hb, World.ownsRow_nil _ _ _ _⟩
/-! ### The entities that are declared, by a number: one row, turned round -/
/-! ### rows of entities -/
theorem infoE : (Tryz.prog.info? 26).map (fun i => (i.zero, i.size, i.bytes)) = some (some (.agg #[.string ⟨#[]⟩, .string ⟨#[]⟩, .bool false]), 3, 40) := by kernel_rfl
def cellsE (E : List Ent) : List Value := E.flatMap fun e => [.string e.nm, .string e.vl, .bool e.ext]
theorem cellsE_len (E : List Ent) : (cellsE E).length = E.length * 3 := by
  induction E with
  | nil => rfl
  | cons e E ih => simp only [cellsE, List.flatMap_cons, List.length_append, List.length_cons] at *; simp at *; omega
theorem cellsE_at (E : List Ent) : ∀ i j, i < E.length → j < 3 → (cellsE E)[i * 3 + j]? = ([Value.string (E.getD i ⟨⟨#[]⟩, ⟨#[]⟩, false⟩).nm, .string (E.getD i ⟨⟨#[]⟩, ⟨#[]⟩, false⟩).vl, .bool (E.getD i ⟨⟨#[]⟩, ⟨#[]⟩, false⟩).ext])[j]? := by
  induction E with
  | nil => intro i j hi; simp at hi
  | cons e E ih =>
    intro i j hi hj
    have hc : cellsE (e :: E) = [.string e.nm, .string e.vl, .bool e.ext] ++ cellsE E := rfl
    rw [hc]
    cases i with
    | zero => rw [List.getElem?_append_left (by simp; omega)]; simp
    | succ i =>
      rw [List.getElem?_append_right (by simp; omega)]
      have := ih i j (by simpa using hi) hj
      rw [show (i + 1) * 3 + j - [Value.string e.nm, .string e.vl, .bool e.ext].length = i * 3 + j by simp; omega, this]
      simp
theorem rowE_of_cells {w : World} {ad : Addr} {E : List Ent} (hs : ad.spot = none) (hb : ad.block < w.heap.size) (hc : ∀ j u, (cellsE E)[j]? = some u → w.cell? (ad.add j) = some u) : RowE w (some ad) E := by
  intro i hi
  obtain ⟨b, o, s⟩ := ad
  simp only at hs hb
  subst hs
  have ha : ∀ k, (⟨b, o, none⟩ : Addr).add k = ⟨b, o + k, none⟩ := by intro k; unfold Addr.add; split <;> simp_all
  refine ⟨b, o, rfl, hb, ?_, ?_, ?_⟩
  · have := hc (i * 3 + 0) _ (cellsE_at E i 0 hi (by omega)); rw [ha] at this; simpa [Nat.add_assoc] using this
  · have := hc (i * 3 + 1) _ (cellsE_at E i 1 hi (by omega)); rw [ha] at this; simpa [Nat.add_assoc] using this
  · have := hc (i * 3 + 2) _ (cellsE_at E i 2 hi (by omega)); rw [ha] at this; simpa [Nat.add_assoc] using this
theorem rowE_of_own {w : World} {B n : Nat} {v : Value} {E : List Ent} (h : w.ownsRow B 26 3 v n (cellsE E)) (hn : 0 < n) : ∃ g cap, v = .slice (some ⟨g, 0, none⟩) n cap ∧ B ≤ g ∧ RowE w (some ⟨g, 0, none⟩) E := by
  rcases h.2 with ⟨_, h2⟩ | ⟨g, cap, cur, rfl, hg, h3, _⟩
  · omega
  · exact ⟨g, cap, rfl, hg, rowE_of_cells rfl (Array.getElem?_eq_some_iff.1 h3).1 (h.cells rfl)⟩
theorem cellsE_app (E F : List Ent) : cellsE (E ++ F) = cellsE E ++ cellsE F := by simp [cellsE]
/-! ### the nine -/
def L9 : List Ent := [⟨⟨#[101]⟩, ⟨#[120, 32, 121]⟩, false⟩, ⟨⟨#[102]⟩, ⟨#[38, 101, 59, 38, 101, 59]⟩, false⟩, ⟨⟨#[103]⟩, ⟨#[38, 102, 59, 38, 102, 59, 38, 102, 59]⟩, false⟩, ⟨⟨#[104]⟩, ⟨#[]⟩, true⟩, ⟨⟨#[105]⟩, ⟨#[60]⟩, false⟩,
  ⟨⟨#[106]⟩, ⟨#[38, 107, 59]⟩, false⟩, ⟨⟨#[107]⟩, ⟨#[38, 106, 59]⟩, false⟩, ⟨⟨#[109]⟩, ⟨#[38, 35, 57, 59, 38, 108, 116, 59]⟩, false⟩, ⟨⟨#[111]⟩, ⟨#[]⟩, false⟩]
def E9 (k : Nat) : List Ent := L9.drop k ++ L9.take k
theorem u9_of (x : Int) : ∃ k : Nat, k < 9 ∧ (IntKind.u64.wrap x).tmod 9 = (k : Int) := by
  have hw : 0 ≤ IntKind.u64.wrap x := by unfold IntKind.wrap; simp [IntKind.bits, IntKind.signed]; omega
  have h0 : 0 ≤ Int.tmod (IntKind.u64.wrap x) 9 := Int.tmod_nonneg _ hw
  have h1 : Int.tmod (IntKind.u64.wrap x) 9 < 9 := Int.tmod_lt_of_pos _ (by omega)
  exact ⟨((IntKind.u64.wrap x).tmod 9).toNat, by omega, by omega⟩
/-- append onto a row of the call's own, as one step of a region that draws; nothing may be appended, too. -/
theorem step_append_own {P : Program} {ops : Array Oper} {o : Oper} {a : Act} {w : World} {K : Act → World → Prop} {Q : Exit → Act → World → Prop} {E : Prop} (hgd : o.guard = none) (s x : Operand) (t : TypeId)
    (ho : o.op = .call { callee := .builtin .append, args := #[s, x], argTypes := #[t, t] })
    (base : Nat) (e : TypeId) (i : TypeInfo) (z : Value) (size bytes : Nat) (ht : P.underlying t = some (.slice e)) (hi : P.info? e = some i) (hz : i.zero = some z)
    (hsize : i.size = size) (hby : i.bytes = bytes) (hzs : z.cells.size = size) (hsz : 0 < size)
    (v : Value) (n : Nat) (xs : List Value) (hs : a.eval s = v) (hown : w.ownsRow base e size v n xs)
    (ad : Addr) (m c : Nat) (news : List Value) (hx : a.eval x = .slice (some ad) m c) (hl : news.length = m * size) (hnews : ∀ j u, news[j]? = some u → w.cell? (ad.add j) = some u) (h1 : ∀ u ∈ news, u.oneCell' = true)
    (h63 : n + m ≤ maxLen) (hbytes : (n + m) * bytes ≤ 140737488355328) (hbase : base ≤ w.heap.size)
    (h : ∀ v' w', w'.ownsRow base e size v' (n + m) (xs ++ news) → w.grownBy w' v.ownBlock → K (a.put o.dst v') w') :
    if Region.wanted o (yielded ops a.tmps) = true then Oper.wp P o a w K Q else E := by
  have hw : Region.wanted o (yielded ops a.tmps) = true := by simp [Region.wanted, hgd]
  rw [if_pos hw]
  obtain ⟨v', w', hr, h2, h3, _, _⟩ := run_append_own_at (P := P) w base t o.type e i z size bytes ht hi hz hsize hby hzs hsz v n xs hown ad m c news hl hnews h1 h63 hbytes hbase
  unfold Oper.wp execOp
  simp only [ho, resolve, invoke, builtin, Sem.run_bind, Sem.run_pure, Result.andThen_ok, List.map_toArray, List.map_cons, List.map_nil, hs, hx, hr]
  exact h v' w' h2 h3
theorem cellsE_drop (L : List Ent) (k : Nat) (hk : k ≤ L.length) (j : Nat) : (cellsE (L.drop k))[j]? = (cellsE L)[k * 3 + j]? := by
  have h1 : cellsE L = cellsE (L.take k) ++ cellsE (L.drop k) := by rw [← cellsE_app, List.take_append_drop]
  have h2 : (cellsE (L.take k)).length = k * 3 := by rw [cellsE_len, List.length_take, Nat.min_eq_left hk]
  rw [h1, List.getElem?_append_right (by omega), h2]
  congr 1
  omega
theorem cellsE_take (L : List Ent) (k : Nat) (j : Nat) (u : Value) (h : (cellsE (L.take k))[j]? = some u) : (cellsE L)[j]? = some u := by
  have h1 : cellsE L = cellsE (L.take k) ++ cellsE (L.drop k) := by rw [← cellsE_app, List.take_append_drop]
  rw [h1, List.getElem?_append_left (List.getElem?_eq_some_iff.1 h).1]
  exact h
theorem cellsE_one (L : List Ent) : ∀ u ∈ cellsE L, u.oneCell' = true := by
  intro u hu
  obtain ⟨e, _, he⟩ := List.mem_flatMap.1 hu
  simp only [List.mem_cons, List.mem_nil_iff, or_false] at he
  rcases he with rfl | rfl | rfl <;> rfl
theorem addr_add (b o k : Nat) : (⟨b, o, none⟩ : Addr).add k = ⟨b, o + k, none⟩ := by unfold Addr.add; split <;> simp_all
theorem grown_undrew {W w3 : World} {r : Option Nat} (h : W.drew.grownBy w3 r) : W.grownBy w3 r := ⟨h.os, h.tape, h.output, h.size, h.block⟩
theorem kept3 {W0 w3 w4 : World} {o : Obj} {v2 : Value} {T s n2 : Nat} {xs2 : List Value} (hg : (W0.alloc o).grownBy w3 (some W0.heap.size)) (h2 : w3.ownsRow W0.heap.size T s v2 n2 xs2) (hg2 : w3.grownBy w4 v2.ownBlock) : Below W0.heap.size W0 w4 ∧ W0.heap.size < w4.heap.size := by
  have s1 := hg.size
  have s2 := hg2.size
  simp at s1
  refine ⟨⟨hg2.os.trans hg.os, hg2.tape.trans hg.tape, hg2.output.trans hg.output, by omega, fun k hk => ?_⟩, by omega⟩
  rw [hg2.block k (by omega) (fun e => by have := (h2.lt _ e.symm).1; omega), hg.block k (by simp; omega) (fun e => by cases e; omega), heap_alloc_old _ _ hk]
theorem row3 {W0 w3 : World} {o x : Obj} {b : Nat} (hg : (W0.alloc o).grownBy w3 (some W0.heap.size)) (hb : b < W0.heap.size) (hx : W0.heap[b]? = some x) : w3.heap[b]? = some x := by
  rw [hg.block b (by simp; omega) (fun e => by cases e; omega), heap_alloc_old _ _ hb]
  exact hx
theorem row9 {w4 : World} {B k : Nat} {v3 : Value} (hk : k < 9) (h : w4.ownsRow B 26 3 v3 (0 + (9 - k) + k) ([] ++ cellsE (L9.drop k) ++ cellsE (L9.take k))) : ∃ g cap, v3 = .slice (some ⟨g, 0, none⟩) 9 cap ∧ B ≤ g ∧ RowE w4 (some ⟨g, 0, none⟩) (E9 k) ∧ g < w4.heap.size := by
  rw [List.nil_append, ← cellsE_app, show 0 + (9 - k) + k = 9 by omega] at h
  obtain ⟨g, cap, h1, h2, h3⟩ := rowE_of_own h (by omega)
  refine ⟨g, cap, h1, h2, h3, ?_⟩
  subst h1
  exact (h.lt g rfl).2
theorem row_far {w : World} {g b o : Nat} {x : Value} {E : List Ent} (h : RowE w (some ⟨g, 0, none⟩) E) (hg : g ≠ b) : RowE (w.setCell ⟨b, o, none⟩ x) (some ⟨g, 0, none⟩) E := by
  intro i hi
  obtain ⟨b', o', h1, h2, h3, h4, h5⟩ := h i hi
  have hb' : g = b' := by cases h1; rfl
  have hne : b' ≠ b := by omega
  exact ⟨b', o', h1, by simpa [World.setCell] using h2, (World.cell?_setCell_far w _ _ _ (fun e => hne e.symm)).trans h3, (World.cell?_setCell_far w _ _ _ (fun e => hne e.symm)).trans h4, (World.cell?_setCell_far w _ _ _ (fun e => hne e.symm)).trans h5⟩
theorem dec_done {w w2 w4 : World} {g k : Nat} {a0 a1 a2 : Value} {T : TypeId} (h : w4.heap[w.heap.size]? = some (.cells #[a0, a1, a2] T (0, 0))) (hb2 : Below w.heap.size w w2) (hb4 : Below w2.heap.size w2 w4) (hr : RowE w4 (some ⟨g, 0, none⟩) (E9 k)) (hg : w.heap.size < g) (hgl : g < w4.heap.size) (v0 v1 v2 : Value) :
    ∃ W, W = (((w4.setCell ⟨w.heap.size, 0, none⟩ v0).setCell ⟨w.heap.size, 1, none⟩ v1).setCell ⟨w.heap.size, 2, none⟩ v2) ∧ W.cell? ⟨w.heap.size, 0, none⟩ = some v0 ∧ W.cell? ⟨w.heap.size, 1, none⟩ = some v1 ∧ W.cell? ⟨w.heap.size, 2, none⟩ = some v2 ∧ RowE W (some ⟨g, 0, none⟩) (E9 k) ∧ g < W.heap.size ∧ Below w.heap.size w W := by
  have hQ : (((w4.setCell ⟨w.heap.size, 0, none⟩ v0).setCell ⟨w.heap.size, 1, none⟩ v1).setCell ⟨w.heap.size, 2, none⟩ v2).heap[w.heap.size]? = some (.cells #[v0, v1, v2] T (0, 0)) := by
    simp [World.setCell, Array.getElem?_modify, h]
  have hbb := hb2.trans (hb4.mono hb2.size)
  exact ⟨_, rfl, cell_of hQ 0, cell_of hQ 1, cell_of hQ 2, row_far (row_far (row_far hr (by omega)) (by omega)) (by omega), by simpa [World.setCell] using hgl, ((hbb.setCell (p := ⟨w.heap.size, 0, none⟩) (Nat.le_refl _) v0).setCell (p := ⟨w.heap.size, 1, none⟩) (Nat.le_refl _) v1).setCell (p := ⟨w.heap.size, 2, none⟩) (Nat.le_refl _) v2⟩
theorem empty3 {W : World} {b B : Nat} (h : W.heap[b]? = some (.cells #[] 26 (0, 0))) (hB : B ≤ b) : W.ownsRow B 26 3 (.slice (some ⟨b, 0, none⟩) 0 0) 0 [] :=
  ⟨rfl, .inr ⟨b, 0, _, rfl, hB, h, Nat.le_refl 0, by decide, rfl, rfl⟩⟩
theorem news_from {W : World} {b k : Nat} {L : List Ent} (hk : k ≤ L.length) (h : W.heap[b]? = some (.cells (cellsE L).toArray 26 (0, 0))) : ∀ j u, (cellsE (L.drop k))[j]? = some u → W.cell? ((⟨b, k * 3, none⟩ : Addr).add j) = some u := by
  intro j u hu
  rw [addr_add, cell_of h, List.getElem?_toArray, ← cellsE_drop L k hk]
  exact hu
theorem news_upto {W : World} {b k : Nat} {L : List Ent} (h : W.heap[b]? = some (.cells (cellsE L).toArray 26 (0, 0))) : ∀ j u, (cellsE (L.take k))[j]? = some u → W.cell? ((⟨b, 0, none⟩ : Addr).add j) = some u := by
  intro j u hu
  rw [addr_add, Nat.zero_add, cell_of h, List.getElem?_toArray]
  exact cellsE_take L k j u hu
set_option maxRecDepth 100000 in
set_option maxHeartbeats 4000000 in
theorem entities_any (a : Int) (w : World) : Calls Tryz.prog 17 #[.int .i64 a] w fun e w' => ∃ k g cap, k < 9 ∧ e = .returned (.agg #[.string ⟨#[]⟩, .slice (some ⟨g, 0, none⟩) 9 cap, .slice none 0 0]) ∧ RowE w' (some ⟨g, 0, none⟩) (E9 k) ∧ g < w'.heap.size ∧ Below w.heap.size w w' := by
  obtain ⟨k, hk, hK⟩ := u9_of a
  obtain ⟨i0, hi, hz0, hz1, hz2⟩ := info_parts infoE
  go_enter Tryz.func17, Tryz.ntmps17
  go_wp2
  have hk9 : (k : Int) ≤ 9 := by omega
  have hk0 : (0 : Int) ≤ (k : Int) := by omega
  have hkn : ¬ 9 = k := by omega
  obtain ⟨W2, hW2⟩ : ∃ W2, W2 = (w.alloc (.cells #[.string ⟨#[]⟩, .slice none 0 0, .slice none 0 0] 30)).alloc (.cells #[.string ⟨#[101]⟩, .string ⟨#[120, 32, 121]⟩, .bool false, .string ⟨#[102]⟩, .string ⟨#[38, 101, 59, 38, 101, 59]⟩, .bool false, .string ⟨#[103]⟩, .string ⟨#[38, 102, 59, 38, 102, 59, 38, 102, 59]⟩, .bool false, .string ⟨#[104]⟩, .string ⟨#[]⟩, .bool true, .string ⟨#[105]⟩, .string ⟨#[60]⟩, .bool false, .string ⟨#[106]⟩, .string ⟨#[38, 107, 59]⟩, .bool false, .string ⟨#[107]⟩, .string ⟨#[38, 106, 59]⟩, .bool false, .string ⟨#[109]⟩, .string ⟨#[38, 35, 57, 59, 38, 108, 116, 59]⟩, .bool false, .string ⟨#[111]⟩, .string ⟨#[]⟩, .bool false] 26) := ⟨_, rfl⟩
  rw [← hW2]
  have hrow : W2.heap[w.heap.size + 1]? = some (.cells (cellsE L9).toArray 26 (0, 0)) := by
    rw [hW2]
    have h_ := heap_alloc_new (w.alloc (.cells #[.string ⟨#[]⟩, .slice none 0 0, .slice none 0 0] 30)) (.cells #[.string ⟨#[101]⟩, .string ⟨#[120, 32, 121]⟩, .bool false, .string ⟨#[102]⟩, .string ⟨#[38, 101, 59, 38, 101, 59]⟩, .bool false, .string ⟨#[103]⟩, .string ⟨#[38, 102, 59, 38, 102, 59, 38, 102, 59]⟩, .bool false, .string ⟨#[104]⟩, .string ⟨#[]⟩, .bool true, .string ⟨#[105]⟩, .string ⟨#[60]⟩, .bool false, .string ⟨#[106]⟩, .string ⟨#[38, 107, 59]⟩, .bool false, .string ⟨#[107]⟩, .string ⟨#[38, 106, 59]⟩, .bool false, .string ⟨#[109]⟩, .string ⟨#[38, 35, 57, 59, 38, 108, 116, 59]⟩, .bool false, .string ⟨#[111]⟩, .string ⟨#[]⟩, .bool false] 26)
    rw [size_alloc'] at h_
    exact h_
  have hbox : W2.heap[w.heap.size]? = some (.cells #[.string ⟨#[]⟩, .slice none 0 0, .slice none 0 0] 30 (0, 0)) := by
    rw [hW2, heap_alloc_old _ _ (by simp)]
    exact heap_alloc_new w _
  have hbel : Below w.heap.size w W2 := by rw [hW2]; exact ((Below.refl _ _).alloc (Nat.le_refl _) _).alloc (by simp) _
  have hsz : w.heap.size + 1 < W2.heap.size := by rw [hW2]; simp
  clear hW2 hK
  have hlen1 : (cellsE (L9.drop k)).length = (9 - k) * 3 := by rw [cellsE_len, List.length_drop]; rfl
  have hlen2 : (cellsE (L9.take k)).length = k * 3 := by rw [cellsE_len, List.length_take]; show min k 9 * 3 = _; omega
  have HL1 := Lib.hid hlen1
  have HL2 := Lib.hid hlen2
  have HO1 := Lib.hid (cellsE_one (L9.drop k))
  have HO2 := Lib.hid (cellsE_one (L9.take k))
  have HROW := Lib.hid hrow
  have hempty := empty3 (heap_alloc_new W2 (.cells #[] 26)) (Nat.le_refl _)
  have HE0 := Lib.hid hempty
  clear hlen1 hlen2 hrow hempty
  have HBOX := Lib.hid hbox
  go_region_law (first | (refine step_append_own rfl (.tmp 18) (.tmp 21) 27 rfl W2.heap.size 26 i0 (.agg #[.string ⟨#[]⟩, .string ⟨#[]⟩, .bool false]) 3 40 Tryz.underlying27 hi hz0 hz1 hz2 rfl (by decide) (.slice (some ⟨W2.heap.size, 0, none⟩) 0 0) 0 [] rfl HE0.out ⟨w.heap.size + 1, k * 3, none⟩ (9 - k) (9 - k) (cellsE (L9.drop k)) rfl HL1.out (news_from (by show k ≤ 9; omega) ((heap_alloc_old W2 _ hsz).trans HROW.out)) HO1.out (by unfold maxLen; omega) (by omega) (by show _ ≤ (W2.alloc _).heap.size; simp) ?_; intro v2 w3 hown2 hgrow2; have hgrow2 : (W2.alloc (.cells #[] 26)).grownBy w3 (some W2.heap.size) := grown_undrew hgrow2; have hs3 : W2.heap.size ≤ w3.heap.size := (by have := hgrow2.size; simp at this; omega); have HR3 := Lib.hid (row3 hgrow2 hsz HROW.out); have HN2 := Lib.hid hown2; have HG2 := Lib.hid hgrow2; clear hown2 hgrow2) | (refine step_append_own rfl (.tmp 22) (.tmp 25) 27 rfl W2.heap.size 26 i0 (.agg #[.string ⟨#[]⟩, .string ⟨#[]⟩, .bool false]) 3 40 Tryz.underlying27 hi hz0 hz1 hz2 rfl (by decide) v2 (0 + (9 - k)) ([] ++ cellsE (L9.drop k)) rfl HN2.out ⟨w.heap.size + 1, 0, none⟩ k 9 (cellsE (L9.take k)) rfl HL2.out (news_upto HR3.out) HO2.out (by unfold maxLen; omega) (by omega) hs3 ?_; intro v3 w4 hown3 hgrow3; obtain ⟨hb4, hlt4⟩ := kept3 HG2.out HN2.out hgrow3; obtain ⟨g, cap, rfl, hg, hrE, hgl⟩ := row9 hk hown3; have hbox4 := (hb4.block w.heap.size (by omega)).trans HBOX.out; have c0 := cell_of hbox4 0; have c1 := cell_of hbox4 1; have c2 := cell_of hbox4 2; have f0 := frozen_of hbox4 0; have f1 := frozen_of hbox4 1; have f2 := frozen_of hbox4 2; have hwl : w.heap.size < w4.heap.size := (by omega); have HRE := Lib.hid hrE; have HB4 := Lib.hid hb4; have HBX := Lib.hid hbox4; clear hown3 hgrow3 hrE hb4 hbox4))
  all_goals
    go_wp2
    obtain ⟨W, hW, d0, d1, d2, hrW, hgW, hbW⟩ := dec_done HBX.out hbel HB4.out HRE.out (by omega) hgl (.string ⟨#[]⟩) (.slice (some ⟨g, 0, none⟩) 9 cap) (.slice none 0 0)
    rw [← hW]
    refine bodyPost_ret (v := .agg #[.string ⟨#[]⟩, .slice (some ⟨g, 0, none⟩) 9 cap, .slice none 0 0]) (by simp [results, Tryz.results17, go_sem, d0, d1, d2]) rfl ⟨k, g, cap, hk, rfl, hrW, hgW, hbW⟩
end Go.Proofs.YtmjdjpelhhibgaaGreatDoor.Val
