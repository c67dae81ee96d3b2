/- 'append' onto the bytes of a constant text of one byte. -/
import Derived.Test.YtiddhaakbcnbiaaDoorTTold
namespace Go.Proofs.YtiddhaakbcnbiaaDoor.TGiv
open Go.RowKit Go.Proofs.YtiddhaakbcnbiaaDoorW.PrintWords Go.Proofs.YtiddhaakbcnbiaaDoorW.PrintLast
set_option linter.unusedVariables false

theorem read_len {l : List Int} {r : ByteArray × Int} (h : text_Read.f l = some r) : l.length < 1000000000 := by
  unfold text_Read.f at h
  by_cases hb : bytesOk l = true ∧ l.length < 1000000000
  · exact hb.2
  · rw [if_neg hb] at h; cases h
theorem append_one (W0 : World) (fr : Nat × Nat) (A : Option Addr) (c : Nat) (l : List Int) (hC : ReadsInt W0 .u8 A l.length l) (hl : l.length < 1000000000) (y : List Int) (hy : y = 120 :: l) :
    ∃ (A' : Option Addr) (c' : Nat) (w' : World), (Builtin.append_ #[34, 34] 34 #[.slice (some ⟨W0.heap.size, 0, none⟩) 1 1, .slice A l.length c]).run Tryd.prog (W0.alloc (.cells #[.int .u8 120] 5 fr)) = .ok (.slice A' y.length c') w' ∧
      ReadsInt w' .u8 A' y.length y ∧ y.length ≤ c' ∧ Below W0.heap.size W0 w' := by
  have hu : Tryd.prog.underlying 34 = some (.slice 5) := by kernel_rfl
  have hi : (Tryd.prog.info? 5).map (fun i => (i.zero, i.size, i.bytes)) = some (some (.int .u8 0), 1, 1) := by kernel_rfl
  obtain ⟨i, hi1, hi2⟩ := Option.map_eq_some_iff.1 hi
  simp only [Prod.mk.injEq] at hi2
  obtain ⟨z1, z2, z3⟩ := hi2
  have hb1 : Below W0.heap.size W0 (W0.alloc (.cells #[.int .u8 120] 5 fr)) := below_alloc (Below.refl _ _) _
  have hlit := lit_reads W0 [120] fr (by decide)
  have hC1 := hC.below hb1
  by_cases h0 : l.length = 0
  · obtain rfl : l = [] := List.eq_nil_of_length_eq_zero h0
    subst hy
    refine ⟨some ⟨W0.heap.size, 0, none⟩, 1, _, ?_, hlit, Nat.le_refl _, hb1⟩
    cases A with
    | none =>
            simp [Builtin.append_, run_underlying hu, sizeOf, typeInfo, hi1, Builtin.lenOf, Builtin.firstCells, Addr.add_lit, storeCells]
            rfl
    | some ad =>
      have := run_append_room_cells (P := Tryd.prog) (W0.alloc (.cells #[.int .u8 120] 5 fr)) 34 34 5 i hu hi1 W0.heap.size 0 1 1 ad 0 c [] (by simp) (fun j u h => by simp at h) (fun u h => by simp at h) (Nat.le_refl _) (fun j h => by simp at h) (fun j h => by simp at h)
      exact this
  · obtain ⟨ad, rfl, hcell⟩ := hC1.2.2 (by omega)
    obtain ⟨v', w', hrun, hown, hgr⟩ := run_append_arg_grows (P := Tryd.prog) (W0.alloc (.cells #[.int .u8 120] 5 fr)) 34 34 5 i (.int .u8 0) 1 1 hu hi1 z1 z2 z3 rfl (by decide) ⟨W0.heap.size, 0, none⟩ 1 1 (nums .u8 [120]) rfl (fun j u hj => by
        obtain ⟨ad2, e2, h2⟩ := hlit.2.2 (by decide)
        obtain rfl := Option.some.inj e2
        obtain ⟨hjl, rfl⟩ := List.getElem?_eq_some_iff.1 hj
        have hj0 : j < 1 := hjl
        obtain rfl : j = 0 := by omega
        exact h2 0 (by decide)) ad l.length c (nums .u8 l) (by rw [nums_length]; omega) (fun j u hj => by
        obtain ⟨hjl, rfl⟩ := List.getElem?_eq_some_iff.1 hj
        rw [nums_length] at hjl
        rw [hcell j hjl]
        simp [nums, List.getD_eq_getElem?_getD, hjl]) (by omega) (by simp [maxLen]; omega) (by omega)
    rw [← nums_append] at hown
    have hyl : y.length = 1 + l.length := by rw [hy]; simp; omega
    have hyy : ([120] ++ l : List Int) = y := by rw [hy]; rfl
    rw [hyy, ← hyl] at hown
    obtain ⟨A', c', rfl⟩ := own_slice hown
    have hbw : Below (W0.alloc (.cells #[.int .u8 120] 5 fr)).heap.size (W0.alloc (.cells #[.int .u8 120] 5 fr)) w' := ⟨hgr.os, hgr.tape, hgr.output, hgr.size, fun i hi => hgr.block i hi (by simp)⟩
    exact ⟨A', c', w', hrun, own_reads' hown, own_le hown, below_then hb1 hb1.size hbw⟩
theorem append_arm {ops : Array Oper} {rest : List Oper} {o : Oper} {a : Act} {Q : Exit → Act → World → Prop} (W0 : World) (fr : Nat × Nat) (hg : o.guard = none) (s x : Operand) (hop : o.op = Op.call { callee := Callee.builtin Builtin.append, args := #[s, x], argTypes := #[34, 34] }) (hty : o.type = 34)
    (hs : a.eval s = .slice (some ⟨W0.heap.size, 0, none⟩) 1 1) (A : Option Addr) (c : Nat) (l : List Int) (hx : a.eval x = .slice A l.length c) (hC : ReadsInt W0 .u8 A l.length l) (hl : l.length < 1000000000) (y : List Int) (hy : y = 120 :: l)
    (h : ∀ A' c' w', ReadsInt w' .u8 A' y.length y → y.length ≤ c' → Below W0.heap.size W0 w' → wpList Tryd.prog ops Q rest (a.put o.dst (.slice A' y.length c')) w') :
    wpList Tryd.prog ops Q (o :: rest) a (W0.alloc (.cells #[.int .u8 120] 5 fr)) := by
  obtain ⟨A', c', w', hrun, hr, hc, hb⟩ := append_one W0 fr A c l hC hl y hy
  refine wpList_plain hg fun K hK' => ?_
  unfold Oper.wp
  simp [execOp, hop, hty, resolve, invoke, builtin, hs, hx, hrun, Result.andThen]
  exact hK' _ _ (h A' c' w' hr hc hb)

/-! ### []byte(s) -/
theorem valid_len {s : ByteArray} {r : Bool} (h : text_Valid.f (bytesOf s) = some r) : s.size < 1000000000000000 := by
  unfold text_Valid.f at h
  by_cases hb : bytesOk (bytesOf s) = true ∧ (bytesOf s).length < 1000000000
  · have := hb.2
    rw [bytesOf_length] at this
    omega
  · rw [if_neg hb] at h; cases h
theorem conv_arm {ops : Array Oper} {rest : List Oper} {o : Oper} {a : Act} {Q : Exit → Act → World → Prop} {W : World} (hg : o.guard = none) (x : Operand) (hop : o.op = .convert 9 34 x) (s : ByteArray) (hs : s.size < 1000000000000000) (hx : a.eval x = .string s) (y : List Int) (hy : y = bytesOf s)
    (h : ∀ A' c' w', ReadsInt w' .u8 A' y.length y → y.length ≤ c' → Below W.heap.size W w' → wpList Tryd.prog ops Q rest (a.put o.dst (.slice A' y.length c')) w') :
    wpList Tryd.prog ops Q (o :: rest) a W := by
  have hrun := print_bytes (P := Tryd.prog) 9 34 5 (by kernel_rfl : Tryd.prog.underlying 9 = some .string) (by kernel_rfl) (by kernel_rfl) s W
  have hr := bytes_reads W 5 s (by omega)
  have hb := bytes_below (Below.refl W.heap.size W) (Nat.le_refl _) 5 s
  have hl : y.length = s.size := by rw [hy, bytesOf_length]
  have hge : s.size ≤ grownCap W s.size 0 5 := grownCap_ge W s.size 0 5
  refine wpList_plain hg fun K hK' => ?_
  unfold Oper.wp
  have hK := hK' _ _ (h (some ⟨W.heap.size, 0, none⟩) (grownCap W s.size 0 5) _ (by rw [hl, hy]; exact hr) (by rw [hl]; exact hge) hb)
  rw [hl] at hK
  simp [execOp, hop, hx, hrun, Result.andThen]
  exact hK

end Go.Proofs.YtiddhaakbcnbiaaDoor.TGiv
