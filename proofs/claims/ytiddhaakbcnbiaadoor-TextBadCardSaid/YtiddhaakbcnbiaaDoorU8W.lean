/- What utf8.word and utf8.Valid answer over bytes in cells. -/
import Derived.Test.YtiddhaakbcnbiaaDoorGiv
import Derived.Test.YtiddhaakbcnbiaaDoorWWords
import Derived.Shelf.Unicode.WordAny
import Derived.Shelf.Unicode.ValidAny
namespace Go.Proofs.YtiddhaakbcnbiaaDoor.U8
open Go.RowKit Go.Lib Go.Shelf Go.Proofs.YtiddhaakbcnbiaaDoorW.PrintWords Go.Proofs.YtiddhaakbcnbiaaDoor.Giv
set_option linter.unusedVariables false

/-- The cells from an address on bear the bytes. -/
def At (w : World) (A : Option Addr) (t : ByteArray) : Prop := ∀ i, i < t.size → ∃ ad, A = some ad ∧ w.cell? (ad.add i) = some (.int .u8 ((t.get! i).toNat : Int))
theorem At.heap {w w' : World} {A : Option Addr} {t : ByteArray} (h : At w A t) (e : w'.heap = w.heap) : At w' A t := fun i hi => by
  obtain ⟨ad, ha, hc⟩ := h i hi
  refine ⟨ad, ha, ?_⟩
  rw [← hc]; unfold World.cell?; rw [e]
theorem At.below {w w' : World} {A : Option Addr} {t : ByteArray} (h : At w A t) (hb : Below w.heap.size w w') : At w' A t := fun i hi => by
  obtain ⟨ad, ha, hc⟩ := h i hi
  exact ⟨ad, ha, (hb.cell (cell_lt hc)).trans hc⟩
theorem At.zero {w : World} {b o : Nat} {sp : Option Nat} {t : ByteArray} (h : At w (some ⟨b, o, sp⟩) t) (h0 : 0 < t.size) : w.cell? ⟨b, o, sp⟩ = some (.int .u8 ((t.get! 0).toNat : Int)) := by
  obtain ⟨ad, ha, hc⟩ := h 0 h0
  obtain rfl := Option.some.inj ha
  simpa [Addr.add] using hc
theorem At.succ {w : World} {b o : Nat} {sp : Option Nat} {t : ByteArray} (h : At w (some ⟨b, o, sp⟩) t) (i : Nat) (hi : i < t.size) (hp : 0 < i) : w.cell? ⟨b, o + i, none⟩ = some (.int .u8 ((t.get! i).toNat : Int)) := by
  obtain ⟨ad, ha, hc⟩ := h i hi
  obtain rfl := Option.some.inj ha
  rw [Addr.add, if_neg (by omega)] at hc
  exact hc
theorem At.some_ {w : World} {A : Option Addr} {t : ByteArray} (h : At w A t) (h0 : 0 < t.size) : ∃ b o sp, A = some ⟨b, o, sp⟩ := by
  obtain ⟨⟨b, o, sp⟩, ha, _⟩ := h 0 h0
  exact ⟨b, o, sp, ha⟩
theorem get!_ext (t : ByteArray) (m i : Nat) (h : m + i < t.size) : (t.extract m t.size).get! i = t.get! (m + i) := by
  have h1 : i < (t.extract m t.size).size := by rw [Lib.ext_size]; omega
  rw [Utf8W.get!_of_lt _ i h1, Utf8W.get!_of_lt _ (m + i) h]
  exact ByteArray.getElem_extract _
/-- 't[m:]' and its cells. -/
theorem At.cut (A : Option Addr) (t t' : ByteArray) (m : Nat) (k : Int) (hk : k = (m : Int)) (hm : m ≤ t.size) (ht : t.extract m t.size = t') :
    ∃ A' : Option Addr, (∀ W : World, (Instr.slice 34 (.slice A t.size t.size) (some (.int .i64 k)) none none).run Tryd.prog W = .ok (.slice A' t'.size t'.size) W) ∧ ∀ w : World, At w A t → At w A' t' := by
  have hz : t'.size = t.size - m := by rw [← ht, Lib.ext_size]
  subst hk
  refine ⟨if t.size = m then A else A.map (·.add m), fun W => ?_, fun w h i hi => ?_⟩
  · have hu : Tryd.prog.underlying 34 = some (.slice (Tryd.prog.elem 34)) := by kernel_rfl
    have hel : Tryd.prog.elem 34 = 5 := by kernel_rfl
    rw [run_slice_l W 34 A t.size t.size hu .i64 (m : Int) (Int.natCast_nonneg _) (by omega), hel, hz]
    have hi : (Tryd.prog.info? 5).map (fun i => i.size) = some 1 := by kernel_rfl
    obtain ⟨i, hi1, hi2⟩ := Option.map_eq_some_iff.1 hi
    simp [sizeOf, typeInfo, hi1, hi2, sliced, Result.andThen]
  · subst ht
    rw [Lib.ext_size] at hi
    rw [if_neg (by omega)]
    obtain ⟨ad, rfl, hc⟩ := h (m + i) (by omega)
    refine ⟨ad.add m, rfl, ?_⟩
    have ha : (ad.add m).add i = ad.add (m + i) := by
      unfold Addr.add
      by_cases h1 : m = 0 <;> by_cases h2 : i = 0 <;> simp [h1, h2, Nat.add_assoc]
    rw [ha, hc, get!_ext t m i (by omega)]

set_option maxHeartbeats 8000000 in
set_option maxRecDepth 100000 in
theorem word_bytes (b off : Nat) (sp : Option Nat) (n c : Nat) (t : ByteArray) (w : World) (hs : 8 ≤ t.size) (hn : n = t.size) (hA : At w (some ⟨b, off, sp⟩) t) :
    Calls Tryd.prog 58 #[.slice (some ⟨b, off, sp⟩) n c] w fun e w' => e = .returned (.int .u64 (Lib.leNat [t.get! 0, t.get! 1, t.get! 2, t.get! 3, t.get! 4, t.get! 5, t.get! 6, t.get! 7])) ∧ ∃ q, w' = w.drewN q := by
  obtain ⟨x0, hx0⟩ : ∃ x0, t.get! 0 = x0 := ⟨_, rfl⟩
  have h0 : x0.toNat < 256 := x0.toNat_lt
  have c0 : w.cell? ⟨b, off, sp⟩ = some (.int .u8 (x0.toNat : Int)) := by rw [← hx0]; exact hA.zero (by omega)
  have q0 : (0 : Int) < (n : Int) := by omega
  obtain ⟨x1, hx1⟩ : ∃ x1, t.get! 1 = x1 := ⟨_, rfl⟩
  have h1 : x1.toNat < 256 := x1.toNat_lt
  have c1 : w.cell? ⟨b, off + 1, none⟩ = some (.int .u8 (x1.toNat : Int)) := by rw [← hx1]; exact hA.succ 1 (by omega) (by omega)
  have q1 : (1 : Int) < (n : Int) := by omega
  obtain ⟨x2, hx2⟩ : ∃ x2, t.get! 2 = x2 := ⟨_, rfl⟩
  have h2 : x2.toNat < 256 := x2.toNat_lt
  have c2 : w.cell? ⟨b, off + 2, none⟩ = some (.int .u8 (x2.toNat : Int)) := by rw [← hx2]; exact hA.succ 2 (by omega) (by omega)
  have q2 : (2 : Int) < (n : Int) := by omega
  obtain ⟨x3, hx3⟩ : ∃ x3, t.get! 3 = x3 := ⟨_, rfl⟩
  have h3 : x3.toNat < 256 := x3.toNat_lt
  have c3 : w.cell? ⟨b, off + 3, none⟩ = some (.int .u8 (x3.toNat : Int)) := by rw [← hx3]; exact hA.succ 3 (by omega) (by omega)
  have q3 : (3 : Int) < (n : Int) := by omega
  obtain ⟨x4, hx4⟩ : ∃ x4, t.get! 4 = x4 := ⟨_, rfl⟩
  have h4 : x4.toNat < 256 := x4.toNat_lt
  have c4 : w.cell? ⟨b, off + 4, none⟩ = some (.int .u8 (x4.toNat : Int)) := by rw [← hx4]; exact hA.succ 4 (by omega) (by omega)
  have q4 : (4 : Int) < (n : Int) := by omega
  obtain ⟨x5, hx5⟩ : ∃ x5, t.get! 5 = x5 := ⟨_, rfl⟩
  have h5 : x5.toNat < 256 := x5.toNat_lt
  have c5 : w.cell? ⟨b, off + 5, none⟩ = some (.int .u8 (x5.toNat : Int)) := by rw [← hx5]; exact hA.succ 5 (by omega) (by omega)
  have q5 : (5 : Int) < (n : Int) := by omega
  obtain ⟨x6, hx6⟩ : ∃ x6, t.get! 6 = x6 := ⟨_, rfl⟩
  have h6 : x6.toNat < 256 := x6.toNat_lt
  have c6 : w.cell? ⟨b, off + 6, none⟩ = some (.int .u8 (x6.toNat : Int)) := by rw [← hx6]; exact hA.succ 6 (by omega) (by omega)
  have q6 : (6 : Int) < (n : Int) := by omega
  obtain ⟨x7, hx7⟩ : ∃ x7, t.get! 7 = x7 := ⟨_, rfl⟩
  have h7 : x7.toNat < 256 := x7.toNat_lt
  have c7 : w.cell? ⟨b, off + 7, none⟩ = some (.int .u8 (x7.toNat : Int)) := by rw [← hx7]; exact hA.succ 7 (by omega) (by omega)
  have q7 : (7 : Int) < (n : Int) := by omega
  have p0 : 0 < n := by omega
  rw [hx0, hx1, hx2, hx3, hx4, hx5, hx6, hx7]
  have hv : ((Lib.leNat [x0, x1, x2, x3, x4, x5, x6, x7] : Nat) : Int) = (x0.toNat : Int) + (x1.toNat : Int) * 256 + (x2.toNat : Int) * 65536 + (x3.toNat : Int) * 16777216 + (x4.toNat : Int) * 4294967296 + (x5.toNat : Int) * 1099511627776 + (x6.toNat : Int) * 281474976710656 + (x7.toNat : Int) * 72057594037927936 := by
    simp only [Lib.leNat]
    push_cast
    omega
  have mixed : Tryd.prog.follows .mixedOrders = true := by kernel_rfl
  clear hA hs hn hx0 hx1 hx2 hx3 hx4 hx5 hx6 hx7
  go_enter Tryd.func58, Tryd.ntmps58
  go_wp2
  go_quiet_o (fail)
  go_wp2
  go_ret
  refine ⟨?_, _, rfl⟩
  simp (disch := omega) only [u64_wrap_id, u64_or8, u64_or16, u64_or24, u64_or32, u64_or40, u64_or48, u64_or56]
  rw [hv]
  rfl

end Go.Proofs.YtiddhaakbcnbiaaDoor.U8
