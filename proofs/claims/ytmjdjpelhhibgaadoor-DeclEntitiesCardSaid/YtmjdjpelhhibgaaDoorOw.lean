/- Blocks, rows and what a step turns: for the walks of packages that hold a state behind a pointer. Nothing here speaks of a program. -/
import Derived.WalkKit
import Derived.WalkSpells
import Derived.Lib.Hide
import Derived.Maps.AppendAt
import Derived.Deep.QuietTactic
namespace Go.Proofs.YtmjdjpelhhibgaaDoor.Ow
open Go.RowKit
set_option linter.unusedVariables false
theorem cell_of {w : World} {b : Nat} {cs : Array Value} {T : TypeId} {fz : Nat × Nat} (h : w.heap[b]? = some (.cells cs T fz)) (o : Nat) : w.cell? ⟨b, o, none⟩ = cs[o]? := by
  simp [World.cell?, h]
theorem frozen_of {w : World} {b : Nat} {cs : Array Value} {T : TypeId} (h : w.heap[b]? = some (.cells cs T (0, 0))) (o : Nat) : w.frozen? ⟨b, o, none⟩ = false := by
  simp [World.frozen?, h]

structure Turned (p : Nat) (v v' : Value) (w w' : World) : Prop where
  os : w'.os = w.os
  tape : w'.tape = w.tape
  output : w'.output = w.output
  size : w.heap.size ≤ w'.heap.size
  block : ∀ k, k < w.heap.size → k ≠ p → some k ≠ v.ownBlock → w'.heap[k]? = w.heap[k]?
  own : ∀ k, v'.ownBlock = some k → v.ownBlock = some k ∨ w.heap.size ≤ k
theorem Turned.of_below {p : Nat} {v : Value} {w w' : World} (h : Below w.heap.size w w') : Turned p v v w w' := ⟨h.os, h.tape, h.output, h.size, fun k hk _ _ => h.block k hk, fun k hk => .inl hk⟩
theorem Turned.refl {p : Nat} {v : Value} {w : World} : Turned p v v w w := .of_below (Below.refl _ _)
theorem Turned.trans {p : Nat} {v v' v'' : Value} {w w' w'' : World} (h : Turned p v v' w w') (h' : Turned p v' v'' w' w'') : Turned p v v'' w w'' :=
  ⟨h'.os.trans h.os, h'.tape.trans h.tape, h'.output.trans h.output, Nat.le_trans h.size h'.size,
   fun k hk hp ho => (h'.block k (Nat.lt_of_lt_of_le hk h.size) hp (fun e => by rcases h.own k e.symm with h1 | h1; exact ho h1.symm; omega)).trans (h.block k hk hp ho),
   fun k hk => by rcases h'.own k hk with h1 | h1; exact h.own k h1; exact .inr (Nat.le_trans h.size h1)⟩
theorem Turned.below {p B : Nat} {v v' : Value} {w w' : World} (h : Turned p v v' w w') (hB : B ≤ w.heap.size) (hp : B ≤ p) (hv : ∀ k, v.ownBlock = some k → B ≤ k) : Below B w w' :=
  ⟨h.os, h.tape, h.output, h.size, fun k hk => h.block k (by omega) (by omega) (fun e => by have := hv k e.symm; omega)⟩
theorem Turned.drewN {p : Nat} {v v' : Value} {w w' : World} (h : Turned p v v' w w') (n : Nat) : Turned p v v' w (w'.drewN n) := ⟨h.os, h.tape, h.output, h.size, h.block, h.own⟩
theorem Turned.undrew {p : Nat} {v v' : Value} {w w' : World} {n : Nat} (h : Turned p v v' (w.drewN n) w') : Turned p v v' w w' := ⟨h.os, h.tape, h.output, h.size, h.block, h.own⟩
def memB (k : ByteArray) (xs : List ByteArray) : Bool := xs.any fun x => decide (x = k)
theorem memB_iff (k : ByteArray) (xs : List ByteArray) : memB k xs = true ↔ k ∈ xs := by simp [memB]
theorem bytes_ne {x y : ByteArray} (h : x ≠ y) : (x.toList == y.toList) = false := by
  cases hb : (x.toList == y.toList) with
  | false => rfl
  | true => rw [beq_iff_eq, ByteArray.toList_eq, ByteArray.toList_eq] at hb; exact absurd (ByteArray.ext (Array.toList_inj.mp hb)) h
theorem bcell {W w1 : World} (hb : Below W.heap.size W w1) : (∀ b o, b < W.heap.size → w1.cell? ⟨b, o, none⟩ = W.cell? ⟨b, o, none⟩) ∧ (∀ b o, b < W.heap.size → w1.frozen? ⟨b, o, none⟩ = W.frozen? ⟨b, o, none⟩) :=
  ⟨fun b o h => hb.cell (p := ⟨b, o, none⟩) h, fun b o h => hb.frozen (p := ⟨b, o, none⟩) h⟩
theorem box_kept {wa wb : World} {p : Nat} {v : Value} {cs : Array Value} {T : TypeId} (h : Turned p v v (wa.alloc (.cells cs T)) wb) (hp : p < wa.heap.size) (hv : ∀ k, v.ownBlock = some k → k < wa.heap.size) :
    (∀ o, wb.cell? ⟨wa.heap.size, o, none⟩ = cs[o]?) ∧ wa.heap.size < wb.heap.size := by
  have hs := h.size
  have hb := h.block wa.heap.size (by simp) (by omega) (fun e => by have := hv _ e.symm; omega)
  rw [heap_alloc_new] at hb
  exact ⟨fun o => cell_of hb o, by simp at hs; omega⟩
theorem cells_block (w : World) (cs : Array Value) (T : TypeId) : ∀ j u, cs.toList[j]? = some u → (w.alloc (.cells cs T)).cell? ((⟨w.heap.size, 0, none⟩ : Addr).add j) = some u := by
  intro j u hu
  have ha : (⟨w.heap.size, 0, none⟩ : Addr).add j = ⟨w.heap.size, j, none⟩ := by unfold Addr.add; split <;> simp_all
  rw [ha, cell_of (heap_alloc_new w _)]
  simpa using hu
theorem own_shape3 {w : World} {B T s : Nat} {v : Value} {n : Nat} {xs : List Value} (h : w.ownsRow B T s v (n + 1) xs) : ∃ g cap, v = .slice (some ⟨g, 0, none⟩) (n + 1) cap := by
  rcases h.2 with ⟨_, h⟩ | ⟨g, cap, _, h, _⟩
  · omega
  · exact ⟨g, cap, h⟩
theorem below_drewN {B n : Nat} {w w' : World} (h : Below B w w') : Below B w (w'.drewN n) := ⟨h.os, h.tape, h.output, h.size, h.block⟩
end Go.Proofs.YtmjdjpelhhibgaaDoor.Ow
