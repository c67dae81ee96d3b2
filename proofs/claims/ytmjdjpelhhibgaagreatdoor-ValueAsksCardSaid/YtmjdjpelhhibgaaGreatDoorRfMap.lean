/- A map from texts to interface values, read and written by its block: for the entities of a document type. -/
import Derived.Test.YtmjdjpelhhibgaaGreatDoorProg
import Derived.WalkKit
import Derived.WalkSpells
import Derived.Lib.Hide
namespace Go.Proofs.YtmjdjpelhhibgaaGreatDoor.Rf
open Go.RowKit
set_option linter.unusedVariables false

/-- Block b is a map that holds just these texts, each with its value, in this order of birth. -/
def IsMap (w : World) (b : Nat) (L : List (ByteArray × Value)) : Prop :=
  ∃ es clock, w.heap[b]? = some (.map es clock) ∧ es.toList.map (fun e => (e.key, e.val)) = L.map (fun p => (Value.string p.1, p.2))

def lk (k : ByteArray) : List (ByteArray × Value) → Nat → Option (Nat × Value)
  | [], _ => none
  | p :: L, i => if k = p.1 then some (i, p.2) else lk k L (i + 1)

theorem findNow_lk (k : ByteArray) : ∀ (es : List MapEntry) (L : List (ByteArray × Value)) (i : Nat), es.map (fun e => (e.key, e.val)) = L.map (fun p => (Value.string p.1, p.2)) →
    Instr.findNow .string (.string k) es i = some (lk k L i)
  | [], [], _, _ => rfl
  | [], _ :: _, _, h => by simp at h
  | _ :: _, [], _, h => by simp at h
  | e :: es, p :: L, i, h => by
    simp only [List.map_cons, List.cons.injEq, Prod.mk.injEq] at h
    obtain ⟨⟨h1, h2⟩, h3⟩ := h
    have ih := findNow_lk k es L (i + 1) h3
    unfold Instr.findNow lk
    rw [h1]
    by_cases hk : k = p.1
    · have : (k == p.1) = true := (MapKept.bytes_beq k p.1).2 hk
      simp [Instr.sameNow, h2, hk]
      rw [hk] at this
      simp [this]
    · have : (k == p.1) = false := by cases hb : (k == p.1) with | false => rfl | true => exact absurd ((MapKept.bytes_beq k p.1).1 hb) hk
      simp [Instr.sameNow, this, ih, hk]

section
variable {P : Program} {w : World} {t key elem : TypeId}
theorem check_str (hk : P.underlying key = some .string) (em : Bool) (k : ByteArray) : (Instr.checkKey em 10000 key (.string k)).run P w = .ok () w := by
  rw [show (10000 : Nat) = 9999 + 1 from rfl, Instr.checkKey]
  simp only [Sem.run_bind, run_underlying hk, Result.andThen]
  rfl
theorem find_str (hk : P.underlying key = some .string) (k : ByteArray) (es : List MapEntry) (L : List (ByteArray × Value)) (h : es.map (fun e => (e.key, e.val)) = L.map (fun p => (Value.string p.1, p.2))) :
    (Instr.findKey key (.string k) es).run P w = .ok (lk k L 0) w := by
  simp [Instr.findKey, run_underlying hk, findNow_lk k es L 0 h, Result.andThen]
theorem look_some (ht : P.underlying t = some (.map key elem)) (hk : P.underlying key = some .string) {b : Nat} {L : List (ByteArray × Value)} (hm : IsMap w b L) {k : ByteArray} {j : Nat} {v : Value} (hl : lk k L 0 = some (j, v)) (ok : Bool) :
    (Instr.lookup t (.map (some b)) (.string k) ok).run P w = .ok (if ok then .tuple #[v, .bool true] else v) w := by
  obtain ⟨es, clock, hb, he⟩ := hm
  simp [Instr.lookup, run_underlying ht, MapKept.run_getObj_map hb, check_str hk, find_str hk k es.toList L he, hl, Result.andThen]
theorem look_none (ht : P.underlying t = some (.map key elem)) (hk : P.underlying key = some .string) (hz : (zeroValue elem).run P w = .ok .nilIface w) {b : Nat} {L : List (ByteArray × Value)} (hm : IsMap w b L) {k : ByteArray} (hl : lk k L 0 = none) (ok : Bool) :
    (Instr.lookup t (.map (some b)) (.string k) ok).run P w = .ok (if ok then .tuple #[.nilIface, .bool false] else .nilIface) w := by
  obtain ⟨es, clock, hb, he⟩ := hm
  simp [Instr.lookup, run_underlying ht, MapKept.run_getObj_map hb, check_str hk, find_str hk k es.toList L he, hl, hz, Result.andThen]

/-- The world behind the store of a new key: everything else is as it was. -/
theorem put_new (ht : P.underlying t = some (.map key elem)) (hk : P.underlying key = some .string) {b : Nat} {L : List (ByteArray × Value)} (hm : IsMap w b L) {k : ByteArray} (v : Value) (hl : lk k L 0 = none) :
    ∃ o, (Instr.mapUpdate t (.map (some b)) (.string k) v).run P w = .ok () (ChangeMaps.setBlock w b o) ∧ IsMap (ChangeMaps.setBlock w b o) b (L ++ [(k, v)]) := by
  obtain ⟨es, clock, hb, he⟩ := hm
  have hlt := (Array.getElem?_eq_some_iff.1 hb).1
  refine ⟨.map (es.push { key := .string k, val := v, born := clock }) (clock + 1), ?_, ?_⟩
  · simp [Instr.mapUpdate, run_underlying ht, MapKept.run_getObj_map hb, check_str hk, find_str hk k es.toList L he, hl, Result.andThen, MapKept.run_setObj_map _ hb, ChangeMaps.setBlock]
  · refine ⟨_, _, by simp [ChangeMaps.setBlock, hlt]; exact ⟨rfl, rfl⟩, ?_⟩
    simp [he]
end
theorem IsMap.of_block {w w' : World} {b : Nat} {L : List (ByteArray × Value)} (h : IsMap w b L) (hb : w'.heap[b]? = w.heap[b]?) : IsMap w' b L := by
  obtain ⟨es, clock, h1, h2⟩ := h
  exact ⟨es, clock, hb.trans h1, h2⟩
end Go.Proofs.YtmjdjpelhhibgaaGreatDoor.Rf
