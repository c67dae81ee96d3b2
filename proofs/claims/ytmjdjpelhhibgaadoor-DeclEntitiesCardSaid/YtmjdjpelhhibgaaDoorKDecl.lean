/- The contracts of the package of what stands ahead, as the printed walks call them. -/
import Derived.Test.YtmjdjpelhhibgaaDoorR3x0
import Derived.Test.YtmjdjpelhhibgaaDoorDA16
namespace Go.Proofs.YtmjdjpelhhibgaaDoor.Giv
open Go.RowKit Go.Proofs.YtmjdjpelhhibgaaDoorW.PrintWords Go.Proofs.YtmjdjpelhhibgaaDoorW.PrintLast Go.Proofs.YtmjdjpelhhibgaaDoor.Ow Go.Proofs.YtmjdjpelhhibgaaDoor.DS Go.Proofs.YtmjdjpelhhibgaaDoor.DA Go.Proofs.YtmjdjpelhhibgaaDoor.Spec Go.Proofs.YtmjdjpelhhibgaaDoor.R3
set_option linter.unusedVariables false
def decl_XML.f (a0 : ByteArray) : Option (Int × Int) := if a0.size < 4294967000 ∧ ascL a0.data.toList = true then some (xml a0.data.toList) else none
theorem decl_XML.calls (a0 : ByteArray) (r1 r2 : Int) (w : World) (hE : Env w) (h : decl_XML.f a0 = some (r1, r2)) :
    Calls Tryd.prog 23 #[.string a0] w fun e w' => e = .returned (.tuple #[.int .i64 r1, .int .i64 r2]) ∧ Below w.heap.size w w' := by
  unfold decl_XML.f at h
  split at h
  · rename_i hc
    have h2 := Option.some.inj h
    have := XML_any a0 w (by omega) hE hc.2
    unfold XPost at this
    rw [h2] at this
    exact this
  · cases h
def decl_Literal.f (a0 : ByteArray) (a1 : Int) : Option (ByteArray × Int × Bool) := if 0 ≤ a1 ∧ a1 ≤ (a0.size : Int) ∧ a0.size < 4294967000 then
  some (match lit (a0.data.toList.drop a1.toNat) with | some t => (bs t, a1 + (t.length : Int) + 2, true) | none => (bs [], a1, false)) else none
theorem decl_Literal.calls (a0 : ByteArray) (a1 : Int) (r1 : ByteArray) (r2 : Int) (r3 : Bool) (w : World) (hE : Env w) (h : decl_Literal.f a0 a1 = some (r1, r2, r3)) :
    Calls Tryd.prog 25 #[.string a0, .int .i64 a1] w fun e w' => e = .returned (.tuple #[.string r1, .int .i64 r2, .bool r3]) ∧ Below w.heap.size w w' := by
  unfold decl_Literal.f at h
  split at h
  · rename_i hc
    obtain ⟨a, rfl⟩ : ∃ a : Nat, a1 = (a : Int) := ⟨a1.toNat, by omega⟩
    have h2 := Option.some.inj h
    rw [Int.toNat_natCast] at h2
    refine (Literal_any a0 a w (by omega) (by omega) hE).mono ?_
    rintro e w' ⟨rfl, n, rfl⟩
    refine ⟨?_, ⟨rfl, rfl, rfl, Nat.le_refl _, fun _ _ => rfl⟩⟩
    cases hl : lit (a0.data.toList.drop a) with
    | none => rw [hl] at h2; cases h2; rfl
    | some t => rw [hl] at h2; cases h2; rfl
  · cases h
def decl_Entity.f (a0 : ByteArray) : Option (ByteArray × Bool) := if a0.size < 4294967000 then some (bs (ent a0.data.toList).1, (ent a0.data.toList).2) else none
theorem decl_Entity.calls (a0 : ByteArray) (r1 : ByteArray) (r2 : Bool) (w : World) (hE : Env w) (h : decl_Entity.f a0 = some (r1, r2)) :
    Calls Tryd.prog 26 #[.string a0] w fun e w' => e = .returned (.tuple #[.string r1, .bool r2]) ∧ Below w.heap.size w w' := by
  unfold decl_Entity.f at h
  split at h
  · have h2 := Option.some.inj h
    have := Entity_any a0 w (by omega) hE
    simp only [Prod.mk.injEq] at h2
    obtain ⟨rfl, rfl⟩ := h2
    exact this
  · cases h
def eS (e : Ent) : S52 := ⟨bs e.nm, bs e.vl, e.ext⟩
def aS (a : Att) : S58 := ⟨bs a.el, bs a.nm, a.ty, a.has, bs a.vl⟩
theorem repsE (w : World) (B : Nat) (ok : Nat → Prop) : ∀ es : List Ent, Reps (k52.M w B ok) 3 (es.map eS) (cellsE es)
  | [] => Reps.none _ _
  | e :: es => Reps.front (c := [.string (bs e.nm), .string (bs e.vl), .bool e.ext]) (k52_mkM w B ok (eS e)) rfl (repsE w B ok es) rfl
theorem repsA (w : World) (B : Nat) (ok : Nat → Prop) : ∀ l : List Att, Reps (k58.M w B ok) 5 (l.map aS) (cellsA l)
  | [] => Reps.none _ _
  | a :: l => Reps.front (c := [.string (bs a.el), .string (bs a.nm), .int .i64 a.ty, .bool a.has, .string (bs a.vl)]) (k58_mkM w B ok (aS a)) rfl (repsA w B ok l) rfl
def docS (R : DocR) : ByteArray × List S52 × List S58 × Int × Int := (bs R.nm, R.es.map eS, R.al.map aS, R.to, R.code)
def decl_Doctype.f (a0 : ByteArray) (a1 : Int) : Option (ByteArray × List S52 × List S58 × Int × Int) := if a1 = 0 ∧ a0.size < 4294967000 then (doc a0.data.toList).map docS else none
theorem decl_Doctype.calls (a0 : ByteArray) (a1 : Int) (r1 : ByteArray) (r2 : List S52) (r3 : List S58) (r4 r5 : Int) (w : World) (hE : Env w) (h : decl_Doctype.f a0 a1 = some (r1, r2, r3, r4, r5)) :
    Calls Tryd.prog 21 #[.string a0, .int .i64 a1] w fun e w' => ∃ v1 v2 : Value, e = .returned (.tuple #[.agg #[.string r1, v1, v2], .int .i64 r4, .int .i64 r5]) ∧
      Kd.R k52 52 w' w.heap.size (fun _ => True) v1 r2 ∧ Kd.R k58 58 w' w.heap.size (fun _ => True) v2 r3 ∧ Below w.heap.size w w' := by
  unfold decl_Doctype.f at h
  split at h
  · rename_i hc
    obtain ⟨rfl, hs⟩ := hc
    cases hd : doc a0.data.toList with
    | none => rw [hd] at h; cases h
    | some R =>
      rw [hd, Option.map_some] at h
      have h2 := Option.some.inj h
      unfold docS at h2
      simp only [Prod.mk.injEq] at h2
      obtain ⟨rfl, rfl, rfl, rfl, rfl⟩ := h2
      refine (Doctype_any a0 R w (by omega) hE hd).mono ?_
      rintro e w' ⟨ve, va, rfl, hoe, hoa, hb⟩
      refine ⟨ve, va, rfl, ⟨fun _ _ => trivial, cellsE R.es, by rw [List.length_map]; exact hoe, repsE _ _ _ _⟩, ⟨fun _ _ => trivial, cellsA R.al, by rw [List.length_map]; exact hoa, repsA _ _ _ _⟩, hb⟩
  · cases h
end Go.Proofs.YtmjdjpelhhibgaaDoor.Giv
