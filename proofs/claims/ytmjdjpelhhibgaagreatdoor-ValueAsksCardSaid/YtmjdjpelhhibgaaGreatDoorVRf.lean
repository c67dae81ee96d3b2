/- The contracts of the package of references, over the program. -/
import Derived.Test.YtmjdjpelhhibgaaGreatDoorRfMap
import Derived.Deep.QuietTactic
import Derived.BigQuiet
import Derived.BigRegion
import Derived.IntWalk
import Derived.Maps.AppendAt
namespace Go.Proofs.YtmjdjpelhhibgaaGreatDoor.Rf
open Go.RowKit
set_option linter.unusedVariables false

structure Ent where
  nm : ByteArray
  vl : ByteArray
  ext : Bool
def entA (e : Ent) : Value := .agg #[.string e.nm, .string e.vl, .bool e.ext]
def entV (e : Ent) : Value := .iface 26 (entA e)
def fnd (k : ByteArray) (E : List Ent) : Option Ent := E.find? (fun e => decide (e.nm = k))
def Reads (L : List (ByteArray × Value)) (E : List Ent) : Prop := ∀ k, (lk k L 0).map (·.2) = (fnd k E).map entV

/-- Block p is a Refs: the map in block bm, the open names in v, what was spent. -/
structure IsRefs (w : World) (p bm : Nat) (v : Value) (E : List Ent) (op : List ByteArray) (sp : Int) : Prop where
  cells : w.heap[p]? = some (.cells #[.map (some bm), v, .int .i64 sp] 52 (0, 0))
  map : ∃ L, IsMap w bm L ∧ Reads L E
  own : w.ownsRow 0 9 1 v op.length (op.map Value.string)

abbrev emptyS : ByteArray := ⟨#[]⟩
theorem zeroI (w : World) : (zeroValue 20).run Tryz.prog w = .ok .nilIface w := by kernel_rfl

theorem assert_nil (w : World) : (Instr.typeAssert .nilIface 20 26 true).run Tryz.prog w = .ok (.tuple #[.agg #[.string emptyS, .string emptyS, .bool false], .bool false]) w := by kernel_rfl
theorem assert_ent (e : Ent) (w : World) : (Instr.typeAssert (entV e) 20 26 true).run Tryz.prog w = .ok (.tuple #[entA e, .bool true]) w := by
  obtain ⟨a, b, c⟩ := e
  kernel_rfl
theorem cell_of {w : World} {b : Nat} {cs : Array Value} {T : TypeId} {fz : Nat × Nat} (h : w.heap[b]? = some (.cells cs T fz)) (o : Nat) : w.cell? ⟨b, o, none⟩ = cs[o]? := by
  simp [World.cell?, h]
theorem frozen_of {w : World} {b : Nat} {cs : Array Value} {T : TypeId} (h : w.heap[b]? = some (.cells cs T (0, 0))) (o : Nat) : w.frozen? ⟨b, o, none⟩ = false := by
  simp [World.frozen?, h]

theorem entity_nil (nm : ByteArray) (w : World) : Calls Tryz.prog 83 #[.pointer none, .string nm] w fun e w' =>
    e = .returned (.tuple #[.agg #[.string emptyS, .string emptyS, .bool false], .int .i64 6]) ∧ Below w.heap.size w w' := by
  go_enter Tryz.func83, Tryz.ntmps83
  go_wp2
  exact bodyPost_ret (v := .tuple #[.agg #[.string emptyS, .string emptyS, .bool false], .int .i64 6]) (by simp [results, Tryz.results83, go_sem]) rfl ⟨rfl, (Below.refl _ _).alloc (Nat.le_refl _) _⟩
def entB (e : Ent) : Value := entA e
/-- The world behind a call of entity: two boxes more. -/
theorem entity_none (p bm : Nat) (v : Value) (E : List Ent) (op : List ByteArray) (sp : Int) (nm : ByteArray) (w : World) (h : IsRefs w p bm v E op sp) (hf : fnd nm E = none) :
    Calls Tryz.prog 83 #[.pointer (some ⟨p, 0, none⟩), .string nm] w fun e w' =>
    e = .returned (.tuple #[.agg #[.string emptyS, .string emptyS, .bool false], .int .i64 6]) ∧ Below w.heap.size w w' := by
  obtain ⟨hc, ⟨L, hm, hR⟩, ho⟩ := h
  have c0 : w.cell? ⟨p, 0, none⟩ = some (.map (some bm)) := cell_of hc 0
  have hlt := (Array.getElem?_eq_some_iff.1 hc).1
  have hl : lk nm L 0 = none := by have := hR nm; rw [hf] at this; simpa using this
  have hm2 : ∀ o, IsMap (w.alloc o) bm L := fun o => hm.of_block (heap_alloc_old w o (Array.getElem?_eq_some_iff.1 hm.choose_spec.choose_spec.1).1)
  have hrun : ∀ o, (Instr.lookup 50 (.map (some bm)) (.string nm) false).run Tryz.prog (w.alloc o) = .ok .nilIface (w.alloc o) := fun o => look_none (P := Tryz.prog) (t := 50) (key := 9) (elem := 20) Tryz.underlying50 Tryz.underlying9 (zeroI _) (hm2 o) hl false
  have hass := assert_nil
  clear hf hR hl hc
  go_enter Tryz.func83, Tryz.ntmps83
  go_wp2
  exact bodyPost_ret (v := .tuple #[.agg #[.string emptyS, .string emptyS, .bool false], .int .i64 6]) (by simp [results, Tryz.results83, go_sem]) rfl ⟨rfl, ((Below.refl _ _).alloc (Nat.le_refl _) _).alloc (by simp) _⟩
theorem entity_some (p bm : Nat) (v : Value) (E : List Ent) (op : List ByteArray) (sp : Int) (nm : ByteArray) (w : World) (h : IsRefs w p bm v E op sp) (n x : ByteArray) (b : Bool) (hf : fnd nm E = some ⟨n, x, b⟩) :
    Calls Tryz.prog 83 #[.pointer (some ⟨p, 0, none⟩), .string nm] w fun e w' =>
    e = .returned (.tuple #[.agg #[.string n, .string x, .bool b], .int .i64 (if b then 5 else 0)]) ∧ Below w.heap.size w w' := by
  obtain ⟨hc, ⟨L, hm, hR⟩, ho⟩ := h
  have c0 : w.cell? ⟨p, 0, none⟩ = some (.map (some bm)) := cell_of hc 0
  have hlt := (Array.getElem?_eq_some_iff.1 hc).1
  obtain ⟨j, hl⟩ : ∃ j, lk nm L 0 = some (j, entV ⟨n, x, b⟩) := by
    have := hR nm; rw [hf] at this
    cases hk : lk nm L 0 with
    | none => rw [hk] at this; cases this
    | some q => rw [hk] at this; exact ⟨q.1, by rw [← Option.some.inj this]⟩
  have hm2 : ∀ o, IsMap (w.alloc o) bm L := fun o => hm.of_block (heap_alloc_old w o (Array.getElem?_eq_some_iff.1 hm.choose_spec.choose_spec.1).1)
  have hrun : ∀ o, (Instr.lookup 50 (.map (some bm)) (.string nm) false).run Tryz.prog (w.alloc o) = .ok (entV ⟨n, x, b⟩) (w.alloc o) := fun o => look_some (P := Tryz.prog) (t := 50) (key := 9) (elem := 20) Tryz.underlying50 Tryz.underlying9 (hm2 o) hl false
  have hass := assert_ent ⟨n, x, b⟩
  unfold entA at hass
  clear hf hR hl hc
  cases b
  all_goals
    go_enter Tryz.func83, Tryz.ntmps83
    go_wp2
    exact bodyPost_ret (v := .tuple #[.agg #[.string n, .string x, .bool _], .int .i64 _]) (by simp [results, Tryz.results83, go_sem]) rfl ⟨rfl, ((Below.refl _ _).alloc (Nat.le_refl _) _).alloc (by simp) _⟩
def fiveR (s : ByteArray) : ByteArray × Bool :=
  if s.toList = [108, 116] then (⟨#[60]⟩, true) else if s.toList = [103, 116] then (⟨#[62]⟩, true) else if s.toList = [97, 109, 112] then (⟨#[38]⟩, true)
  else if s.toList = [97, 112, 111, 115] then (⟨#[39]⟩, true) else if s.toList = [113, 117, 111, 116] then (⟨#[34]⟩, true) else (⟨#[]⟩, false)
theorem five_any (s : ByteArray) (w : World) : Calls Tryz.prog 57 #[.string s] w fun e w' => e = .returned (.tuple #[.string (fiveR s).1, .bool (fiveR s).2]) ∧ w = w' := by
  obtain ⟨R, hR⟩ : ∃ R, fiveR s = R := ⟨_, rfl⟩
  rw [hR]
  have HR := Lib.hid hR
  clear hR
  go_enter Tryz.func57, Tryz.ntmps57
  go_wp2
  all_goals
    go_ret2
    refine ⟨?_, rfl⟩
    rw [← HR.out]
    clear HR
    simp_all [fiveR]
/-- What a step of Refs turns: its own block, its own row of open names, new blocks. -/
structure Turned (p : Nat) (v v' : Value) (w w' : World) : Prop where
  os : w'.os = w.os
  tape : w'.tape = w.tape
  output : w'.output = w.output
  size : w.heap.size ≤ w'.heap.size
  block : ∀ k, k < w.heap.size → k ≠ p → some k ≠ v.ownBlock → w'.heap[k]? = w.heap[k]?
  own : ∀ k, v'.ownBlock = some k → v.ownBlock = some k ∨ w.heap.size ≤ k
theorem Turned.of_below {p : Nat} {v : Value} {w w' : World} (h : Below w.heap.size w w') : Turned p v v w w' := ⟨h.os, h.tape, h.output, h.size, fun k hk _ _ => h.block k hk, fun k hk => .inl hk⟩
theorem Turned.refl {p : Nat} {v : Value} {w : World} : Turned p v v w w := .of_below (Below.refl _ _)
theorem Turned.trans {p : Nat} {v v' v'' : Value} {w w' w'' : World} (h : Turned p v v' w w') (h' : Turned p v' v'' w' w'') : Turned p v v'' w w'' :=
  ⟨h'.os.trans h.os, h'.tape.trans h.tape, h'.output.trans h.output, Nat.le_trans h.size h'.size,
   fun k hk hp ho => (h'.block k (Nat.lt_of_lt_of_le hk h.size) hp (fun e => by rcases h.own k e.symm with h1 | h1; exact ho h1.symm; omega)).trans (h.block k hk hp ho),
   fun k hk => by rcases h'.own k hk with h1 | h1; exact h.own k h1; exact .inr (Nat.le_trans h.size h1)⟩
theorem Turned.below {p B : Nat} {v v' : Value} {w w' : World} (h : Turned p v v' w w') (hB : B ≤ w.heap.size) (hp : B ≤ p) (hv : ∀ k, v.ownBlock = some k → B ≤ k) : Below B w w' :=
  ⟨h.os, h.tape, h.output, h.size, fun k hk => h.block k (by omega) (by omega) (fun e => by have := hv k e.symm; omega)⟩
theorem IsRefs.below {w w' : World} {p bm : Nat} {v : Value} {E : List Ent} {op : List ByteArray} {sp : Int} (h : IsRefs w p bm v E op sp) (hb : Below w.heap.size w w') : IsRefs w' p bm v E op sp := by
  obtain ⟨hc, ⟨L, hm, hR⟩, ho⟩ := h
  refine ⟨(hb.block p (Array.getElem?_eq_some_iff.1 hc).1).trans hc, ⟨L, hm.of_block (hb.block bm ?_), hR⟩, ho.kept (row := none) ⟨hb.os, hb.tape, hb.output, hb.size, fun k hk _ => hb.block k hk⟩ ?_⟩
  · obtain ⟨es, cl, h1, _⟩ := hm
    exact (Array.getElem?_eq_some_iff.1 h1).1
  · cases v.ownBlock <;> simp
def spendOk (n most sp : Int) : Bool := decide (sp ≤ most) && decide (max n 0 ≤ most - sp)
theorem IsRefs.lt {w : World} {p bm : Nat} {v : Value} {E : List Ent} {op : List ByteArray} {sp : Int} (h : IsRefs w p bm v E op sp) : p < w.heap.size := (Array.getElem?_eq_some_iff.1 h.cells).1
theorem IsRefs.spent {w : World} {p bm : Nat} {v : Value} {E : List Ent} {op : List ByteArray} {sp : Int} (h : IsRefs w p bm v E op sp) (x : Int) :
    IsRefs (w.setCell ⟨p, 2, none⟩ (.int .i64 x)) p bm v E op x ∧ Turned p v v w (w.setCell ⟨p, 2, none⟩ (.int .i64 x)) := by
  have hb : ∀ k, k ≠ p → (w.setCell ⟨p, 2, none⟩ (.int .i64 x)).heap[k]? = w.heap[k]? := fun k hk => Below.heap_setCell _ _ _ _ hk
  obtain ⟨hc, ⟨L, hm, hR⟩, ho⟩ := h
  have hpm : bm ≠ p := by
    intro e
    obtain ⟨es, cl, h1, _⟩ := hm
    rw [e, hc] at h1
    cases h1
  have hpo : v.ownBlock ≠ some p := by
    intro e
    rcases ho.2 with ⟨rfl, _⟩ | ⟨g, cap, cur, rfl, _, hg, _⟩
    · cases e
    · have : g = p := by simpa [Value.ownBlock] using e
      rw [this, hc] at hg
      simp at hg
  refine ⟨⟨?_, ⟨L, hm.of_block (hb bm hpm), hR⟩, ?_⟩, ⟨rfl, rfl, rfl, by simp [World.setCell], fun k hk h1 h2 => hb k h1, fun k hk => .inl hk⟩⟩
  · simp only [World.setCell, Array.getElem?_modify, hc]
    simp
  · refine ⟨ho.1, ?_⟩
    rcases ho.2 with h1 | ⟨g, cap, cur, h1, h2, hg, h3⟩
    · exact .inl h1
    · refine .inr ⟨g, cap, cur, h1, h2, ?_, h3⟩
      rw [hb g (by intro e; apply hpo; rw [h1, e]; rfl)]
      exact hg
theorem spend_any (p bm : Nat) (v : Value) (E : List Ent) (op : List ByteArray) (sp n most : Int) (w : World) (h : IsRefs w p bm v E op sp) (h0 : 0 ≤ sp) (h1 : sp ≤ 9223372036854775807)
    (hn0 : -9223372036854775808 ≤ n) (hn1 : n ≤ 9223372036854775807) (hm0 : -9223372036854775808 ≤ most) (hm1 : most ≤ 9223372036854775807) :
    Calls Tryz.prog 85 #[.pointer (some ⟨p, 0, none⟩), .int .i64 n, .int .i64 most] w fun e w' =>
    e = .returned (.int .i64 (if spendOk n most sp then 0 else 3)) ∧ IsRefs w' p bm v E op (if spendOk n most sp then sp + max n 0 else sp) ∧ Turned p v v w w' := by
  have hs := fun x => h.spent x
  have hI := h
  have hlt := h.lt
  have c2 : w.cell? ⟨p, 2, none⟩ = some (.int .i64 sp) := cell_of h.cells 2
  have f2 := frozen_of h.cells 2
  clear h
  by_cases hn : n < 0
  · have hm : max n 0 = 0 := by omega
    by_cases c1 : sp ≤ most
    · have hok : spendOk n most sp = true := by unfold spendOk; rw [hm]; simp; omega
      obtain ⟨hs1, hs2⟩ := hs sp
      rw [hok, if_pos rfl, if_pos rfl, hm, Int.add_zero]
      clear hm hok hs
      go_enter Tryz.func85, Tryz.ntmps85
      go_wp2
      all_goals first | (exfalso; omega) | (go_ret; exact ⟨rfl, hs1, hs2⟩)
    · have hok : spendOk n most sp = false := by unfold spendOk; simp; omega
      rw [hok, if_neg (by decide), if_neg (by decide)]
      clear hm hok hs
      go_enter Tryz.func85, Tryz.ntmps85
      go_wp2
      all_goals first | (exfalso; omega) | (go_ret; exact ⟨rfl, hI, Turned.refl⟩)
  · have hm : max n 0 = n := by omega
    by_cases c1 : sp ≤ most ∧ n ≤ most - sp
    · have hok : spendOk n most sp = true := by unfold spendOk; rw [hm]; simp; exact c1
      obtain ⟨c1, c2⟩ := c1
      obtain ⟨hs1, hs2⟩ := hs (sp + n)
      rw [hok, if_pos rfl, if_pos rfl, hm]
      clear hm hok hs
      go_enter Tryz.func85, Tryz.ntmps85
      go_wp2
      all_goals first | (exfalso; omega) | (go_ret; exact ⟨rfl, hs1, hs2⟩)
    · have hok : spendOk n most sp = false := by unfold spendOk; rw [hm]; simp; omega
      rw [hok, if_neg (by decide), if_neg (by decide)]
      clear hm hok hs
      go_enter Tryz.func85, Tryz.ntmps85
      by_cases c2 : sp ≤ most
      · have c3 : most - sp < n := by omega
        go_wp2
        all_goals first | (exfalso; omega) | (go_ret; exact ⟨rfl, hI, Turned.refl⟩)
      · go_wp2
        all_goals first | (exfalso; omega) | (go_ret; exact ⟨rfl, hI, Turned.refl⟩)
/-! ### whether a name is among the open ones -/
def memB (k : ByteArray) (xs : List ByteArray) : Bool := xs.any fun x => decide (x = k)
theorem memB_iff (k : ByteArray) (xs : List ByteArray) : memB k xs = true ↔ k ∈ xs := by simp [memB]
theorem bytes_ne {x y : ByteArray} (h : x ≠ y) : (x.toList == y.toList) = false := by
  cases hb : (x.toList == y.toList) with
  | false => rfl
  | true => rw [beq_iff_eq, ByteArray.toList_eq, ByteArray.toList_eq] at hb; exact absurd (ByteArray.ext (Array.toList_inj.mp hb)) h
def IdxP (k : ByteArray) (xs : List ByteArray) (w : World) (e : Ending) (w' : World) : Prop := ∃ n : Int, e = .returned (.int .i64 n) ∧ (0 ≤ n ↔ k ∈ xs) ∧ n ≤ 4611686018427387904 ∧ -1 ≤ n ∧ w = w'
theorem take_mem {k : ByteArray} {xs : List ByteArray} {j : Nat} (hj : j < xs.length) (h : k ∉ xs.take j) (hne : k ≠ xs.getD j ⟨#[]⟩) : k ∉ xs.take (j + 1) := by
  rw [List.take_succ_eq_append_getElem hj]
  simp only [List.mem_append, List.mem_singleton, not_or]
  refine ⟨h, ?_⟩
  simpa [List.getD, hj] using hne
theorem index_any (g cap : Nat) (xs : List ByteArray) (k : ByteArray) (w : World) (hl : xs.length ≤ 4611686018427387904) (hc : ∀ i, i < xs.length → w.cell? ⟨g, i, none⟩ = some (.string (xs.getD i ⟨#[]⟩))) :
    Calls Tryz.prog 103 #[.slice (some ⟨g, 0, none⟩) xs.length cap, .string k] w (IdxP k xs w) := by
  obtain ⟨n, hn⟩ : ∃ n, xs.length = n := ⟨_, rfl⟩
  rw [hn]
  rw [hn] at hl hc
  have HN := Lib.hid hn
  clear hn
  go_enter Tryz.func103, Tryz.ntmps103
  go_wp2
  go_loop [8] (fun i => ∃ j : Nat, j ≤ n ∧ i = .int .i64 j ∧ Hid (k ∉ xs.take j)) (fun i => n - (intOf i).toNat)
  case atStart => exact ⟨0, by omega, rfl, (by simp : k ∉ xs.take 0)⟩
  case round =>
    obtain ⟨j, hj, rfl, hm⟩ := hrel
    by_cases hlt : j < n
    · have hcell := hc j hlt
      have hj2 : j < xs.length := by have := HN.out; omega
      by_cases heq : k = xs.getD j ⟨#[]⟩
      · have hin : k ∈ xs := by rw [heq]; simp only [List.getD, List.getElem?_eq_getElem hj2]; exact List.getElem_mem hj2
        have HIN := Lib.hid hin
        rw [← heq] at hcell
        clear heq hc hin hm
        go_wp2
        go_ret
        exact ⟨_, rfl, ⟨fun _ => HIN.out, fun _ => by omega⟩, by omega, by omega, rfl⟩
      · have HM : Hid (k ∉ xs.take (j + 1)) := take_mem hj2 hm.out heq
        have hb : (k.toList == (xs.getD j ⟨#[]⟩).toList) = false := bytes_ne heq
        obtain ⟨y, hy⟩ : ∃ y, y = xs.getD j ⟨#[]⟩ := ⟨_, rfl⟩
        rw [← hy] at hcell hb
        clear heq hc hm hy
        go_wp2
        go_round
        case rel => exact ⟨j + 1, by omega, by go_num, HM⟩
        case measure => simp [intOf]; omega
    · obtain rfl : j = n := by omega
      have hm2 : Hid (k ∉ xs) := by have := hm.out; rwa [← HN.out, List.take_length] at this
      clear hm hc
      go_wp2
      go_ret
      exact ⟨_, rfl, ⟨fun h => by omega, fun h => absurd h hm2.out⟩, by omega, by omega, rfl⟩
theorem index_nil (k : ByteArray) (w : World) : Calls Tryz.prog 103 #[.slice none 0 0, .string k] w (IdxP k [] w) := by
  go_enter Tryz.func103, Tryz.ntmps103
  go_wp2
  go_loop [8] (fun i => i = .int .i64 0) (fun i => 0)
  case atStart => exact rfl
  case round =>
    obtain rfl := hrel
    go_wp2
    go_ret
    exact ⟨_, rfl, ⟨fun h => by omega, fun h => by simp at h⟩, by omega, by omega, rfl⟩
theorem row_cells {w : World} {v : Value} {xs : List ByteArray} (h : w.ownsRow 0 9 1 v xs.length (xs.map Value.string)) :
    (v = .slice none 0 0 ∧ xs = []) ∨ ∃ g cap, v = .slice (some ⟨g, 0, none⟩) xs.length cap ∧ xs.length ≤ cap ∧ cap ≤ maxLen ∧ ∀ i, i < xs.length → w.cell? ⟨g, i, none⟩ = some (.string (xs.getD i ⟨#[]⟩)) := by
  rcases h.2 with ⟨h1, h2⟩ | ⟨g, cap, cur, rfl, _, hg, h3, h4, h5, h6⟩
  · exact .inl ⟨h1, List.length_eq_zero_iff.1 h2⟩
  · refine .inr ⟨g, cap, rfl, h3, h4, fun i hi => ?_⟩
    have hk := h.cells (g := g) rfl i (.string (xs.getD i ⟨#[]⟩)) (by simp [List.getD, hi])
    have ha : (⟨g, 0, none⟩ : Addr).add i = ⟨g, i, none⟩ := by unfold Addr.add; split <;> simp_all
    rwa [ha] at hk
theorem index_row (v : Value) (xs : List ByteArray) (k : ByteArray) (w : World) (hl : xs.length ≤ 4611686018427387904) (h : w.ownsRow 0 9 1 v xs.length (xs.map Value.string)) :
    Calls Tryz.prog 103 #[v, .string k] w (IdxP k xs w) := by
  rcases row_cells h with ⟨rfl, rfl⟩ | ⟨g, cap, rfl, _, _, hc⟩
  · exact index_nil k w
  · exact index_any g cap xs k w hl hc
theorem contains_any (v : Value) (xs : List ByteArray) (k : ByteArray) (w : World) (hl : xs.length ≤ 4611686018427387904) (h : w.ownsRow 0 9 1 v xs.length (xs.map Value.string)) (b : Bool) (hb : memB k xs = b) :
    Calls Tryz.prog 84 #[v, .string k] w fun e w' => e = .returned (.bool b) ∧ w = w' := by
  have HB := Lib.hid hb
  clear hb
  have H := index_row v xs k w hl h
  clear h hl
  go_enter Tryz.func84, Tryz.ntmps84
  go_wp2_with (go_at_call 103; refine H.mono ?_; rintro e w' ⟨n, rfl, hn, hn1, hn2, rfl⟩; clear H)
  go_ret
  refine ⟨?_, rfl⟩
  have h2 := HB.out
  clear HB
  subst h2
  have : decide (0 ≤ n) = memB k xs := by rw [Bool.eq_iff_iff, decide_eq_true_iff, memB_iff]; exact hn
  simp [this]
/-! ### Spent, Depth -/
theorem spent_any (p bm : Nat) (v : Value) (E : List Ent) (op : List ByteArray) (sp : Int) (w : World) (h : IsRefs w p bm v E op sp) :
    Calls Tryz.prog 19 #[.pointer (some ⟨p, 0, none⟩)] w fun e w' => e = .returned (.int .i64 sp) ∧ w = w' := by
  have c2 : w.cell? ⟨p, 2, none⟩ = some (.int .i64 sp) := cell_of h.cells 2
  clear h
  go_enter Tryz.func19, Tryz.ntmps19
  go_wp2
  go_ret
  exact ⟨rfl, rfl⟩
theorem spent_nil (w : World) : Calls Tryz.prog 19 #[.pointer none] w fun e w' => e = .returned (.int .i64 0) ∧ w = w' := by
  go_enter Tryz.func19, Tryz.ntmps19
  go_wp2
  go_ret
  exact ⟨rfl, rfl⟩
theorem depth_any (p bm : Nat) (v : Value) (E : List Ent) (op : List ByteArray) (sp : Int) (w : World) (h : IsRefs w p bm v E op sp) :
    Calls Tryz.prog 20 #[.pointer (some ⟨p, 0, none⟩)] w fun e w' => e = .returned (.int .i64 op.length) ∧ w = w' := by
  have c1 : w.cell? ⟨p, 1, none⟩ = some v := cell_of h.cells 1
  rcases row_cells h.own with ⟨rfl, rfl⟩ | ⟨g, cap, rfl, _, _, _⟩
  all_goals
    clear h
    go_enter Tryz.func20, Tryz.ntmps20
    go_wp2
    go_ret
    exact ⟨rfl, rfl⟩
/-! ### Get -/
/-! ### Close -/
theorem IsRefs.drewN {w : World} {p bm : Nat} {v : Value} {E : List Ent} {op : List ByteArray} {sp : Int} (h : IsRefs w p bm v E op sp) (n : Nat) : IsRefs (w.drewN n) p bm v E op sp := ⟨h.cells, h.map, h.own⟩
theorem Turned.drewN {p : Nat} {v v' : Value} {w w' : World} (h : Turned p v v' w w') (n : Nat) : Turned p v v' w (w'.drewN n) := ⟨h.os, h.tape, h.output, h.size, h.block, h.own⟩
theorem Turned.undrew {p : Nat} {v v' : Value} {w w' : World} {n : Nat} (h : Turned p v v' (w.drewN n) w') : Turned p v v' w w' := ⟨h.os, h.tape, h.output, h.size, h.block, h.own⟩
theorem close_empty (p bm : Nat) (v : Value) (E : List Ent) (sp : Int) (nm : ByteArray) (w : World) (h : IsRefs w p bm v E [] sp) :
    Calls Tryz.prog 60 #[.pointer (some ⟨p, 0, none⟩), .string nm] w fun e w' => e = .returned (.bool false) ∧ IsRefs w' p bm v E [] sp ∧ Turned p v v w w' := by
  have hI := h
  have c1 : w.cell? ⟨p, 1, none⟩ = some v := cell_of h.cells 1
  have ho : (∃ A cap, v = .slice A 0 cap) := by
    rcases row_cells h.own with ⟨rfl, _⟩ | ⟨g, cap, rfl, _, _, _⟩
    · exact ⟨_, _, rfl⟩
    · exact ⟨_, _, rfl⟩
  obtain ⟨A, cap, rfl⟩ := ho
  clear h
  go_enter Tryz.func60, Tryz.ntmps60
  go_wp2
  go_quiet (fail)
  go_wp2
  go_ret
  exact ⟨rfl, hI.drewN _, Turned.refl.drewN _⟩
theorem len_snoc (ys : List ByteArray) (z : ByteArray) : (ys ++ [z]).length = ys.length + 1 := by simp
theorem close_no (p bm : Nat) (v : Value) (E : List Ent) (ys : List ByteArray) (z : ByteArray) (sp : Int) (nm : ByteArray) (w : World) (h : IsRefs w p bm v E (ys ++ [z]) sp) (hl : ys.length ≤ 4611686018427387903) (hno : z ≠ nm) :
    Calls Tryz.prog 60 #[.pointer (some ⟨p, 0, none⟩), .string nm] w fun e w' => e = .returned (.bool false) ∧ IsRefs w' p bm v E (ys ++ [z]) sp ∧ Turned p v v w w' := by
  have hI := h
  have c1 : w.cell? ⟨p, 1, none⟩ = some v := cell_of h.cells 1
  rcases row_cells h.own with ⟨rfl, h2⟩ | ⟨g, cap, rfl, hle, hcm, hc⟩
  · simp at h2
  · have hcz : w.cell? ⟨g, ys.length, none⟩ = some (.string z) := by
      have := hc ys.length (by simp)
      simpa [List.getD] using this
    rw [len_snoc] at c1 hle hI
    clear h hc
    rw [len_snoc]
    generalize ys.length = n at hl c1 hle hcz hI
    have hb : (z.toList == nm.toList) = false := bytes_ne hno
    have hb2 : (z.toList != nm.toList) = true := by simp [bne, hb]
    clear hno
    go_enter Tryz.func60, Tryz.ntmps60
    go_wp2
    have hz : (((n : Int) + 1) == 0) = false := by rw [beq_eq_false_iff_ne]; omega
    have hw : IntKind.i64.wrap (n : Int) = n := IntWalk.i64_in _ (by omega)
    have h0 : (0 : Int) ≤ (n : Int) := by omega
    have ht : ((n : Int)).toNat = n := by omega
    have hi : (n : Int) < (n : Int) + 1 := by omega
    go_quiet (fail)
    go_wp2
    go_ret
    exact ⟨rfl, hI.drewN _, Turned.refl.drewN _⟩
theorem IsRefs.not_own {w : World} {p bm : Nat} {v : Value} {E : List Ent} {op : List ByteArray} {sp : Int} (h : IsRefs w p bm v E op sp) : bm ≠ p ∧ v.ownBlock ≠ some p := by
  obtain ⟨hc, ⟨L, hm, hR⟩, ho⟩ := h
  constructor
  · intro e
    obtain ⟨es, cl, h1, _⟩ := hm
    rw [e, hc] at h1
    cases h1
  · intro e
    rcases ho.2 with ⟨rfl, _⟩ | ⟨g, cap, cur, rfl, _, hg, _⟩
    · cases e
    · have : g = p := by simpa [Value.ownBlock] using e
      rw [this, hc] at hg
      simp at hg
theorem IsRefs.popped {w : World} {p bm g cap : Nat} {E : List Ent} {ys : List ByteArray} {z : ByteArray} {sp : Int} (h : IsRefs w p bm (.slice (some ⟨g, 0, none⟩) (ys.length + 1) cap) E (ys ++ [z]) sp) :
    IsRefs (w.setCell ⟨p, 1, none⟩ (.slice (some ⟨g, 0, none⟩) ys.length cap)) p bm (.slice (some ⟨g, 0, none⟩) ys.length cap) E ys sp ∧
    Turned p (.slice (some ⟨g, 0, none⟩) (ys.length + 1) cap) (.slice (some ⟨g, 0, none⟩) ys.length cap) w (w.setCell ⟨p, 1, none⟩ (.slice (some ⟨g, 0, none⟩) ys.length cap)) := by
  have hb : ∀ k x, k ≠ p → (w.setCell ⟨p, 1, none⟩ x).heap[k]? = w.heap[k]? := fun k x hk => Below.heap_setCell _ _ _ _ hk
  obtain ⟨hpm, hpo⟩ := h.not_own
  obtain ⟨hc, ⟨L, hm, hR⟩, ho⟩ := h
  refine ⟨⟨?_, ⟨L, hm.of_block (hb bm _ hpm), hR⟩, ?_⟩, ⟨rfl, rfl, rfl, by simp [World.setCell], fun k hk h1 h2 => hb k _ h1, fun k hk => .inl hk⟩⟩
  · simp only [World.setCell, Array.getElem?_modify, hc]
    simp
  · refine ⟨by simp, ?_⟩
    rcases ho.2 with ⟨h1, h2⟩ | ⟨g', cap', cur, h1, h2, hg, h3, h4, h5, h6⟩
    · simp at h2
    · simp only [Value.slice.injEq, Option.some.injEq, Addr.mk.injEq, and_true] at h1
      obtain ⟨rfl, _, rfl⟩ := h1
      refine .inr ⟨g, cap, cur, rfl, h2, ?_, by simp at h3; omega, h4, h5, ?_⟩
      · rw [hb g _ (by intro e; apply hpo; rw [e]; rfl)]
        exact hg
      · have := congrArg (List.take (ys.length * 1)) h6
        simp only [List.take_take] at this
        rw [show min (ys.length * 1) ((ys ++ [z]).length * 1) = ys.length * 1 by simp] at this
        rw [this]
        simp
theorem close_yes (p bm : Nat) (v : Value) (E : List Ent) (ys : List ByteArray) (nm : ByteArray) (sp : Int) (w : World) (h : IsRefs w p bm v E (ys ++ [nm]) sp) (hl : ys.length ≤ 4611686018427387903) :
    Calls Tryz.prog 60 #[.pointer (some ⟨p, 0, none⟩), .string nm] w fun e w' => e = .returned (.bool true) ∧ ∃ v', IsRefs w' p bm v' E ys sp ∧ Turned p v v' w w' := by
  have hI := h
  have c1 : w.cell? ⟨p, 1, none⟩ = some v := cell_of h.cells 1
  have f1 := frozen_of h.cells 1
  rcases row_cells h.own with ⟨rfl, h2⟩ | ⟨g, cap, rfl, hle, hcm, hc⟩
  · simp at h2
  · have hcz : w.cell? ⟨g, ys.length, none⟩ = some (.string nm) := by
      have := hc ys.length (by simp)
      simpa [List.getD] using this
    rw [len_snoc] at c1 hle hI
    have hP := fun n => (hI.drewN n).popped
    clear h hc
    rw [len_snoc]
    have HP : Hid (∀ n, IsRefs ((w.drewN n).setCell ⟨p, 1, none⟩ (.slice (some ⟨g, 0, none⟩) ys.length cap)) p bm (.slice (some ⟨g, 0, none⟩) ys.length cap) E ys sp ∧
       Turned p (.slice (some ⟨g, 0, none⟩) (ys.length + 1) cap) (.slice (some ⟨g, 0, none⟩) ys.length cap) (w.drewN n) ((w.drewN n).setCell ⟨p, 1, none⟩ (.slice (some ⟨g, 0, none⟩) ys.length cap))) := hP
    clear hP hI
    generalize ys.length = n at hl c1 hle hcz HP
    have hb : (nm.toList == nm.toList) = true := by simp
    have hb2 : (nm.toList != nm.toList) = false := by simp
    go_enter Tryz.func60, Tryz.ntmps60
    go_wp2
    have hz : (((n : Int) + 1) == 0) = false := by rw [beq_eq_false_iff_ne]; omega
    have hw : IntKind.i64.wrap (n : Int) = n := IntWalk.i64_in _ (by omega)
    have h0 : (0 : Int) ≤ (n : Int) := by omega
    have ht : ((n : Int)).toNat = n := by omega
    have hi : (n : Int) < (n : Int) + 1 := by omega
    go_quiet (fail)
    go_wp2
    go_region
    go_wp2
    go_ret
    obtain ⟨h1, h2⟩ := HP.out (nq + 1)
    exact ⟨rfl, _, h1, h2.undrew⟩
/-! ### Open -/
theorem bcell {W w1 : World} (hb : Below W.heap.size W w1) : (∀ b o, b < W.heap.size → w1.cell? ⟨b, o, none⟩ = W.cell? ⟨b, o, none⟩) ∧ (∀ b o, b < W.heap.size → w1.frozen? ⟨b, o, none⟩ = W.frozen? ⟨b, o, none⟩) :=
  ⟨fun b o h => hb.cell (p := ⟨b, o, none⟩) h, fun b o h => hb.frozen (p := ⟨b, o, none⟩) h⟩
def entR (E : List Ent) (nm : ByteArray) : ByteArray × ByteArray × Bool × Int :=
  match fnd nm E with
  | none => (⟨#[]⟩, ⟨#[]⟩, false, 6)
  | some e => (e.nm, e.vl, e.ext, if e.ext then 5 else 0)
theorem entity_any (p bm : Nat) (v : Value) (E : List Ent) (op : List ByteArray) (sp : Int) (nm : ByteArray) (w : World) (h : IsRefs w p bm v E op sp) :
    Calls Tryz.prog 83 #[.pointer (some ⟨p, 0, none⟩), .string nm] w fun e w' =>
    e = .returned (.tuple #[.agg #[.string (entR E nm).1, .string (entR E nm).2.1, .bool (entR E nm).2.2.1], .int .i64 (entR E nm).2.2.2]) ∧ Below w.heap.size w w' := by
  unfold entR
  cases hf : fnd nm E with
  | none => exact entity_none p bm v E op sp nm w h hf
  | some e => obtain ⟨n, x, b⟩ := e; exact entity_some p bm v E op sp nm w h n x b hf
/-- What Open answers: 0: it is opened. -/
def openC (E : List Ent) (op : List ByteArray) (sp : Int) (nm : ByteArray) (most : Int) : Int :=
  if (fiveR nm).2 then 6 else if (entR E nm).2.2.2 ≠ 0 then (entR E nm).2.2.2 else if memB nm op then 1 else if spendOk (entR E nm).2.1.size most sp then 0 else 3
theorem open_nil (nm : ByteArray) (most : Int) (w : World) : Calls Tryz.prog 59 #[.pointer none, .string nm, .int .i64 most] w fun e w' =>
    e = .returned (.tuple #[.string emptyS, .int .i64 6]) ∧ Below w.heap.size w w' := by
  have HE := entity_nil nm w
  cases h5 : (fiveR nm).2 with
  | _ =>
    have H5 := five_any nm
    rw [h5] at H5
    clear h5
    go_enter Tryz.func59, Tryz.ntmps59
    go_wp2_with (first | (go_at_call 57; refine (H5 _).mono ?_; rintro e w' ⟨rfl, rfl⟩) | (go_at_call 83; refine HE.mono ?_; rintro e w' ⟨rfl, hb⟩))
    go_ret2
    exact ⟨rfl, hb.alloc hb.size _⟩
theorem open_fail (p bm : Nat) (v : Value) (E : List Ent) (op : List ByteArray) (sp : Int) (nm : ByteArray) (most : Int) (w : World) (h : IsRefs w p bm v E op sp) (hl : op.length ≤ 4611686018427387904) (h0 : 0 ≤ sp) (h1 : sp ≤ 9223372036854775807)
    (hm0 : -9223372036854775808 ≤ most) (hm1 : most ≤ 9223372036854775807) (hsz : (entR E nm).2.1.size ≤ 4611686018427387904) (c : Int) (hc : openC E op sp nm most = c) (hc0 : c ≠ 0) :
    Calls Tryz.prog 59 #[.pointer (some ⟨p, 0, none⟩), .string nm, .int .i64 most] w fun e w' =>
    e = .returned (.tuple #[.string emptyS, .int .i64 c]) ∧ IsRefs w' p bm v E op sp ∧ Turned p v v w w' := by
  have HE := entity_any p bm v E op sp nm w h
  have H5 := five_any nm
  unfold openC at hc
  generalize entR E nm = R at HE hc hsz
  obtain ⟨rn, rv, rx, rc⟩ := R
  simp only at HE hc hsz
  by_cases h5 : (fiveR nm).2 = true
  · rw [h5] at H5 hc
    rw [if_pos rfl] at hc
    subst hc
    have HI : ∀ w', Below w.heap.size w w' → IsRefs w' p bm v E op sp := fun w' hb => h.below hb
    clear h5 hc0 h
    go_enter Tryz.func59, Tryz.ntmps59
    go_wp2_with (first | (go_at_call 57; refine (H5 _).mono ?_; rintro e w' ⟨rfl, rfl⟩) | (go_at_call 83; refine HE.mono ?_; rintro e w' ⟨rfl, hb⟩))
    go_ret2
    exact ⟨rfl, HI _ (hb.alloc hb.size _), Turned.of_below (hb.alloc hb.size _)⟩
  · have h5 : (fiveR nm).2 = false := by cases h : (fiveR nm).2 with | false => rfl | true => exact absurd h h5
    rw [h5] at H5 hc
    rw [if_neg (by decide)] at hc
    have HI : ∀ w', Below w.heap.size w w' → IsRefs w' p bm v E op sp := fun w' hb => h.below hb
    have c1 : w.cell? ⟨p, 1, none⟩ = some v := cell_of h.cells 1
    have hlt := h.lt
    clear h5 h
    by_cases hr : rc = 0
    · rw [if_neg (by simp [hr])] at hc
      subst hr
      cases hmem : memB nm op with
      | true =>
        rw [hmem, if_pos rfl] at hc
        have HM := Lib.hid hmem
        subst hc
        clear hc0 hmem
        go_enter Tryz.func59, Tryz.ntmps59
        go_wp2_with (first | (go_at_call 57; refine (H5 _).mono ?_; rintro e w' ⟨rfl, rfl⟩) | (go_at_call 83; refine HE.mono ?_; rintro e w' ⟨rfl, hb⟩; obtain ⟨hcc, hff⟩ := bcell hb; have hsz2 := hb.size; have hp2 : p < w'.heap.size := Nat.lt_of_lt_of_le hlt hb.size) | (go_at_call 84; refine (contains_any _ _ _ _ hl (HI _ (hb.alloc hb.size _)).own _ HM.out).mono ?_; rintro e w' ⟨rfl, rfl⟩))
        go_ret2
        exact ⟨rfl, HI _ (hb.alloc hb.size _), Turned.of_below (hb.alloc hb.size _)⟩
      | false =>
        rw [hmem, if_neg (by decide)] at hc
        cases hsp : spendOk rv.size most sp with
        | true => rw [hsp, if_pos rfl] at hc; exact absurd hc.symm hc0
        | false =>
          rw [hsp, if_neg (by decide)] at hc
          have HM := Lib.hid hmem
          subst hc
          have HS := fun W (hI : IsRefs W p bm v E op sp) => spend_any p bm v E op sp rv.size most W hI h0 h1 (by omega) (by omega) hm0 hm1
          rw [hsp] at HS
          simp only [Bool.false_eq_true, if_false] at HS
          clear hc0 hmem hsp
          go_enter Tryz.func59, Tryz.ntmps59
          go_wp2_with (first | (go_at_call 57; refine (H5 _).mono ?_; rintro e w' ⟨rfl, rfl⟩) | (go_at_call 83; refine HE.mono ?_; rintro e w' ⟨rfl, hb⟩; obtain ⟨hcc, hff⟩ := bcell hb; have hsz2 := hb.size; have hp2 : p < w'.heap.size := Nat.lt_of_lt_of_le hlt hb.size) | (go_at_call 84; refine (contains_any _ _ _ _ hl (HI _ (hb.alloc hb.size _)).own _ HM.out).mono ?_; rintro e w' ⟨rfl, rfl⟩) | (go_at_call 85; refine (HS _ (HI _ (hb.alloc hb.size _))).mono ?_; rintro e w' ⟨rfl, hI2, hT2⟩))
          go_ret2
          exact ⟨rfl, hI2, (Turned.of_below (hb.alloc hb.size _)).trans hT2⟩
    · rw [if_pos hr] at hc
      subst hc
      have hrb : (rc == 0) = false := by rw [beq_eq_false_iff_ne]; exact hr
      have hrb2 : (rc != 0) = true := by simp [bne, hrb]
      clear hc0 hr
      go_enter Tryz.func59, Tryz.ntmps59
      go_wp2_with (first | (go_at_call 57; refine (H5 _).mono ?_; rintro e w' ⟨rfl, rfl⟩) | (go_at_call 83; refine HE.mono ?_; rintro e w' ⟨rfl, hb⟩; obtain ⟨hcc, hff⟩ := bcell hb; have hsz2 := hb.size; have hp2 : p < w'.heap.size := Nat.lt_of_lt_of_le hlt hb.size))
      go_ret2
      exact ⟨rfl, HI _ (hb.alloc hb.size _), Turned.of_below (hb.alloc hb.size _)⟩
theorem infoS : (Tryz.prog.info? 9).map (fun i => (i.zero, i.size, i.bytes)) = some (some (.string ⟨#[]⟩), 1, 16) := by kernel_rfl
theorem IsRefs.pushed {w w1 : World} {p bm : Nat} {v v' : Value} {E : List Ent} {op : List ByteArray} {sp : Int} {nm : ByteArray} (h : IsRefs w p bm v E op sp) (hg : w.grownBy w1 v.ownBlock) (ho : w1.ownsRow 0 9 1 v' (op.length + 1) (op.map Value.string ++ [.string nm]))
    (hloc : v'.ownBlock = v.ownBlock ∨ ∃ b, v'.ownBlock = some b ∧ w.heap.size ≤ b) :
    IsRefs (w1.setCell ⟨p, 1, none⟩ v') p bm v' E (op ++ [nm]) sp ∧ Turned p v v' w (w1.setCell ⟨p, 1, none⟩ v') := by
  have hb : ∀ k x, k ≠ p → (w1.setCell ⟨p, 1, none⟩ x).heap[k]? = w1.heap[k]? := fun k x hk => Below.heap_setCell _ _ _ _ hk
  obtain ⟨hpm, hpo⟩ := h.not_own
  have hlt := h.lt
  obtain ⟨hc, ⟨L, hm, hR⟩, ho0⟩ := h
  have hmb : bm < w.heap.size := by obtain ⟨es, cl, h1, _⟩ := hm; exact (Array.getElem?_eq_some_iff.1 h1).1
  have hmo : some bm ≠ v.ownBlock := by
    intro e
    obtain ⟨es, cl, h1, _⟩ := hm
    rcases ho0.2 with ⟨rfl, _⟩ | ⟨g, cap, cur, rfl, _, hg, _⟩
    · cases e
    · have : bm = g := by simpa [Value.ownBlock] using e
      rw [← this, h1] at hg
      simp at hg
  have hc1 := (hg.block p hlt (fun e => hpo e.symm)).trans hc
  have hne : v'.ownBlock ≠ some p := by
    intro e
    rcases hloc with h1 | ⟨b, h1, h2⟩
    · exact hpo (h1.symm.trans e)
    · rw [h1] at e; cases e; omega
  refine ⟨⟨?_, ⟨L, hm.of_block ((hb bm _ hpm).trans (hg.block bm hmb hmo)), hR⟩, ?_⟩, ⟨hg.os, hg.tape, hg.output, by simpa [World.setCell] using hg.size, fun k hk h1 h2 => (hb k _ h1).trans (hg.block k hk h2), fun k hk => ?_⟩⟩
  · simp only [World.setCell, Array.getElem?_modify, hc1]
    simp
  · rw [len_snoc, List.map_append]
    refine ⟨ho.1, ?_⟩
    rcases ho.2 with h1 | ⟨g, cap, cur, h1, h2, hg2, h3⟩
    · exact .inl h1
    · refine .inr ⟨g, cap, cur, h1, h2, ?_, h3⟩
      rw [hb g _ (by intro e; apply hne; rw [h1, e]; rfl)]
      exact hg2
  · rcases hloc with h1 | ⟨b, h1, h2⟩
    · exact .inl (h1.symm.trans hk)
    · rw [h1] at hk; cases hk; exact .inr h2
theorem box_kept {wa wb : World} {p : Nat} {v : Value} {cs : Array Value} {T : TypeId} (h : Turned p v v (wa.alloc (.cells cs T)) wb) (hp : p < wa.heap.size) (hv : ∀ k, v.ownBlock = some k → k < wa.heap.size) :
    (∀ o, wb.cell? ⟨wa.heap.size, o, none⟩ = cs[o]?) ∧ wa.heap.size < wb.heap.size := by
  have hs := h.size
  have hb := h.block wa.heap.size (by simp) (by omega) (fun e => by have := hv _ e.symm; omega)
  rw [heap_alloc_new] at hb
  exact ⟨fun o => cell_of hb o, by simp at hs; omega⟩
theorem own_shape {w : World} {v : Value} {n : Nat} {xs : List Value} (h : w.ownsRow 0 9 1 v (n + 1) xs) : ∃ g cap, v = .slice (some ⟨g, 0, none⟩) (n + 1) cap := by
  rcases h.2 with ⟨_, h⟩ | ⟨g, cap, _, h, _⟩
  · omega
  · exact ⟨g, cap, h⟩
theorem push_kept {wb w1 : World} {p bm b : Nat} {v : Value} {E : List Ent} {op : List ByteArray} {sp : Int} {o : Obj} {cs : Array Value} (h : IsRefs wb p bm v E op sp) (hg : (wb.alloc o).grownBy w1 v.ownBlock) (hbe : ∀ o, wb.cell? ⟨b, o, none⟩ = cs[o]?) (hb : b < wb.heap.size) (hv : ∀ k, v.ownBlock = some k → k < b) :
    w1.cell? ⟨p, 1, none⟩ = some v ∧ w1.frozen? ⟨p, 1, none⟩ = false ∧ (∀ o, w1.cell? ⟨b, o, none⟩ = cs[o]?) ∧ p < w1.heap.size := by
  have hlt := h.lt
  have hsz := hg.size
  have e1 : w1.heap[p]? = wb.heap[p]? := (hg.block p (by simp; omega) (fun e => h.not_own.2 e.symm)).trans (heap_alloc_old _ _ hlt)
  have e2 : w1.heap[b]? = wb.heap[b]? := (hg.block b (by simp; omega) (fun e => by have := hv _ e.symm; omega)).trans (heap_alloc_old _ _ hb)
  refine ⟨(World.cell?_of_block e1).trans (cell_of h.cells 1), (World.frozen?_of_block e1).trans (frozen_of h.cells 1), fun o => (World.cell?_of_block e2).trans (hbe o), ?_⟩
  simp at hsz
  omega
theorem open_ok (p bm : Nat) (v : Value) (E : List Ent) (op : List ByteArray) (sp : Int) (nm : ByteArray) (most : Int) (w : World) (h : IsRefs w p bm v E op sp) (hl : op.length ≤ 1000000000) (h0 : 0 ≤ sp) (h1 : sp ≤ 9223372036854775807)
    (hm0 : -9223372036854775808 ≤ most) (hm1 : most ≤ 9223372036854775807) (hsz : (entR E nm).2.1.size ≤ 4611686018427387904) (hc : openC E op sp nm most = 0) :
    Calls Tryz.prog 59 #[.pointer (some ⟨p, 0, none⟩), .string nm, .int .i64 most] w fun e w' =>
    e = .returned (.tuple #[.string (entR E nm).2.1, .int .i64 0]) ∧ ∃ v', IsRefs w' p bm v' E (op ++ [nm]) (sp + (entR E nm).2.1.size) ∧ Turned p v v' w w' := by
  have HE := entity_any p bm v E op sp nm w h
  have H5 := five_any nm
  unfold openC at hc
  generalize entR E nm = R at HE hc hsz ⊢
  obtain ⟨rn, rv, rx, rc⟩ := R
  simp only at HE hc hsz ⊢
  cases h5 : (fiveR nm).2 with
  | true => rw [h5, if_pos rfl] at hc; cases hc
  | false =>
  rw [h5] at H5 hc
  rw [if_neg (by decide)] at hc
  have HI : ∀ w', Below w.heap.size w w' → IsRefs w' p bm v E op sp := fun w' hb => h.below hb
  have c1 : w.cell? ⟨p, 1, none⟩ = some v := cell_of h.cells 1
  have hlt := h.lt
  by_cases hr : rc = 0
  · rw [if_neg (by simp [hr])] at hc
    subst hr
    cases hmem : memB nm op with
    | true => rw [hmem, if_pos rfl] at hc; cases hc
    | false =>
    rw [hmem, if_neg (by decide)] at hc
    cases hsp : spendOk rv.size most sp with
    | false => rw [hsp, if_neg (by decide)] at hc; cases hc
    | true =>
    have HM := Lib.hid hmem
    have HS := fun W (hI : IsRefs W p bm v E op sp) => spend_any p bm v E op sp rv.size most W hI h0 h1 (by omega) (by omega) hm0 hm1
    rw [hsp] at HS
    simp only [if_true] at HS
    have hmx : max (rv.size : Int) 0 = rv.size := by omega
    rw [hmx] at HS
    obtain ⟨i0, hi, hz0, hz1, hz2⟩ := info_parts infoS
    have hvo : ∀ k, v.ownBlock = some k → k < w.heap.size := fun k hk => (h.own.lt k hk).2
    clear hmem hsp hc h5 hmx h
    go_enter Tryz.func59, Tryz.ntmps59
    go_wp2_with (first | (go_at_call 57; refine (H5 _).mono ?_; rintro e w' ⟨rfl, rfl⟩) | (go_at_call 83; refine HE.mono ?_; rintro e wa ⟨rfl, hb⟩; obtain ⟨hcc, hff⟩ := bcell hb; have hsz2 := hb.size; have hp2 : p < wa.heap.size := Nat.lt_of_lt_of_le hlt hb.size) | (go_at_call 84; refine (contains_any _ _ _ _ (by omega) (HI _ (hb.alloc hb.size _)).own _ HM.out).mono ?_; rintro e w' ⟨rfl, rfl⟩) | (go_at_call 85; refine (HS _ (HI _ (hb.alloc hb.size _))).mono ?_; rintro e wb ⟨rfl, hI2, hT2⟩; have d1 : wb.cell? ⟨p, 1, none⟩ = some v := cell_of hI2.cells 1; have g1 := frozen_of hI2.cells 1; have hp3 := hI2.lt; have hbe := box_kept hT2 hp2 (fun k hk => Nat.lt_of_lt_of_le (hvo k hk) hb.size); obtain ⟨hbe1, hbe2⟩ := hbe) | (at_builtin; refine wpList_append_own_at _ rfl _ _ 39 rfl 0 9 i0 (.string ⟨#[]⟩) 1 16 Tryz.underlying39 hi hz0 hz1 hz2 rfl (by decide) v op.length (op.map Value.string) rfl (hI2.own.alloc _) ⟨wb.heap.size, 0, none⟩ 1 1 [.string nm] rfl rfl (cell_one_new _ _ _) (by intro u hu; simp at hu; subst hu; rfl) (by unfold maxLen; omega) (by omega) (by simp) ?_; intro v' w1 hown' hgrow hnil hloc; obtain ⟨hP1, hP2⟩ := (hI2.below ((Below.refl _ _).alloc (Nat.le_refl _) _)).pushed hgrow hown' (hloc.imp id (fun h => ⟨_, h, Nat.le_refl _⟩)); obtain ⟨k1, k2, k3, k4⟩ := push_kept hI2 hgrow hbe1 hbe2 (fun k hk => Nat.lt_of_lt_of_le (hvo k hk) hb.size); obtain ⟨g, cap, rfl⟩ := own_shape hown'; have k31 : w1.cell? ⟨wa.heap.size, 1, none⟩ = some (.string rv) := k3 1; clear hown' hgrow hnil k3))
    go_ret2
    exact ⟨rfl, _, hP1, (Turned.of_below (hb.alloc hb.size _)).trans (hT2.trans ((Turned.of_below ((Below.refl _ _).alloc (Nat.le_refl _) _)).trans hP2))⟩
  · rw [if_pos hr] at hc
    exact absurd hc hr
/-! ### New -/
theorem lk_app (k a : ByteArray) (v : Value) : ∀ (L : List (ByteArray × Value)) (i : Nat), (lk k (L ++ [(a, v)]) i).map (·.2) = match (lk k L i).map (·.2) with | some x => some x | none => if k = a then some v else none
  | [], i => by by_cases h : k = a <;> simp [lk, h]
  | p :: L, i => by
    simp only [List.cons_append, lk]
    by_cases h : k = p.1
    · simp [h]
    · rw [if_neg h, if_neg h]; exact lk_app k a v L (i + 1)
theorem fnd_app (k : ByteArray) (E : List Ent) (e : Ent) : fnd k (E ++ [e]) = match fnd k E with | some x => some x | none => if e.nm = k then some e else none := by
  unfold fnd
  rw [List.find?_append]
  cases E.find? (fun e => decide (e.nm = k)) with
  | some x => rfl
  | none => by_cases h : e.nm = k <;> simp [h]
theorem reads_keep {L : List (ByteArray × Value)} {E : List Ent} {e : Ent} (h : Reads L E) {x : Nat × Value} (hl : lk e.nm L 0 = some x) : Reads L (E ++ [e]) := by
  intro k
  rw [h k, fnd_app]
  cases hf : fnd k E with
  | some y => rfl
  | none =>
    have hne : e.nm ≠ k := by
      rintro rfl
      have := h e.nm
      rw [hf, hl] at this
      cases this
    simp [hne]
theorem reads_put {L : List (ByteArray × Value)} {E : List Ent} {e : Ent} (h : Reads L E) : Reads (L ++ [(e.nm, entV e)]) (E ++ [e]) := by
  intro k
  rw [lk_app, h k, fnd_app]
  cases hf : fnd k E with
  | some y => rfl
  | none =>
    by_cases hk : k = e.nm
    · simp [hk]
    · simp [hk, show ¬ e.nm = k from fun e => hk e.symm]
/-- A slice of entities, as its cells lie. -/
def RowE (w : World) (A : Option Addr) (E : List Ent) : Prop :=
  ∀ i, i < E.length → ∃ b o, A = some ⟨b, o, none⟩ ∧ b < w.heap.size ∧ w.cell? ⟨b, o + i * 3, none⟩ = some (.string (E.getD i ⟨⟨#[]⟩, ⟨#[]⟩, false⟩).nm) ∧ w.cell? ⟨b, o + i * 3 + 1, none⟩ = some (.string (E.getD i ⟨⟨#[]⟩, ⟨#[]⟩, false⟩).vl) ∧ w.cell? ⟨b, o + i * 3 + 2, none⟩ = some (.bool (E.getD i ⟨⟨#[]⟩, ⟨#[]⟩, false⟩).ext)
def NewR (w : World) (E : List Ent) (k : Nat) (wr : World) : Prop :=
  Below w.heap.size w wr ∧ wr.heap[w.heap.size + 1 + 1]? = some (.cells #[.map (some (w.heap.size + 1)), .slice none 0 0, .int .i64 0] 52 (0, 0)) ∧ ∃ L, IsMap wr (w.heap.size + 1) L ∧ Reads L (E.take k)
theorem new_start (w : World) (E : List Ent) (o : Obj) : NewR w E 0 (((w.alloc o).alloc (.map #[] 0)).alloc (.cells #[.map (some (w.heap.size + 1)), .slice none 0 0, .int .i64 0] 52)) := by
  refine ⟨(((Below.refl _ _).alloc (Nat.le_refl _) _).alloc (by simp) _).alloc (by simp; omega) _, ?_, [], ?_, fun k => by simp [lk, fnd]⟩
  · have := heap_alloc_new ((w.alloc o).alloc (.map #[] 0)) (.cells #[.map (some (w.heap.size + 1)), .slice none 0 0, .int .i64 0] 52)
    simpa using this
  · refine ⟨#[], 0, ?_, rfl⟩
    rw [heap_alloc_old _ _ (by simp)]
    have := heap_alloc_new (w.alloc o) (.map #[] 0)
    simpa using this
theorem new_keep {w wr : World} {E : List Ent} {k j : Nat} {y : Value} {L : List (ByteArray × Value)} {e : Ent} {o : Obj} {nq : Nat} (h : Hid (NewR w E k wr)) (hm : IsMap wr (w.heap.size + 1) L) (hR : Reads L (E.take k)) (hl : lk e.nm L 0 = some (j, y)) (hk : k < E.length) (he : E.getD k ⟨⟨#[]⟩, ⟨#[]⟩, false⟩ = e) :
    Hid (NewR w E (k + 1) ((wr.alloc o).drewN nq)) := by
  obtain ⟨hB, hc, _⟩ := h.out
  have hlt := (Array.getElem?_eq_some_iff.1 hc).1
  have h1 : ∀ i, i < wr.heap.size → ((wr.alloc o).drewN nq).heap[i]? = wr.heap[i]? := fun i hi => heap_alloc_old _ _ hi
  have hb2 : Below w.heap.size w ((wr.alloc o).drewN nq) := by
    have := hB.alloc hB.size o
    exact ⟨this.os, this.tape, this.output, this.size, this.block⟩
  refine ⟨hb2, (h1 _ hlt).trans hc, L, hm.of_block (h1 _ (by omega)), ?_⟩
  have e1 : E.take (k + 1) = E.take k ++ [e] := by
    rw [List.take_succ_eq_append_getElem hk]
    rw [← he]; simp [List.getD, hk]
  rw [e1]
  exact reads_keep hR hl
theorem new_put {w wr : World} {E : List Ent} {k : Nat} {L : List (ByteArray × Value)} {e : Ent} {o o' : Obj} {nq : Nat} (h : Hid (NewR w E k wr)) (hR : Reads L (E.take k)) (hk : k < E.length) (he : E.getD k ⟨⟨#[]⟩, ⟨#[]⟩, false⟩ = e)
    (hm : IsMap (ChangeMaps.setBlock ((wr.alloc o).drewN nq) (w.heap.size + 1) o') (w.heap.size + 1) (L ++ [(e.nm, entV e)])) :
    Hid (NewR w E (k + 1) (ChangeMaps.setBlock ((wr.alloc o).drewN nq) (w.heap.size + 1) o')) := by
  obtain ⟨hB, hc, _⟩ := h.out
  have hlt := (Array.getElem?_eq_some_iff.1 hc).1
  have h1 : ∀ i, i < wr.heap.size → i ≠ w.heap.size + 1 → (ChangeMaps.setBlock ((wr.alloc o).drewN nq) (w.heap.size + 1) o').heap[i]? = wr.heap[i]? := fun i hi hne => by
    show (((wr.alloc o).heap.setIfInBounds (w.heap.size + 1) o')[i]?) = _
    rw [Array.getElem?_setIfInBounds_ne (by omega)]
    exact heap_alloc_old _ _ hi
  have hs := hB.size
  refine ⟨⟨hB.os, hB.tape, hB.output, ?_, fun i hi => (h1 i (by omega) (by omega)).trans (hB.block i hi)⟩, (h1 _ hlt (by omega)).trans hc, _, hm, ?_⟩
  · show w.heap.size ≤ ((wr.alloc o).heap.setIfInBounds (w.heap.size + 1) o').size
    simp; omega
  · have e1 : E.take (k + 1) = E.take k ++ [e] := by
      rw [List.take_succ_eq_append_getElem hk]
      rw [← he]; simp [List.getD, hk]
    rw [e1]
    exact reads_put hR
theorem new_any (d : ByteArray) (A : Option Addr) (cap : Nat) (vAtts : Value) (E : List Ent) (w : World) (hE : RowE w A E) (hl : E.length ≤ 1000000000) :
    Calls Tryz.prog 9 #[.agg #[.string d, .slice A E.length cap, vAtts]] w fun e w' => ∃ p bm, e = .returned (.pointer (some ⟨p, 0, none⟩)) ∧ IsRefs w' p bm (.slice none 0 0) E [] 0 ∧ w.heap.size ≤ p ∧ w.heap.size ≤ bm ∧ Below w.heap.size w w' := by
  have hmm := @run_makeMap Tryz.prog
  obtain ⟨n, hn⟩ : ∃ n, E.length = n := ⟨_, rfl⟩
  rw [hn] at hl ⊢
  have HN := Lib.hid hn
  clear hn
  go_enter Tryz.func9, Tryz.ntmps9
  go_wp2
  go_loopw [14] (fun i wr => ∃ k : Nat, k ≤ n ∧ i = .int .i64 k ∧ Hid (NewR w E k wr)) (fun i _ => n - (intOf i).toNat)
  case atStart => exact ⟨0, by omega, rfl, new_start w E _⟩
  case round =>
    obtain ⟨k, hk, rfl, hR⟩ := hrel
    by_cases hlt : k < n
    · obtain ⟨e, he⟩ : ∃ e, E.getD k ⟨⟨#[]⟩, ⟨#[]⟩, false⟩ = e := ⟨_, rfl⟩
      have hkE : k < E.length := by rw [HN.out]; exact hlt
      obtain ⟨b, o, rfl, hbl, c0, c1, c2⟩ := hE k hkE
      rw [he] at c0 c1 c2
      have hR2 := hR.out
      obtain ⟨hB, hc, L, hm, hRd0⟩ := hR2
      have hRd := Lib.hid hRd0
      clear hRd0
      have hsz := hB.size
      have hb2 : b < wr.heap.size := by omega
      have d0 := (hB.cell (p := ⟨b, o + k * 3, none⟩) hbl).trans c0
      have d1 := (hB.cell (p := ⟨b, o + k * 3 + 1, none⟩) hbl).trans c1
      have d2 := (hB.cell (p := ⟨b, o + k * 3 + 2, none⟩) hbl).trans c2
      have p0 : wr.cell? ⟨w.heap.size + 1 + 1, 0, none⟩ = some (.map (some (w.heap.size + 1))) := cell_of hc 0
      have hpl : w.heap.size + 1 + 1 < wr.heap.size := (Array.getElem?_eq_some_iff.1 hc).1
      clear c0 c1 c2 hB hc hE
      have HE := Lib.hid he
      clear he
      cases hl : lk e.nm L 0 with
      | some x =>
        obtain ⟨j, y⟩ := x
        obtain ⟨W, hW⟩ : ∃ W, W = wr.alloc (.cells #[.string e.nm, .string e.vl, .bool e.ext] 26) := ⟨_, rfl⟩
        have hmW : IsMap W (w.heap.size + 1) L := by rw [hW]; exact hm.of_block (heap_alloc_old _ _ (by omega))
        have hrun : ∀ nq, (Instr.lookup 50 (.map (some (w.heap.size + 1))) (.string e.nm) true).run Tryz.prog (W.drewN nq) = .ok (.tuple #[y, .bool true]) (W.drewN nq) := fun nq => look_some (P := Tryz.prog) (t := 50) (key := 9) (elem := 20) (w := W.drewN nq) Tryz.underlying50 Tryz.underlying9 hmW hl true
        have hrun0 : (Instr.lookup 50 (.map (some (w.heap.size + 1))) (.string e.nm) true).run Tryz.prog W = .ok (.tuple #[y, .bool true]) W := look_some (P := Tryz.prog) (t := 50) (key := 9) (elem := 20) (w := W) Tryz.underlying50 Tryz.underlying9 hmW hl true
        rw [hW] at hrun hrun0
        clear hW hmW
        go_wp2
        go_quiet (fail)
        go_wp2
        go_roundw
        case rel => exact ⟨k + 1, by omega, by go_num, new_keep hR hm hRd.out hl (by rw [HN.out]; exact hlt) HE.out⟩
        case measure => simp [intOf]; omega
      | none =>
        obtain ⟨W, hW⟩ : ∃ W, W = wr.alloc (.cells #[.string e.nm, .string e.vl, .bool e.ext] 26) := ⟨_, rfl⟩
        have hmW : IsMap W (w.heap.size + 1) L := by rw [hW]; exact hm.of_block (heap_alloc_old _ _ (by omega))
        have hrun : ∀ nq, (Instr.lookup 50 (.map (some (w.heap.size + 1))) (.string e.nm) true).run Tryz.prog (W.drewN nq) = .ok (.tuple #[.nilIface, .bool false]) (W.drewN nq) := fun nq => look_none (P := Tryz.prog) (t := 50) (key := 9) (elem := 20) (w := W.drewN nq) Tryz.underlying50 Tryz.underlying9 (zeroI _) hmW hl true
        have hrun0 : (Instr.lookup 50 (.map (some (w.heap.size + 1))) (.string e.nm) true).run Tryz.prog W = .ok (.tuple #[.nilIface, .bool false]) W := look_none (P := Tryz.prog) (t := 50) (key := 9) (elem := 20) (w := W) Tryz.underlying50 Tryz.underlying9 (zeroI _) hmW hl true
        have hput : ∀ nq, ∃ o', (Instr.mapUpdate 50 (.map (some (w.heap.size + 1))) (.string e.nm) (.iface 26 (.agg #[.string e.nm, .string e.vl, .bool e.ext]))).run Tryz.prog (W.drewN nq) = .ok () (ChangeMaps.setBlock (W.drewN nq) (w.heap.size + 1) o') ∧ IsMap (ChangeMaps.setBlock (W.drewN nq) (w.heap.size + 1) o') (w.heap.size + 1) (L ++ [(e.nm, entV e)]) :=
          fun nq => put_new (P := Tryz.prog) (t := 50) (key := 9) (elem := 20) (w := W.drewN nq) Tryz.underlying50 Tryz.underlying9 hmW _ hl
        obtain ⟨o', ho'⟩ := Classical.axiomOfChoice hput
        have hrun2 := fun nq => (ho' nq).1
        have hmap2 : Hid (∀ nq, IsMap (ChangeMaps.setBlock (W.drewN nq) (w.heap.size + 1) (o' nq)) (w.heap.size + 1) (L ++ [(e.nm, entV e)])) := fun nq => (ho' nq).2
        rw [hW] at hrun hrun0 hrun2
        have HW := Lib.hid hW
        clear hW hmW hput ho'
        go_wp2
        go_quiet (fail)
        go_wp2
        go_region
        go_wp2
        go_roundw
        case rel =>
          refine ⟨k + 1, by omega, by go_num, ?_⟩
          have hm3 := hmap2.out (nq + 1)
          rw [HW.out] at hm3
          exact new_put hR hRd.out (by rw [HN.out]; exact hlt) HE.out hm3
        case measure => simp [intOf]; omega
    · obtain rfl : k = n := by omega
      obtain ⟨hB, hc, L, hm, hRd0⟩ := hR.out
      have hRd := Lib.hid hRd0
      clear hRd0 hR hE
      go_wp2
      go_ret
      refine ⟨_, w.heap.size + 1, rfl, ⟨hc, ⟨L, hm, ?_⟩, World.ownsRow_nil _ _ _ _⟩, by omega, by omega, hB⟩
      have := hRd.out
      rwa [← HN.out, List.take_length] at this
end Go.Proofs.YtmjdjpelhhibgaaGreatDoor.Rf
