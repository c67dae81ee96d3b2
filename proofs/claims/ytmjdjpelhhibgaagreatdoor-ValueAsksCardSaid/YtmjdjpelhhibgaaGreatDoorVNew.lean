/- A replacer: how it is made, what it is built to. -/
import Derived.Test.YtmjdjpelhhibgaaGreatDoorVOnce2
import Derived.Test.YtmjdjpelhhibgaaGreatDoorVRead
import Derived.Maps.AppendAt
import Derived.IntWalk
import Derived.Lib.ConvBytes
import Derived.Laws.MakeOwn
namespace Go.Proofs.YtmjdjpelhhibgaaGreatDoor.Rep
open Go Go.RowKit Go.Proofs.YtmjdjpelhhibgaaGreatDoor.Rf Go.Proofs.YtmjdjpelhhibgaaGreatDoor.Once
set_option linter.unusedVariables false
set_option linter.unusedSimpArgs false
theorem own_slice {w : World} {B e size n : Nat} {v : Value} {xs : List Value} (h : w.ownsRow B e size v n xs) : ∃ ao cap, v = .slice ao n cap := by
  rcases h.2 with ⟨rfl, rfl⟩ | ⟨g, cap, cur, rfl, _⟩
  · exact ⟨none, 0, rfl⟩
  · exact ⟨_, _, rfl⟩
set_option maxRecDepth 100000 in
set_option maxHeartbeats 1600000 in
theorem new_any (b m : Nat) (xs : List ByteArray) (w : World) (hn : xs.length = 2 * m) (hm : m ≤ 1000) (hc : ∀ j u, (xs.map Value.string)[j]? = some u → w.cell? ((⟨b, 0, none⟩ : Addr).add j) = some u) :
    Calls Tryz.prog 27 #[.slice (some ⟨b, 0, none⟩) xs.length xs.length] w fun e w' => ∃ R on, e = .returned (.pointer (some ⟨R, 0, none⟩)) ∧ Rpl w' R 0 0 .nilIface on ∧ w.heap.size ≤ R ∧ w'.ownsRow w.heap.size 9 1 on xs.length (xs.map Value.string) ∧ Below w.heap.size w w' := by
  obtain ⟨i0, hi, hz0, hz1, hz2⟩ := info_parts infoS
  have hmod : ((xs.length : Nat) : Int).tmod 2 = 0 := by rw [hn, Int.tmod_eq_emod_of_nonneg (by omega)]; omega
  obtain ⟨n, hnn⟩ : ∃ n, xs.length = n := ⟨_, rfl⟩
  rw [hnn] at hmod hn ⊢
  have HN := Lib.hid hnn
  have HC := Lib.hid hc
  clear hnn hc
  go_enter Tryz.func27, Tryz.ntmps27
  go_wp2_with (at_builtin; refine wpList_append_own_at _ rfl _ _ 39 rfl w.heap.size 9 i0 (.string ⟨#[]⟩) 1 16 Tryz.underlying39 hi hz0 hz1 hz2 rfl (by decide) (.slice none 0 0) 0 [] rfl (World.ownsRow_nil _ _ _ _) ⟨b, 0, none⟩ n n (xs.map Value.string) rfl (by rw [List.length_map, HN.out, Nat.mul_one]) HC.out (by intro u hu; obtain ⟨x, _, rfl⟩ := List.mem_map.1 hu; rfl) (by unfold maxLen; omega) (by omega) (Nat.le_refl _) ?_; intro v' w1 hown' hgrow hnil hloc; have hb1 : Below w.heap.size w w1 := ⟨hgrow.os, hgrow.tape, hgrow.output, hgrow.size, fun k hk => hgrow.block k hk (by simp [Value.ownBlock])⟩; obtain ⟨ao, cap, rfl⟩ := own_slice hown'; have HOW := Lib.hid hown'; clear hown' hgrow hnil hloc)
  go_ret
  have hs1 := hb1.size
  refine ⟨_, _, rfl, heap_alloc_new w1 _, hs1, ?_, hb1.alloc hs1 _⟩
  have h := HOW.out.alloc (.cells #[.int .u32 0, .int .i32 0, .int .u32 0, .nilIface, .slice ao (2 * m) cap] TP)
  subst hn
  simpa using h
end Go.Proofs.YtmjdjpelhhibgaaGreatDoor.Rep
