/- The document's Scope: Bound. -/
import Derived.Test.YtfohbgcpdpnndaaScR7
import Derived.Deep.RegionLaw
import Derived.Deep.AppendLies
namespace Go.Proofs.Ytfohbgcpdpnndaa.Sc
open Go.RowKit Go.Proofs.Ytfohbgcpdpnndaa.Ow Go.Sort
set_option linter.unusedVariables false
/-- append onto a row of the call's own, as one step of a region that draws; nothing may be appended, too. -/
theorem step_append_own {P : Program} {ops : Array Oper} {o : Oper} {a : Act} {w : World} {K : Act → World → Prop} {Q : Exit → Act → World → Prop} {E : Prop} (hgd : o.guard = none) (s x : Operand) (t : TypeId)
    (ho : o.op = .call { callee := .builtin .append, args := #[s, x], argTypes := #[t, t] })
    (base : Nat) (e : TypeId) (i : TypeInfo) (z : Value) (size bytes : Nat) (ht : P.underlying t = some (.slice e)) (hi : P.info? e = some i) (hz : i.zero = some z)
    (hsize : i.size = size) (hby : i.bytes = bytes) (hzs : z.cells.size = size) (hsz : 0 < size)
    (v : Value) (n : Nat) (xs : List Value) (hs : a.eval s = v) (hown : w.ownsRow base e size v n xs)
    (ad : Addr) (m c : Nat) (news : List Value) (hx : a.eval x = .slice (some ad) m c) (hl : news.length = m * size) (hnews : ∀ j u, news[j]? = some u → w.cell? (ad.add j) = some u) (h1 : ∀ u ∈ news, u.oneCell' = true)
    (h63 : n + m ≤ maxLen) (hbytes : (n + m) * bytes ≤ 140737488355328) (hbase : base ≤ w.heap.size)
    (h : ∀ v' w', w'.ownsRow base e size v' (n + m) (xs ++ news) → w.grownBy w' v.ownBlock → K (a.put o.dst v') w') :
    if Region.wanted o (yielded ops a.tmps) = true then Oper.wp P o a w K Q else E := by
  have hw : Region.wanted o (yielded ops a.tmps) = true := by simp [Region.wanted, hgd]
  rw [if_pos hw]
  obtain ⟨v', w', hr, h2, h3, _, _⟩ := run_append_own_at (P := P) w base t o.type e i z size bytes ht hi hz hsize hby hzs hsz v n xs hown ad m c news hl hnews h1 h63 hbytes hbase
  unfold Oper.wp execOp
  simp only [ho, resolve, invoke, builtin, Sem.run_bind, Sem.run_pure, Result.andThen_ok, List.map_toArray, List.map_cons, List.map_nil, hs, hx, hr]
  exact h v' w' h2 h3
theorem empty_at {W : World} {b B : Nat} (h : W.heap[b]? = some (.cells #[] 9 (0, 0))) (hB : B ≤ b) : W.ownsRow B 9 1 (.slice (some ⟨b, 0, none⟩) 0 0) 0 [] :=
  ⟨rfl, .inr ⟨b, 0, _, rfl, hB, h, Nat.le_refl 0, by decide, rfl, rfl⟩⟩
theorem news_one {W : World} {b : Nat} {P : ByteArray} (h : W.heap[b]? = some (.cells #[.string P] 9 (0, 0))) : ∀ j u, [Value.string P][j]? = some u → W.cell? ((⟨b, 0, none⟩ : Addr).add j) = some u := World.news_of_block h
theorem box1' {W : World} {b B : Nat} (h : W.heap[b]? = some (.cells #[.string ⟨#[120, 109, 108]⟩] 9 (0, 0))) (hB : B ≤ b := by omega) : W.ownsRow B 9 1 (.slice (some ⟨b, 0, none⟩) 1 1) 1 [.string ⟨#[120, 109, 108]⟩] :=
  ⟨rfl, .inr ⟨b, 1, _, rfl, hB, h, Nat.le_refl 1, by decide, rfl, rfl⟩⟩
def BR (w : World) (N : List ByteArray) (s : Value) (wr : World) : Prop := Below w.heap.size w wr ∧ wr.ownsRow w.heap.size 9 1 s N.length (N.map Value.string)
theorem own_mono {w : World} {B B' T s n : Nat} {v : Value} {xs : List Value} (h : w.ownsRow B T s v n xs) (hB : B' ≤ B) : w.ownsRow B' T s v n xs := by
  refine ⟨h.1, ?_⟩
  rcases h.2 with h | ⟨g, cap, cur, q1, q2, q3⟩
  · exact .inl h
  · exact .inr ⟨g, cap, cur, q1, Nat.le_trans hB q2, q3⟩
theorem box_last {W : World} {n : Nat} {o : Obj} (h : W.heap.size = n) : (W.alloc o).drew.heap[n]? = some o := by
  subst h
  show (W.heap.push o)[W.heap.size]? = _
  simp
theorem box_two {W : World} {n : Nat} {o o' : Obj} (h : W.heap.size = n) : ((W.alloc o).alloc o').drew.heap[n]? = some o := by
  subst h
  show ((W.heap.push o).push o')[W.heap.size]? = _
  simp [Array.getElem?_push]
theorem bound_end {w w2 w4 : World} {N : List ByteArray} {d1 : ByteArray} {v3 : Value} {av q : Nat} (hN : N.length = q) (hav : atL d1 N = av) (htw : twL d1 N = false) (hB2 : Below w.heap.size w w2) (hb : Below w2.heap.size w2 w4)
    (ho : w4.ownsRow w2.heap.size 9 1 v3 (av + 1 + (q - av)) (List.take av (List.map Value.string N) ++ [Value.string d1] ++ List.drop av (List.map Value.string N))) : BR w (insB N d1) v3 w4 := by
  have hle := atL_le d1 N
  rw [hav, hN] at hle
  refine ⟨hB2.trans (hb.mono hB2.size), ?_⟩
  have e : insB N d1 = N.take av ++ [d1] ++ N.drop av := by unfold insB; rw [htw, hav]; rfl
  have el : (insB N d1).length = av + 1 + (q - av) := by rw [e]; simp only [List.length_append, List.length_take, List.length_drop, List.length_singleton]; omega
  have em : (insB N d1).map Value.string = List.take av (List.map Value.string N) ++ [Value.string d1] ++ List.drop av (List.map Value.string N) := by rw [e]; simp
  rw [el, em]
  exact own_mono ho hB2.size
theorem insB_pos {l : List ByteArray} (h : 0 < l.length) (p : ByteArray) : 0 < (insB l p).length := by
  unfold insB
  split
  · exact h
  · simp only [List.length_append, List.length_singleton]; omega
theorem fold_pos : ∀ (ps l : List ByteArray), 0 < l.length → 0 < (ps.foldl insB l).length
  | [], l, h => h
  | p :: ps, l, h => fold_pos ps _ (insB_pos h p)
theorem rnames_pos (lv : List (List At)) : 0 < (rnames lv).length := fold_pos _ _ (by simp)
theorem lss_run (x y : ByteArray) (b : Bool) (h : lss x y = b) : ∀ W : World, Sem.run Try.prog (binOp .lss 9 (.string x) (.string y)) W = .ok (.bool b) W := fun W => by
  have h0 : Sem.run Try.prog (binOp .lss 9 (.string x) (.string y)) W = .ok (.bool (Go.Op.bytesLess x.toList y.toList)) W := by kernel_rfl
  rw [h0, ← h]; rfl
theorem slice_from (g n cap k : Nat) (h : k ≤ n) (hn : n ≤ cap) : ∃ ad, (∀ W : World, (Instr.slice 37 (.slice (some ⟨g, 0, none⟩) n cap) (some (.int .i64 (k : Int))) none none).run Try.prog W = .ok (.slice (some ad) (n - k) (cap - k)) W) ∧ (k < n → ad = ⟨g, k, none⟩) := by
  refine ⟨if cap = k then ⟨g, 0, none⟩ else ⟨g, k, none⟩, fun W => ?_, fun hk => by rw [if_neg (by omega)]⟩
  have h1 : (0 : Int) ≤ (k : Int) ∧ (k : Int) ≤ (n : Int) := by omega
  have hsz : (sizeOf 9 : Sem Nat).run Try.prog W = .ok 1 W := by kernel_rfl
  simp only [Instr.slice, Instr.sliceBounds, Instr.sliceBound, asIntOf, Sem.run_bind, run_underlying Try.underlying37, Result.andThen]
  simp [h1, hsz]
  split <;> simp_all [Addr.add]
theorem slice_upto (g n cap k : Nat) (h : k ≤ n) (hn : n ≤ cap) (W : World) : (Instr.slice 37 (.slice (some ⟨g, 0, none⟩) n cap) none (some (.int .i64 (k : Int))) none).run Try.prog W = .ok (.slice (some ⟨g, 0, none⟩) k cap) W := by
  have h1 : (0 : Int) ≤ (k : Int) ∧ (k : Int) ≤ (cap : Int) := by omega
  have hsz : (sizeOf 9 : Sem Nat).run Try.prog W = .ok 1 W := by kernel_rfl
  simp only [Instr.slice, Instr.sliceBounds, Instr.sliceBound, asIntOf, Sem.run_bind, run_underlying Try.underlying37, Result.andThen]
  simp [h1, hsz, Addr.add]
def BR2 (w : World) (lv : List (List At)) (g cap m k : Nat) (s : Value) (wr : World) : Prop :=
  Below w.heap.size w wr ∧ wr.ownsRow w.heap.size 9 1 (.slice (some ⟨g, 0, none⟩) m cap) m ((rnames lv).map Value.string) ∧
    wr.ownsRow w.heap.size 35 4 s (((rnames lv).take k).flatMap (rone lv)).length (cellsA (((rnames lv).take k).flatMap (rone lv)))
set_option maxRecDepth 100000 in
set_option maxHeartbeats 8000000 in
theorem bound_any (p : Nat) (v : Value) (lv : List (List At)) (w : World) (h : IsRef w p v lv) (hl : lv.length ≤ 1000) (hc : countL lv ≤ 100000) :
    Calls Try.prog 23 #[.pointer (some ⟨p, 0, none⟩)] w fun e w' => ∃ s, e = .returned s ∧ w'.ownsRow w.heap.size 35 4 s (rall lv).length (cellsA (rall lv)) ∧ Below w.heap.size w w' := by
  have hll : ∀ l ∈ lv, l.length ≤ 4611686018427387904 := fun l hl => by have := count_mem hl; omega
  have HLL := Lib.hid hll
  clear hll
  have c0 : w.cell? ⟨p, 0, none⟩ = some v := cell_of h.cells 0
  obtain ⟨A, cap, hv⟩ := h.shape
  obtain ⟨n, hn⟩ : ∃ n, lv.length = n := ⟨_, rfl⟩
  rw [hn] at hl hv
  have HN := Lib.hid hn
  have hpl := h.lt
  have HS := Lib.hid h
  subst hv
  clear h hn
  have C0 := Lib.hid c0
  clear c0
  obtain ⟨i0, hi, hz0, hz1, hz2⟩ := info_parts infoS
  go_enter Try.func23, Try.ntmps23
  go_wp2_with fail
  have hR0 : Hid (BR w (rnames (lv.take 0)) (.slice (some ⟨w.heap.size, 0, none⟩) 1 1) (w.alloc (.cells #[.string ⟨#[120, 109, 108]⟩] 9))) := ⟨(Below.refl _ _).alloc (Nat.le_refl _) _, box1' (heap_alloc_new _ _)⟩
  go_loopw [3, 4] (fun s x wr => ∃ k : Nat, k ≤ n ∧ x = .int .i64 k ∧ Hid (BR w (rnames (lv.take k)) s wr)) (fun _ x _ => n - (intOf x).toNat)
  case atStart => exact ⟨0, by omega, rfl, hR0⟩
  case round =>
    obtain ⟨k, hk, rfl, hR⟩ := hrel
    clear hR0
    have hB := hR.out.1
    have f4 := (hB.cell (p := ⟨p, 0, none⟩) hpl).trans C0.out
    have hpz : p < wr.heap.size := Nat.lt_of_lt_of_le hpl hB.size
    by_cases hlt : k < n
    · have hkl : k < lv.length := by rw [HN.out]; exact hlt
      obtain ⟨l, hlq⟩ : ∃ l, lv.getD k [] = l := ⟨_, rfl⟩
      have HNT : Hid (rnames (lv.take (k + 1)) = (namesL l).foldl insB (rnames (lv.take k))) := rnames_take hkl hlq
      have hcl : countL (lv.take k) + l.length ≤ countL lv := count_get hkl hlq
      obtain ⟨g, cap', A', c', hv, hcell, hC⟩ := HS.out.level hkl
      rw [hlq] at hcell hC
      have hgl := World.block_lt_of_cell? w _ hcell
      obtain ⟨rfl, -, rfl⟩ : A = some ⟨g, 0, none⟩ ∧ n = lv.length ∧ cap = cap' := by simpa using hv
      obtain ⟨nl, hnl⟩ : ∃ nl, l.length = nl := ⟨_, rfl⟩
      rw [hnl] at hcell
      have hnl9 : nl ≤ 100000 := by omega
      have HNL := Lib.hid hnl
      have HCELL := Lib.hid hcell
      have hkn : (k : Int) < (n : Int) := by omega
      have hrl := rnames_len (lv.take k)
      have hR2 : Hid (BR w ((namesL (l.take 0)).foldl insB (rnames (lv.take k))) u3 wr) := hR.out
      clear hnl hv hlq hcell hR
      go_wp2_with fail
      obtain ⟨wo, rfl⟩ : ∃ wo : World, wo = wr := ⟨_, rfl⟩
      clear hB f4 hpz
      go_loopw [3, 5] (fun s x wz => ∃ j : Nat, j ≤ nl ∧ x = .int .i64 j ∧ Hid (BR w ((namesL (l.take j)).foldl insB (rnames (lv.take k))) s wz)) (fun _ x _ => nl - (intOf x).toNat)
      case atStart => exact ⟨0, by omega, rfl, hR2⟩
      case round =>
        obtain ⟨j, hj, rfl, hR⟩ := hrel
        clear hR2
        obtain ⟨hB, hown⟩ := hR.out
        have f4 := (hB.cell (p := ⟨p, 0, none⟩) hpl).trans C0.out
        have f5 := (hB.cell (p := ⟨g, k, none⟩) hgl).trans HCELL.out
        have hpz : p < wr.heap.size := Nat.lt_of_lt_of_le hpl hB.size
        have hgz : g < wr.heap.size := Nat.lt_of_lt_of_le hgl hB.size
        by_cases hltj : j < nl
        · have hjl : j < l.length := by rw [HNL.out]; exact hltj
          obtain ⟨a, ha⟩ : ∃ a, l.getD j zA = a := ⟨_, rfl⟩
          obtain ⟨g2, o, rfl, hgl2, e0, e1, e2, e3⟩ := hC j hjl
          rw [ha] at e0 e1 e2 e3
          have htk : namesL (l.take (j + 1)) = namesL (l.take j) ++ [(declR a).1] := by
            rw [List.take_succ_eq_append_getElem hjl, ← ha]; unfold namesL; rw [List.map_append]; simp [List.getD, hjl]
          have HT : Hid ((namesL (l.take (j + 1))).foldl insB (rnames (lv.take k)) = insB ((namesL (l.take j)).foldl insB (rnames (lv.take k))) (declR a).1) := by show _ = _; rw [htk, List.foldl_append]; rfl
          have hlen : ((namesL (l.take j)).foldl insB (rnames (lv.take k))).length ≤ 200002 := by
            have h1 := fold_len (namesL (l.take j)) (rnames (lv.take k))
            have h2 : (namesL (l.take j)).length ≤ nl := by simp [namesL]; omega
            omega
          have hpos := fold_pos (namesL (l.take j)) _ (rnames_pos (lv.take k))
          have f0 := (hB.cell (p := ⟨g2, o + j * 4, none⟩) hgl2).trans e0
          have f1 := (hB.cell (p := ⟨g2, o + j * 4 + 1, none⟩) hgl2).trans e1
          have f2 := (hB.cell (p := ⟨g2, o + j * 4 + 2, none⟩) hgl2).trans e2
          have f3 := (hB.cell (p := ⟨g2, o + j * 4 + 3, none⟩) hgl2).trans e3
          have hgz2 : g2 < wr.heap.size := Nat.lt_of_lt_of_le hgl2 hB.size
          have HD := declares_ref a wr
          generalize (namesL (l.take j)).foldl insB (rnames (lv.take k)) = N at HT hlen hpos hown
          obtain ⟨m, hm⟩ : ∃ m, N.length = m := ⟨_, rfl⟩
          rw [hm] at hown hpos hlen
          have HM := Lib.hid hm
          obtain ⟨g3, cap3, rfl, hg3, hg3z⟩ := hown.form hpos
          clear htk ha e0 e1 e2 e3 hC hm hR hrl hcl
          generalize hDD : declR a = D at HD HT
          obtain ⟨d1, d2⟩ := D
          have HDD := Lib.hid hDD
          simp only at HD HT
          clear hDD
          have HB := Lib.hid hB
          have HOWN := Lib.hid hown
          clear hB hown
          go_wp2_with fail
          refine HD.mono ?_
          clear HD f0 f1 f2 f3 f4 f5
          rintro e w2 ⟨rfl, hb2⟩
          have hB2 := HB.out.trans (hb2.mono HB.out.size)
          have hown2 := own_kept_below HOWN.out hb2
          have hg3y : g3 < w2.heap.size := Nat.lt_of_lt_of_le hg3z hb2.size
          have hcap : m ≤ cap3 := own_cap hown2
          have HB2 := Lib.hid hB2
          have HOWN2 := Lib.hid hown2
          have hcells : Hid (∀ q (hq : q < m), w2.cell? ⟨g3, q, none⟩ = some (.string (N.getD q ⟨#[]⟩))) := fun q hq => by
            have := hown2.cells (g := g3) rfl q (.string (N.getD q ⟨#[]⟩)) (by simp [List.getD, HM.out, hq])
            have ha : (⟨g3, 0, none⟩ : Addr).add q = ⟨g3, q, none⟩ := by unfold Addr.add; split <;> simp_all
            rw [ha] at this
            exact this
          clear hB2 hown2 hb2 HB HOWN
          go_wp2_with fail
          go_loop [8, 9, 10] (fun a t x => ∃ (q av : Nat) (tv : Bool), q ≤ m ∧ av ≤ q ∧ x = .int .i64 q ∧ a = .int .i64 av ∧ t = .bool tv ∧ Hid (atL d1 (N.take q) = av ∧ twL d1 (N.take q) = tv)) (fun _ _ x => m - (intOf x).toNat)
          case atStart => exact ⟨0, 0, false, by omega, by omega, rfl, rfl, rfl, by constructor <;> rfl⟩
          case round =>
            obtain ⟨q, av, tv, hq, hav, rfl, rfl, rfl, hAT⟩ := hrel
            by_cases hqm : q < m
            · have hqN : q < N.length := by rw [HM.out]; exact hqm
              have hcq := hcells.out q hqm
              obtain ⟨x, hx⟩ : ∃ x, N.getD q ⟨#[]⟩ = x := ⟨_, rfl⟩
              rw [hx] at hcq
              have htq : N.take (q + 1) = N.take q ++ [x] := by rw [List.take_succ_eq_append_getElem hqN, ← hx]; simp [List.getD, hqN]
              have hA1 : atL d1 (N.take (q + 1)) = if lss x d1 = true then q + 1 else av := by
                rw [htq, atL_snoc, hAT.out.1, List.length_take]; congr 1; omega
              have hT1 : twL d1 (N.take (q + 1)) = (tv || (x.toList == d1.toList)) := by rw [htq, twL_snoc, hAT.out.2]
              have HA1 := Lib.hid hA1
              have HT1 := Lib.hid hT1
              clear hx htq hA1 hT1 hAT
              obtain ⟨b, hb⟩ : ∃ b, lss x d1 = b := ⟨_, rfl⟩
              have HBB := Lib.hid hb
              have hbl : Go.Op.bytesLess x.toList d1.toList = b := hb
              clear hb
              obtain ⟨b2, hb2⟩ : ∃ b2, (x.toList == d1.toList) = b2 := ⟨_, rfl⟩
              cases b <;> cases b2 <;> cases tv
              all_goals
                go_wp2_with fail
                go_round
                case rel => first | exact ⟨q + 1, q + 1, _, by omega, by omega, by go_num, by go_num, rfl, by constructor <;> simp [HA1.out, HT1.out, HBB.out, hb2]⟩ | exact ⟨q + 1, av, _, by omega, by omega, by go_num, rfl, rfl, by constructor <;> simp [HA1.out, HT1.out, HBB.out, hb2]⟩
                case measure => simp [intOf]; omega
            · obtain rfl : q = m := by omega
              obtain ⟨h1, h2⟩ := hAT.out
              rw [← HM.out, List.take_length] at h1 h2
              have HAV := Lib.hid h1
              have HTV := Lib.hid h2
              clear hAT h1 h2
              cases tv with
              | true =>
                go_wp2_with fail
                go_roundw
                case rel => exact ⟨j + 1, by omega, by go_num, HB2.out, by rw [HT.out]; unfold insB; rw [if_pos HTV.out, HM.out]; exact HOWN2.out⟩
                case measure => simp [intOf]; omega
              | false =>
                have hto := slice_upto g3 q cap3 av hav hcap
                obtain ⟨ad, hfrom, had⟩ := slice_from g3 q cap3 av hav hcap
                have HAD := Lib.hid had
                clear had
                have HL1 : Hid ((List.take av (List.map Value.string N)).length = av * 1) := by show _ = _; rw [List.length_take, List.length_map, HM.out]; omega
                have HL2 : Hid ((List.drop av (List.map Value.string N)).length = (q - av) * 1) := by show _ = _; rw [List.length_drop, List.length_map, HM.out]; omega
                have HO1 : Hid (∀ u ∈ List.take av (List.map Value.string N), u.oneCell' = true) := fun u hu => by
                  obtain ⟨x, _, rfl⟩ := List.mem_map.1 (List.mem_of_mem_take hu)
                  rfl
                have HO2 : Hid (∀ u ∈ List.drop av (List.map Value.string N), u.oneCell' = true) := fun u hu => by
                  obtain ⟨x, _, rfl⟩ := List.mem_map.1 (List.mem_of_mem_drop hu)
                  rfl
                have HX1 : Hid (∀ W : World, Below w2.heap.size w2 W → ∀ j u, (List.take av (List.map Value.string N))[j]? = some u → W.cell? ((⟨g3, 0, none⟩ : Addr).add j) = some u) := fun W hW j u hu => by
                  refine (own_kept_below HOWN2.out hW).cells (g := g3) rfl j u ?_
                  rw [List.getElem?_take] at hu
                  split at hu
                  · exact hu
                  · cases hu
                have HX2 : Hid (∀ W : World, Below w2.heap.size w2 W → ∀ j u, (List.drop av (List.map Value.string N))[j]? = some u → W.cell? (ad.add j) = some u) := fun W hW j u hu => by
                  rw [List.getElem?_drop] at hu
                  have hlt : av + j < q := by
                    have := (List.getElem?_eq_some_iff.1 hu).1
                    rw [List.length_map, HM.out] at this; exact this
                  rw [HAD.out (by omega)]
                  have := (own_kept_below HOWN2.out hW).cells (g := g3) rfl (av + j) u hu
                  have e1 : (⟨g3, 0, none⟩ : Addr).add (av + j) = ⟨g3, av + j, none⟩ := by unfold Addr.add; split <;> simp_all
                  have e2 : (⟨g3, av, none⟩ : Addr).add j = ⟨g3, av + j, none⟩ := by unfold Addr.add; split <;> simp_all
                  rw [e2, ← e1]
                  exact this
                go_wp2_with fail
                go_region_law (first | (refine step_append_own rfl (.tmp 83) (.tmp 86) 37 rfl w2.heap.size 9 i0 (.string ⟨#[]⟩) 1 16 Try.underlying37 hi hz0 hz1 hz2 rfl (by decide) v2 (av + 1) (List.take av (List.map Value.string N) ++ [Value.string d1]) rfl HR2.out ad (q - av) (cap3 - av) (List.drop av (List.map Value.string N)) rfl HL2.out (HX2.out _ HB3.out) HO2.out (by unfold maxLen; omega) (by omega) HB3.out.size ?_; intro v3 w4 hown3 hgrow3; have HFIN : Hid (BR w (insB N d1) v3 w4) := bound_end HM.out HAV.out HTV.out HB2.out (HB3.out.grown hgrow3 HB3.out.size (fun k hk => (HR2.out.lt k hk).1)) hown3; clear hown3 hgrow3) | (refine step_append_own rfl (.tmp 80) (.tmp 82) 37 rfl w2.heap.size 9 i0 (.string ⟨#[]⟩) 1 16 Try.underlying37 hi hz0 hz1 hz2 rfl (by decide) v1 av (List.take av (List.map Value.string N)) rfl (HR1.out.alloc _) ⟨w1.heap.size, 0, none⟩ 1 1 [.string d1] rfl rfl (cells_block _ _ _) (by intro u hu; simp at hu; subst hu; rfl) (by unfold maxLen; omega) (by omega) (by have := HB1.out.size; simp; omega) ?_; intro v2 w3 hown2 hgrow2; have HB3 : Hid (Below w2.heap.size w2 w3) := (HB1.out.alloc HB1.out.size _).grown hgrow2 (by have := HB1.out.size; simp; omega) (fun k hk => (HR1.out.lt k hk).1); have HR2 := Lib.hid hown2; clear hown2 hgrow2) | (refine step_append_own rfl (.tmp 80) (.tmp 82) 37 rfl w2.heap.size 9 i0 (.string ⟨#[]⟩) 1 16 Try.underlying37 hi hz0 hz1 hz2 rfl (by decide) v1 av (List.take av (List.map Value.string N)) rfl HR1.out ⟨w2.heap.size + 1, 0, none⟩ 1 1 [.string d1] rfl rfl (news_one HP.out) (by intro u hu; simp at hu; subst hu; rfl) (by unfold maxLen; omega) (by omega) (by have := HB1.out.size; simp; omega) ?_; intro v2 w3 hown2 hgrow2; have HB3 : Hid (Below w2.heap.size w2 w3) := HB1.out.grown hgrow2 (by have := HB1.out.size; simp; omega) (fun k hk => (HR1.out.lt k hk).1); have HR2 := Lib.hid hown2; clear hown2 hgrow2) | (refine step_append_own rfl (.tmp 80) (.tmp 82) 37 rfl w2.heap.size 9 i0 (.string ⟨#[]⟩) 1 16 Try.underlying37 hi hz0 hz1 hz2 rfl (by decide) v1 av (List.take av (List.map Value.string N)) rfl HR1.out ⟨w2.heap.size, 0, none⟩ 1 1 [.string d1] rfl rfl (news_one HP.out) (by intro u hu; simp at hu; subst hu; rfl) (by unfold maxLen; omega) (by omega) (by have := HB1.out.size; simp; omega) ?_; intro v2 w3 hown2 hgrow2; have HB3 : Hid (Below w2.heap.size w2 w3) := HB1.out.grown hgrow2 (by have := HB1.out.size; simp; omega) (fun k hk => (HR1.out.lt k hk).1); have HR2 := Lib.hid hown2; clear hown2 hgrow2) | (refine step_append_own rfl (.tmp 76) (.tmp 79) 37 rfl w2.heap.size 9 i0 (.string ⟨#[]⟩) 1 16 Try.underlying37 hi hz0 hz1 hz2 rfl (by decide) (.slice (some ⟨w2.heap.size, 0, none⟩) 0 0) 0 [] rfl (empty_at (box_last rfl) (Nat.le_refl _)) ⟨g3, 0, none⟩ av cap3 (List.take av (List.map Value.string N)) rfl HL1.out (HX1.out _ ((Below.refl _ _).alloc (Nat.le_refl _) _).drew) HO1.out (by unfold maxLen; omega) (by omega) (by simp <;> omega) ?_; intro v1 w1 hown1 hgrow1; rw [Nat.zero_add, List.nil_append] at hown1; have HB1 : Hid (Below w2.heap.size w2 w1) := ((Below.refl _ _).alloc (Nat.le_refl _) _).drew.grown hgrow1 (by simp <;> omega) (fun k hk => by cases hk; exact Nat.le_refl _); have HR1 := Lib.hid hown1; clear hown1 hgrow1) | (refine step_append_own rfl (.tmp 76) (.tmp 79) 37 rfl w2.heap.size 9 i0 (.string ⟨#[]⟩) 1 16 Try.underlying37 hi hz0 hz1 hz2 rfl (by decide) (.slice (some ⟨w2.heap.size, 0, none⟩) 0 0) 0 [] rfl (empty_at (box_two rfl) (Nat.le_refl _)) ⟨g3, 0, none⟩ av cap3 (List.take av (List.map Value.string N)) rfl HL1.out (HX1.out _ (((Below.refl _ _).alloc (Nat.le_refl _) _).alloc (by simp) _).drew) HO1.out (by unfold maxLen; omega) (by omega) (by simp <;> omega) ?_; intro v1 w1 hown1 hgrow1; rw [Nat.zero_add, List.nil_append] at hown1; have HB1 : Hid (Below w2.heap.size w2 w1) := (((Below.refl _ _).alloc (Nat.le_refl _) _).alloc (by simp) _).drew.grown hgrow1 (by simp <;> omega) (fun k hk => by cases hk; exact Nat.le_refl _); have HP : Hid (w1.heap[w2.heap.size + 1]? = some (.cells #[.string d1] 9 (0, 0))) := (hgrow1.block _ (by simp <;> omega) (by simp [Value.ownBlock])).trans (box_last (by simp)); have HR1 := Lib.hid hown1; clear hown1 hgrow1) | (refine step_append_own rfl (.tmp 76) (.tmp 79) 37 rfl w2.heap.size 9 i0 (.string ⟨#[]⟩) 1 16 Try.underlying37 hi hz0 hz1 hz2 rfl (by decide) (.slice (some ⟨w2.heap.size + 1, 0, none⟩) 0 0) 0 [] rfl (empty_at (b := w2.heap.size + 1) (box_last (by simp)) (by omega)) ⟨g3, 0, none⟩ av cap3 (List.take av (List.map Value.string N)) rfl HL1.out (HX1.out _ (((Below.refl _ _).alloc (Nat.le_refl _) _).alloc (by simp) _).drew) HO1.out (by unfold maxLen; omega) (by omega) (by simp <;> omega) ?_; intro v1 w1 hown1 hgrow1; rw [Nat.zero_add, List.nil_append] at hown1; have HB1 : Hid (Below w2.heap.size w2 w1) := (((Below.refl _ _).alloc (Nat.le_refl _) _).alloc (by simp) _).drew.grown hgrow1 (by simp <;> omega) (fun k hk => by cases hk; exact Nat.le_succ _); have HP : Hid (w1.heap[w2.heap.size]? = some (.cells #[.string d1] 9 (0, 0))) := (hgrow1.block _ (by simp <;> omega) (by simp [Value.ownBlock])).trans (box_two rfl); have HR1 := Lib.hid hown1; clear hown1 hgrow1))
                all_goals
                  go_wp2_with fail
                  go_roundw
                  case rel => exact ⟨j + 1, by omega, by go_num, by rw [HT.out]; exact HFIN.out⟩
                  case measure => simp [intOf]; omega
        · obtain rfl : j = nl := by omega
          have hR3 : Hid (BR w (rnames (lv.take (k + 1))) u3 wr) := by
            have := hR.out
            rw [← HNL.out, List.take_length] at this
            show BR _ _ _ _
            rw [HNT.out]
            exact this
          clear hC hR hB hown
          go_wp2_with fail
          go_roundw
          case rel => exact ⟨k + 1, by omega, by go_num, hR3⟩
          case measure => first | (simp [intOf]; done) | (simp [intOf]; omega)
    · obtain rfl : k = n := by omega
      obtain ⟨hB, hown⟩ := hR.out
      rw [← HN.out, List.take_length] at hown
      have hpos := rnames_pos lv
      have hrl := rnames_len lv
      obtain ⟨m, hm⟩ : ∃ m, (rnames lv).length = m := ⟨_, rfl⟩
      rw [hm] at hown hpos hrl
      have HM := Lib.hid hm
      obtain ⟨g, cap3, rfl, hg3, hg3z⟩ := hown.form hpos
      obtain ⟨i1, hj1, hy0, hy1, hy2⟩ := info_parts infoA
      have hRel : Hid (BR2 w lv g cap3 m 0 (.slice none 0 0) wr) := ⟨hB, hown, World.ownsRow_nil _ _ _ _⟩
      clear hR hown hB hm hi hz0 hz1 hz2 hlt
      go_wp2_with fail
      clear f4
      obtain ⟨wo, rfl⟩ : ∃ wo : World, wo = wr := ⟨_, rfl⟩
      go_loopw [11, 12] (fun s x wz => ∃ k : Nat, k ≤ m ∧ x = .int .i64 k ∧ Hid (BR2 w lv g cap3 m k s wz)) (fun _ x _ => m - (intOf x).toNat)
      case atStart => exact ⟨0, by omega, rfl, hRel⟩
      case round =>
        obtain ⟨k, hk, rfl, hR⟩ := hrel
        clear hRel
        by_cases hlt : k < m
        · have hkc : k < (rnames lv).length := by rw [HM.out]; exact hlt
          obtain ⟨pn, hpn⟩ : ∃ pn, (rnames lv).getD k ⟨#[]⟩ = pn := ⟨_, rfl⟩
          obtain ⟨hB, hrow, hout⟩ := hR.out
          have hck : wr.cell? ⟨g, k, none⟩ = some (.string pn) := by
            have := hrow.cells (g := g) rfl k (.string pn) (by rw [← hpn]; simp [List.getD, hkc])
            have ha : (⟨g, 0, none⟩ : Addr).add k = ⟨g, k, none⟩ := by unfold Addr.add; split <;> simp_all
            rw [ha] at this
            exact this
          have hgz := (hrow.lt g rfl).2
          have HU := ruri_any p _ lv pn wr (HS.out.below hB) (by rw [HN.out]; omega) HLL.out
          have hnext : Hid ((rnames lv).take (k + 1) = (rnames lv).take k ++ [pn]) := by
            show _ = _
            rw [List.take_succ_eq_append_getElem hkc, ← hpn]; simp [List.getD, hkc]
          have hlenout : (((rnames lv).take k).flatMap (rone lv)).length ≤ k := Nat.le_trans (rone_len _ _) (List.length_take_le _ _)
          have HB := Lib.hid hB
          have HR := Lib.hid hrow
          have HCK := Lib.hid hck
          have hBs := hB.size
          have hone1 : rone lv pn = if ((ruriR lv pn).1.toList == []) = true then [] else if (pn.toList == []) = true then [⟨⟨#[]⟩, xmlnsS, nsS, (ruriR lv pn).1⟩] else [⟨xmlnsS, pn, nsS, (ruriR lv pn).1⟩] := rfl
          have HO1 := Lib.hid hone1
          clear hone1 hpn hkc hB hrow hR
          generalize ruriR lv pn = U at HU HO1
          obtain ⟨u, ub⟩ := U
          simp only at HU HO1
          generalize hX : ((rnames lv).take k).flatMap (rone lv) = X at hout hlenout
          have HX := Lib.hid hX
          clear hX
          cases h1 : (u.toList == []) with
          | true =>
            have h1' := isE h1
            have hone : Hid (rone lv pn = []) := by show _ = _; rw [HO1.out, if_pos h1]
            go_wp2_with fail
            refine HU.mono ?_
            clear HU
            rintro e wb ⟨rfl, hbb⟩
            have hout2 := own_kept_below hout hbb
            have hrow2 := own_kept_below HR.out hbb
            have hB2 := HB.out.trans (hbb.mono hBs)
            have hs2 : w.heap.size ≤ wb.heap.size := hB2.size
            clear hck
            go_wp2_with fail
            go_roundw
            case rel =>
              refine ⟨k + 1, by omega, by go_num, hB2, hrow2, ?_⟩
              rw [hnext.out, List.flatMap_append, HX.out]
              simp only [List.flatMap_cons, List.flatMap_nil, hone.out, List.append_nil]
              exact hout2
            case measure => simp [intOf]; omega
          | false =>
            have h1' := isE h1
            cases h2 : (pn.toList == []) with
            | true =>
              have h2' := isE h2
              have hone : Hid ([pn].flatMap (rone lv) = [⟨⟨#[]⟩, xmlnsS, nsS, u⟩]) := by show _ = _; simp only [List.flatMap_cons, List.flatMap_nil, List.append_nil]; rw [HO1.out, if_neg (by rw [h1]; decide), if_pos h2]
              go_wp2_with fail
              refine HU.mono ?_
              clear HU
              rintro e wb ⟨rfl, hbb⟩
              have hout2 := own_kept_below hout hbb
              have hrow2 := own_kept_below HR.out hbb
              have hB2 := HB.out.trans (hbb.mono hBs)
              have hs2 : w.heap.size ≤ wb.heap.size := hB2.size
              have hck2 := (hbb.cell (p := ⟨g, k, none⟩) hgz).trans HCK.out
              have hgz2 : g < wb.heap.size := Nat.lt_of_lt_of_le hgz hbb.size
              clear hck
              go_wp2_with (at_builtin; refine wpList_append_own _ rfl (.tmp 121) (.tmp 124) 26 rfl w.heap.size 35 i1 (.agg #[.string ⟨#[]⟩, .string ⟨#[]⟩, .string ⟨#[]⟩, .string ⟨#[]⟩]) 4 64 Try.underlying26 hj1 hy0 hy1 hy2 rfl (by decide) u11 X.length (cellsA X) rfl (hout2.alloc _) ⟨wb.heap.size, 0, none⟩ 1 1 [.string ⟨#[]⟩, .string xmlnsS, .string nsS, .string u] rfl rfl (cells_block _ _ _) (by intro u hu; simp at hu; rcases hu with rfl | rfl | rfl | rfl <;> rfl) (by unfold maxLen; omega) (by omega) (by simp; omega) ?_; intro v' w5 hown5 hgrow _; obtain ⟨g', cap', rfl⟩ := own_shape3 hown5)
              go_roundw
              case rel =>
                refine ⟨k + 1, by omega, by go_num, ?_, ?_, ?_⟩
                · exact (hB2.alloc hs2 _).grown hgrow (by simp; omega) (fun k hk => (hout2.lt k hk).1)
                · exact (hrow2.alloc _).kept hgrow (own_two hrow2 hout2 (by decide : (35 : Nat) ≠ 9))
                · rw [hnext.out, List.flatMap_append, HX.out, hone.out, cellsA_app, len_snoc]
                  exact hown5
              case measure => simp [intOf]; omega
            | false =>
              have h2' := isE h2
              have hone : Hid ([pn].flatMap (rone lv) = [⟨xmlnsS, pn, nsS, u⟩]) := by show _ = _; simp only [List.flatMap_cons, List.flatMap_nil, List.append_nil]; rw [HO1.out, if_neg (by rw [h1]; decide), if_neg (by rw [h2]; decide)]
              go_wp2_with fail
              refine HU.mono ?_
              clear HU
              rintro e wb ⟨rfl, hbb⟩
              have hout2 := own_kept_below hout hbb
              have hrow2 := own_kept_below HR.out hbb
              have hB2 := HB.out.trans (hbb.mono hBs)
              have hs2 : w.heap.size ≤ wb.heap.size := hB2.size
              have hck2 := (hbb.cell (p := ⟨g, k, none⟩) hgz).trans HCK.out
              have hgz2 : g < wb.heap.size := Nat.lt_of_lt_of_le hgz hbb.size
              clear hck
              go_wp2_with (at_builtin; refine wpList_append_own _ rfl (.tmp 103) (.tmp 110) 26 rfl w.heap.size 35 i1 (.agg #[.string ⟨#[]⟩, .string ⟨#[]⟩, .string ⟨#[]⟩, .string ⟨#[]⟩]) 4 64 Try.underlying26 hj1 hy0 hy1 hy2 rfl (by decide) u11 X.length (cellsA X) rfl (hout2.alloc _) ⟨wb.heap.size, 0, none⟩ 1 1 [.string xmlnsS, .string pn, .string nsS, .string u] rfl rfl (cells_block _ _ _) (by intro u hu; simp at hu; rcases hu with rfl | rfl | rfl | rfl <;> rfl) (by unfold maxLen; omega) (by omega) (by simp; omega) ?_; intro v' w5 hown5 hgrow _; obtain ⟨g', cap', rfl⟩ := own_shape3 hown5)
              go_roundw
              case rel =>
                refine ⟨k + 1, by omega, by go_num, ?_, ?_, ?_⟩
                · exact (hB2.alloc hs2 _).grown hgrow (by simp; omega) (fun k hk => (hout2.lt k hk).1)
                · exact (hrow2.alloc _).kept hgrow (own_two hrow2 hout2 (by decide : (35 : Nat) ≠ 9))
                · rw [hnext.out, List.flatMap_append, HX.out, hone.out, cellsA_app, len_snoc]
                  exact hown5
              case measure => simp [intOf]; omega
        · obtain rfl : k = m := by omega
          have hR2 := hR.out
          clear hR
          go_wp2_with fail
          go_ret
          obtain ⟨hB, hrow, hout⟩ := hR2
          rw [← HM.out, List.take_length] at hout
          exact ⟨_, rfl, hout, hB⟩
end Go.Proofs.Ytfohbgcpdpnndaa.Sc
