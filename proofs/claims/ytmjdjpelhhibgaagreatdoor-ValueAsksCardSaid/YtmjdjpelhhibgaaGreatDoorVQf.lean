/- The document's own references: a value. -/
import Derived.Test.YtmjdjpelhhibgaaGreatDoorVQ2
namespace Go.Proofs.YtmjdjpelhhibgaaGreatDoor.Val
open Go Go.RowKit Go.Proofs.YtmjdjpelhhibgaaGreatDoor.Rf Go.Proofs.YtmjdjpelhhibgaaGreatDoor.Spec Go.Proofs.YtmjdjpelhhibgaaGreatDoor.Giv
set_option linter.unusedVariables false
set_option linter.unusedSimpArgs false
/-! ### Open in three cases -/
theorem openQ_yes (q : Nat) (d : ByteArray) (A : Option Addr) (n cap : Nat) (av v : Value) (E : List Ent) (op : List ByteArray) (sp most : Int) (nm : ByteArray) (w : World) (h : MS w q d A n cap av v E op sp) (hn : E.length = n) (hl : n ≤ 1000000000) (h5 : (fiveR nm).2 = false)
    (hop : op.length ≤ 1000000000) (h0 : 0 ≤ sp) (h1 : sp ≤ 1000000000000) (hm0 : -9223372036854775808 ≤ most) (hm1 : most ≤ 9223372036854775807) (hE : ∀ e, e ∈ E → e.vl.size ≤ 1000000000) (hA : ∀ a, A = some a → a.block ≠ q) (hc : openC E op sp nm most = 0) :
    Calls Tryz.prog 48 #[.pointer (some ⟨q, 0, none⟩), .string nm, .int .i64 most] w fun r w' => r = .returned (.tuple #[.string (entR E nm).2.1, .int .i64 0]) ∧ QT q w w' ∧ ∃ v', MS w' q d A n cap av v' E (op ++ [nm]) (sp + (entR E nm).2.1.size) := by
  have hk := ((openC_case (E := E) (op := op) (sp := sp) (most := most) h5).1).1 hc
  cases hf : fnd nm E with
  | none => unfold openCase at hk; rw [hf] at hk; cases hk
  | some e =>
    have he : (entR E nm).2.1 = e.vl := by unfold entR; rw [hf]
    rw [he]
    refine (openQ_some q d A n cap av v E op sp most nm w h hn hl h5 e hf hop h0 h1 hm0 hm1 (hE e (List.mem_of_find?_eq_some hf)) hA 0 hk).mono ?_
    rintro r w' (⟨h1, _⟩ | ⟨_, h2, h3, h4⟩)
    · exact absurd rfl h1
    · exact ⟨h2, h3, h4⟩
theorem openQ_lim (q : Nat) (d : ByteArray) (A : Option Addr) (n cap : Nat) (av v : Value) (E : List Ent) (op : List ByteArray) (sp most : Int) (nm : ByteArray) (w : World) (h : MS w q d A n cap av v E op sp) (hn : E.length = n) (hl : n ≤ 1000000000) (h5 : (fiveR nm).2 = false)
    (hop : op.length ≤ 1000000000) (h0 : 0 ≤ sp) (h1 : sp ≤ 1000000000000) (hm0 : -9223372036854775808 ≤ most) (hm1 : most ≤ 9223372036854775807) (hE : ∀ e, e ∈ E → e.vl.size ≤ 1000000000) (hA : ∀ a, A = some a → a.block ≠ q) (hc : openC E op sp nm most = 3) :
    Calls Tryz.prog 48 #[.pointer (some ⟨q, 0, none⟩), .string nm, .int .i64 most] w fun r w' => r = .returned (.tuple #[.string ⟨#[]⟩, .int .i64 3]) ∧ Below w.heap.size w w' := by
  have hk := ((openC_case (E := E) (op := op) (sp := sp) (most := most) h5).2).1 hc
  cases hf : fnd nm E with
  | none => unfold openCase at hk; rw [hf] at hk; cases hk
  | some e =>
    refine (openQ_some q d A n cap av v E op sp most nm w h hn hl h5 e hf hop h0 h1 hm0 hm1 (hE e (List.mem_of_find?_eq_some hf)) hA 3 hk).mono ?_
    rintro r w' (⟨_, h1, h2⟩ | ⟨h1, _⟩)
    · exact ⟨h1, h2⟩
    · cases h1
theorem openQ_no (q : Nat) (d : ByteArray) (A : Option Addr) (n cap : Nat) (av v : Value) (E : List Ent) (op : List ByteArray) (sp most : Int) (nm : ByteArray) (w : World) (h : MS w q d A n cap av v E op sp) (hn : E.length = n) (hl : n ≤ 1000000000) (h5 : (fiveR nm).2 = false)
    (hop : op.length ≤ 1000000000) (h0 : 0 ≤ sp) (h1 : sp ≤ 1000000000000) (hm0 : -9223372036854775808 ≤ most) (hm1 : most ≤ 9223372036854775807) (hE : ∀ e, e ∈ E → e.vl.size ≤ 1000000000) (hA : ∀ a, A = some a → a.block ≠ q) (hc : openC E op sp nm most ≠ 0) (hc3 : openC E op sp nm most ≠ 3) :
    ∃ c : Int, (c == 3) = false ∧ (c != 0) = true ∧ Calls Tryz.prog 48 #[.pointer (some ⟨q, 0, none⟩), .string nm, .int .i64 most] w fun r w' => r = .returned (.tuple #[.string ⟨#[]⟩, .int .i64 c]) ∧ Below w.heap.size w w' := by
  have hk := fun e => hc (((openC_case (E := E) (op := op) (sp := sp) (most := most) h5).1).2 e)
  have hk3 := fun e => hc3 (((openC_case (E := E) (op := op) (sp := sp) (most := most) h5).2).2 e)
  cases hf : fnd nm E with
  | none => exact ⟨6, rfl, rfl, openQ_none q d A n cap av v E op sp most nm w h hn hl h5 hf⟩
  | some e =>
    obtain ⟨c, hcc⟩ : ∃ c, openCase E op sp nm most = c := ⟨_, rfl⟩
    rw [hcc] at hk hk3
    refine ⟨(c : Int), by rw [beq_eq_false_iff_ne]; intro e; exact hk3 (by omega), by rw [bne_iff_ne]; intro e; exact hk (by omega), ?_⟩
    refine (openQ_some q d A n cap av v E op sp most nm w h hn hl h5 e hf hop h0 h1 hm0 hm1 (hE e (List.mem_of_find?_eq_some hf)) hA c hcc).mono ?_
    rintro r w' (⟨_, h1, h2⟩ | ⟨h1, _⟩)
    · exact ⟨h1, h2⟩
    · exact absurd h1 hk
theorem qt_box {q : Nat} {w w' : World} {cs : Array Value} {T : TypeId} (h : QT q (w.alloc (.cells cs T)) w') (hq : q < w.heap.size) : (∀ o, w'.cell? ⟨w.heap.size, o, none⟩ = cs[o]?) ∧ w.heap.size < w'.heap.size := by
  have hs := h.size
  have hb := h.block w.heap.size (by simp) (by omega) (by simp [Value.ownBlock])
  rw [heap_alloc_new] at hb
  exact ⟨fun o => cell_of hb o, by simp at hs; omega⟩
theorem qt_cell {q b o : Nat} {w w' : World} (h : QT q w w') (hb : b < w.heap.size) (hq : b ≠ q) : w'.cell? ⟨b, o, none⟩ = w.cell? ⟨b, o, none⟩ := World.cell?_of_block (h.block b hb hq (by simp [Value.ownBlock]))
theorem below_step {wr w2 w3 : World} {o : Obj} (h : Below wr.heap.size wr w2) (h' : Below (w2.alloc o).heap.size (w2.alloc o) w3) : Below wr.heap.size wr w3 := (h.alloc h.size o).trans (h'.mono (by have := h.size; simp; omega))
/-! ### value -/
def QVAt (q : Nat) (d : ByteArray) (A : Option Addr) (n cap : Nat) (av : Value) (E : List Ent) (most : Int) (N : Nat) : Prop :=
  ∀ (s : ByteArray) (inner : Bool) (op : List ByteArray) (sp : Int) (v : Value) (w : World) (k : Int) (o : List UInt8) (op' : List ByteArray) (sp' : Int), s.size ≤ 1000000000 → MS w q d A n cap av v E op sp →
    runT E most N inner s.data.toList ⟨[], op, sp⟩ = some (k, ⟨o, op', sp'⟩) → o.length ≤ 1000000000 → 0 ≤ sp → sp' ≤ 1000000000000 → op.length + N ≤ 1000000000 →
    Calls Tryz.prog 32 #[.pointer (some ⟨q, 0, none⟩), .string s, .int .i64 most, .bool inner] w fun e w' => e = .returned (.tuple #[.string (if k = 0 then ⟨o.toArray⟩ else ⟨#[]⟩), .int .i64 k]) ∧ QT q w w' ∧ ∃ v', MS w' q d A n cap av v' E op' sp'
structure QRnd (q : Nat) (d : ByteArray) (A : Option Addr) (n cap : Nat) (av : Value) (E : List Ent) (most : Int) (N : Nat) (w wr : World) (s : ByteArray) (inner : Bool) (op : List ByteArray) (R : Int × St) (i : Nat) (O : ByteArray) : Prop where
  qt : QT q w wr
  st : ∃ (m : Nat) (sp1 : Int) (v1 : Value), m ≤ N ∧ 0 ≤ sp1 ∧ MS wr q d A n cap av v1 E op sp1 ∧ runT E most m inner (s.data.toList.drop i) ⟨O.data.toList, op, sp1⟩ = some R
set_option maxRecDepth 100000 in
set_option maxHeartbeats 2000000 in
theorem valueQ_any (q : Nat) (d : ByteArray) (A : Option Addr) (n cap : Nat) (av : Value) (E : List Ent) (most : Int) (hn : E.length = n) (hl : n ≤ 1000000000) (hm0 : -9223372036854775808 ≤ most) (hm1 : most ≤ 9223372036854775807) (hE : ∀ e, e ∈ E → e.vl.size ≤ 1000000000) (hA : ∀ a, A = some a → a.block ≠ q) : ∀ N, QVAt q d A n cap av E most N := by
  intro N
  induction N using Nat.strongRecOn with
  | ind N IH =>
  intro s inner op sp v w k o op' sp' hs hMS hrun ho h0 h1 hop
  obtain ⟨S, hS⟩ : ∃ S : ByteArray, (if k = 0 then ⟨o.toArray⟩ else ⟨#[]⟩) = S := ⟨_, rfl⟩
  rw [hS]
  have HS := Lib.hid hS
  obtain ⟨R, hR⟩ : ∃ R : Int × St, R = (k, ⟨o, op', sp'⟩) := ⟨_, rfl⟩
  rw [← hR] at hrun
  have HR := Lib.hid hR
  have hq := hMS.lt
  have H0 : Hid (QRnd q d A n cap av E most N w w s inner op R 0 ⟨#[]⟩) := ⟨Turned.refl, N, sp, v, Nat.le_refl _, h0, hMS, by rw [List.drop_zero]; exact hrun⟩
  clear hS hR hMS hrun
  go_enter Tryz.func32, Tryz.ntmps32
  go_wp2
  go_loopw [11, 10] (fun a b wr => ∃ (i : Nat) (O : ByteArray), a = .int .i64 i ∧ b = .string O ∧ i ≤ s.size ∧ Hid (QRnd q d A n cap av E most N w wr s inner op R i O)) (fun a _ _ => s.size - (intOf a).toNat)
  case atStart => exact ⟨0, ⟨#[]⟩, rfl, rfl, by omega, H0⟩
  case round =>
    obtain ⟨i, O, rfl, rfl, hi, HQ⟩ := hrel
    obtain ⟨hqt, m, sp1, v1, hm, hsp1, hms, hru⟩ := HQ.out
    have hgr := runT_grew E most m inner _ _ _ _ (by rw [HR.out] at hru; exact hru)
    have hO : O.size ≤ 1000000000 := Nat.le_trans hgr.out ho
    have hsp2 : sp1 ≤ 1000000000000 := Int.le_trans hgr.sp h1
    have hq1 := hms.lt
    by_cases hlt : i < s.size
    · obtain ⟨c, hc⟩ : ∃ c, s[i]'hlt = c := ⟨_, rfl⟩
      have hd := drop_at s i hlt
      rw [hc] at hd
      rw [hd] at hru
      have hcl : c.toNat < 256 := c.toNat_lt
      by_cases h38 : c.toNat = 38
      ·
        have t38 : ((c.toNat : Int) == 38) = true := by rw [beq_iff_eq]; omega
        have t38n : ((c.toNat : Int) != 38) = false := by rw [bne, t38]; rfl
        have t60 : ((c.toNat : Int) == 60) = false := by rw [beq_eq_false_iff_ne]; omega
        have cR := fun W => refQ_any s i W hs hlt (by rw [hc]; exact h38)
        have hra := runT_amp hru h38
        rw [← hd] at hra
        have hre := ref_end s i hlt
        have HK : Hid (∀ W, Below wr.heap.size wr W → QT q w W ∧ ∃ v', MS W q d A n cap av v' E op sp1) := fun W hb => ⟨hqt.trans (QT.of_below hb), v1, hms.below hb⟩
        rcases hra with ⟨his, heq⟩ | ⟨his, m1, hmm, hra⟩
        · rw [HR.out] at heq
          simp only [Prod.mk.injEq, St.mk.injEq] at heq
          obtain ⟨rfl, rfl, rfl, rfl⟩ := heq
          have hT : refT (s.data.toList.drop i) i = tokV 0 ⟨#[]⟩ ⟨#[]⟩ 0 := by unfold refT; rw [if_pos his]
          rw [hT] at cR
          clear hT his hre
          unfold tokV at cR
          clear hru hd hgr HQ hms hqt
          go_wp2_with (go_at_call 46; with_reducible refine (cR _).mono ?_; rintro e w2 ⟨rfl, hb2⟩; have hq2 : q < w2.heap.size := (Nat.lt_of_lt_of_le hq1 hb2.size))
          go_ret2
          exact ⟨by rw [← HS.out]; rfl, HK.out _ (hb2.alloc hb2.size _)⟩
        · obtain ⟨hre1, hre2, _⟩ := hre his
          rcases hra with ⟨hgood, hru2⟩ | ⟨hgood, k1, s1, hent, hra⟩
          · have hT : refT (s.data.toList.drop i) i = tokV 7 ⟨#[]⟩ ⟨(Lib.encodeRune (refV (s.data.toList.drop i)).1).toArray⟩ ((i + (cutA (s.data.toList.drop i)).length + 1 : Nat) : Int) := by unfold refT; rw [his, if_neg (by decide), if_pos hgood]
            rw [hT] at cR
            have h4 := enc_le4 (refV (s.data.toList.drop i)).1
            obtain ⟨ET, hET⟩ : ∃ ET : ByteArray, (⟨(Lib.encodeRune (refV (s.data.toList.drop i)).1).toArray⟩ : ByteArray) = ET := ⟨_, rfl⟩
            have hez : ET.size ≤ 4 := by rw [← hET]; show (Lib.encodeRune _).toArray.size ≤ 4; rw [List.size_toArray]; exact h4
            have hel : ET.data.toList = Lib.encodeRune (refV (s.data.toList.drop i)).1 := by rw [← hET]
            rw [hET] at cR
            rw [hre2, ← hel] at hru2
            obtain ⟨J, hJ⟩ : ∃ J, i + (cutA (s.data.toList.drop i)).length + 1 = J := ⟨_, rfl⟩
            rw [hJ] at cR hru2 hre1
            have hiJ : i < J := by omega
            have HN : Hid (∀ W, Below wr.heap.size wr W → QRnd q d A n cap av E most N w W s inner op R J (O ++ ET)) := fun W hb =>
              ⟨hqt.trans (QT.of_below hb), m1, sp1, v1, by omega, hsp1, hms.below hb, by rw [app_list]; exact hru2⟩
            unfold tokV at cR
            clear hru hd hgr HQ hms hqt hT his hre hru2 h4 hET hel hJ hgood hre2 HK
            go_wp2_with (go_at_call 46; with_reducible refine (cR _).mono ?_; rintro e w2 ⟨rfl, hb2⟩; have hq2 : q < w2.heap.size := (Nat.lt_of_lt_of_le hq1 hb2.size))
            go_roundw
            case rel => exact ⟨J, _, rfl, rfl, by omega, HN.out _ (hb2.alloc hb2.size _)⟩
            case measure => simp [intOf]; omega
          · obtain ⟨NM, hNM⟩ : ∃ NM, refNm (s.data.toList.drop i) = NM := ⟨_, rfl⟩
            rw [hNM] at hent
            cases hnc : Val.ncB NM with
            | false =>
              have hf5 : (fiveR NM).2 = false := by
                cases h : (fiveR NM).2 with
                | false => rfl
                | true => rw [five_nc NM h] at hnc; cases hnc
              have hT : refT (s.data.toList.drop i) i = tokV 0 ⟨#[]⟩ ⟨#[]⟩ 0 := by
                unfold refT
                rw [his, if_neg (by decide), if_neg (by rw [hgood]; decide), hNM, if_neg (by rw [hnc]; decide)]
              unfold entOf at hent
              rw [if_neg (by rw [hf5]; decide), if_pos hnc] at hent
              simp only [Option.some.injEq, Prod.mk.injEq] at hent
              obtain ⟨rfl, rfl⟩ := hent
              rcases hra with ⟨h0, _⟩ | ⟨_, heq⟩
              · cases h0
              · rw [HR.out] at heq
                simp only [Prod.mk.injEq, St.mk.injEq] at heq
                obtain ⟨rfl, rfl, rfl, rfl⟩ := heq
                rw [hT] at cR
                clear hT his hre hf5 hnc hNM hgood hre1 hre2
                unfold tokV at cR
                clear hru hd hgr HQ hms hqt
                go_wp2_with (go_at_call 46; with_reducible refine (cR _).mono ?_; rintro e w2 ⟨rfl, hb2⟩; have hq2 : q < w2.heap.size := (Nat.lt_of_lt_of_le hq1 hb2.size))
                go_ret2
                exact ⟨by rw [← HS.out]; rfl, HK.out _ (hb2.alloc hb2.size _)⟩
            | true =>
              have hT : refT (s.data.toList.drop i) i = tokV 8 NM ⟨#[]⟩ ((i + (cutA (s.data.toList.drop i)).length + 1 : Nat) : Int) := by
                unfold refT
                rw [his, if_neg (by decide), if_neg (by rw [hgood]; decide), hNM, if_pos hnc]
              rw [hT] at cR
              rw [hre2] at hra
              obtain ⟨J, hJ⟩ : ∃ J, i + (cutA (s.data.toList.drop i)).length + 1 = J := ⟨_, rfl⟩
              rw [hJ] at cR hra hre1
              have hiJ : i < J := by omega
              unfold tokV at cR
              have cF := fun W => fiveQ_any NM W
              clear hT his hre hgood hre2 hJ hNM hd hru
              unfold entOf at hent
              cases hf5 : (fiveR NM).2 with
              | true =>
                rw [if_pos hf5] at hent
                have hz := five_size NM hf5
                obtain ⟨F, hF⟩ : ∃ F, (fiveR NM).1 = F := ⟨_, rfl⟩
                rw [hF] at hent hz cF
                simp only [Option.some.injEq, Prod.mk.injEq] at hent
                obtain ⟨rfl, rfl⟩ := hent
                have hF0 : F.size ≠ 0 := by omega
                have hFe : F.toList.isEmpty = false := by
                  rw [toList_isEmpty]
                  simpa using hF0
                rcases hra with ⟨_, hru2⟩ | ⟨h0, _⟩
                · have HN : Hid (∀ W, Below wr.heap.size wr W → QRnd q d A n cap av E most N w W s inner op R J (O ++ F)) := fun W hb =>
                    ⟨hqt.trans (QT.of_below hb), m1, sp1, v1, by omega, hsp1, hms.below hb, by rw [app_list]; exact hru2⟩
                  clear hgr HQ hms hqt hru2 hf5 hF HK hnc
                  go_wp2_with (first | (go_at_call 46; with_reducible refine (cR _).mono ?_; rintro e w2 ⟨rfl, hb2⟩; have hq2 : q < w2.heap.size := (Nat.lt_of_lt_of_le hq1 hb2.size)) | (go_at_call 47; with_reducible refine (cF _).mono ?_; rintro e w3 ⟨rfl, rfl⟩))
                  go_roundw
                  case rel => exact ⟨J, _, rfl, rfl, by omega, HN.out _ (hb2.alloc hb2.size _)⟩
                  case measure => simp [intOf]; omega
                · exact absurd rfl h0
              | false =>
                rw [if_neg (by rw [hf5]; decide), if_neg (by rw [hnc]; decide)] at hent
                clear hnc
                rw [five_empty NM hf5] at cF
                have HB : Hid (∀ W, Below wr.heap.size wr W → MS W q d A n cap av v1 E op sp1) := fun W hb => hms.below hb
                have HT := Lib.hid hqt
                have hopl : op.length ≤ 1000000000 := by omega
                by_cases hc0 : openC E op sp1 NM most = 0
                · rw [if_pos hc0] at hent
                  obtain ⟨e0, he0, _, hev⟩ := (openC_zero' hc0).2
                  have hVs : (entR E NM).2.1.size ≤ 1000000000 := by rw [hev]; exact hE e0 he0
                  have cO := fun W (hW : MS W q d A n cap av v1 E op sp1) => openQ_yes q d A n cap av v1 E op sp1 most NM W hW hn hl hf5 hopl hsp1 hsp2 hm0 hm1 hE hA hc0
                  obtain ⟨V, hV⟩ : ∃ V, (entR E NM).2.1 = V := ⟨_, rfl⟩
                  rw [hV] at hent hVs cO
                  cases hz : runT E most m1 true V.data.toList ⟨O.data.toList, op ++ [NM], sp1 + V.size⟩ with
                  | none => rw [hz] at hent; cases hent
                  | some R1 =>
                    obtain ⟨kk, ss⟩ := R1
                    rw [hz] at hent
                    simp only at hent
                    obtain ⟨o1, hz1, ho1⟩ := runT_alone hz
                    simp only at hz1 ho1
                    have hgz := runT_grew E most m1 true _ _ _ _ hz
                    have hgzs := hgz.sp
                    simp only at hgzs
                    by_cases hkk : kk = 0
                    · subst hkk
                      rw [if_pos rfl] at hent
                      simp only [Option.some.injEq, Prod.mk.injEq] at hent
                      obtain ⟨rfl, rfl⟩ := hent
                      rcases hra with ⟨_, hru2⟩ | ⟨h0', _⟩
                      · have hop1 : ss.op = op ++ [NM] := hgz.op rfl
                        rw [hop1, closeS_snoc] at hru2
                        rw [hop1] at hz1
                        rw [ho1] at hru2
                        have hgr2 := runT_grew E most m1 inner _ _ _ _ (by rw [HR.out] at hru2; exact hru2)
                        have hO2 := Nat.le_trans hgr2.out ho
                        simp only [List.length_append] at hO2
                        have hsp3 : ss.sp ≤ 1000000000000 := Int.le_trans hgr2.sp h1
                        have cV := fun W v3 (hW : MS W q d A n cap av v3 E (op ++ [NM]) (sp1 + V.size)) => IH m1 (by omega) V true (op ++ [NM]) (sp1 + V.size) v3 W 0 o1 (op ++ [NM]) ss.sp hVs hW hz1 (by omega) (by omega) hsp3 (by rw [List.length_append]; show op.length + 1 + m1 ≤ _; omega)
                        have cC := fun W v4 (hW : MS W q d A n cap av v4 E (op ++ [NM]) ss.sp) => closeQ_any q d A n cap av v4 E op ss.sp NM W hW hA hopl
                        obtain ⟨OT, hOT⟩ : ∃ OT : ByteArray, (⟨o1.toArray⟩ : ByteArray) = OT := ⟨_, rfl⟩
                        have hotl : OT.data.toList = o1 := by rw [← hOT]
                        have hoz : OT.size ≤ 1000000000 := by have : OT.data.toList.length = OT.size := rfl; rw [hotl] at this; omega
                        simp only [if_true] at cV
                        rw [hOT] at cV
                        rw [← hotl] at hru2
                        have HN : Hid (∀ W v5, QT q wr W → MS W q d A n cap av v5 E op ss.sp → QRnd q d A n cap av E most N w W s inner op R J (O ++ OT)) := fun W v5 hq5 hm5 =>
                          ⟨hqt.trans hq5, m1, ss.sp, v5, by omega, by omega, hm5, by rw [app_list]; exact hru2⟩
                        clear hgr HQ hms hqt hru2 hf5 HK hz hz1 ho1 hgz hgr2 hotl hOT hop1 hev he0 hV hc0
                        go_wp2_with (first | (go_at_call 46; with_reducible refine (cR _).mono ?_; rintro e w2 ⟨rfl, hb2⟩; have hq2 : q < w2.heap.size := (Nat.lt_of_lt_of_le hq1 hb2.size)) | (go_at_call 47; with_reducible refine (cF _).mono ?_; rintro e w9 ⟨rfl, rfl⟩) | (go_at_call 48; refine (cO _ (HB.out _ (hb2.alloc hb2.size _))).mono ?_; rintro e w3 ⟨rfl, hqt3, v3, hms3⟩; obtain ⟨bx, hbz⟩ := qt_box hqt3 hq2; have x1 : w3.cell? ⟨w2.heap.size, 1, none⟩ = some (.string NM) := bx 1; have hbq : w2.heap.size ≠ q := (by omega); have hq3 := hms3.lt; have HQ3 := Lib.hid hqt3; have HM3 := Lib.hid hms3; clear hqt3 hms3 bx) | (go_at_call 32; refine (cV _ v3 HM3.out).mono ?_; rintro e w4 ⟨rfl, hqt4, v4, hms4⟩; have y1 : w4.cell? ⟨w2.heap.size, 1, none⟩ = some (.string NM) := (qt_cell hqt4 hbz hbq).trans x1; have hz4 : w2.heap.size < w4.heap.size := (Nat.lt_of_lt_of_le hbz hqt4.size); have HQ4 := Lib.hid hqt4; have HM4 := Lib.hid hms4; clear hqt4 hms4) | (go_at_call 49; with_reducible refine (cC _ v4 HM4.out).mono ?_; rintro e w5 ⟨rfl, hqt5, v5, hms5⟩; have HQ5 := Lib.hid hqt5; have HM5 := Lib.hid hms5; clear hqt5 hms5))
                        go_roundw
                        case rel => exact ⟨J, _, rfl, rfl, by omega, HN.out _ v5 ((((QT.of_below (hb2.alloc hb2.size _)).trans HQ3.out).trans HQ4.out).trans HQ5.out) HM5.out⟩
                        case measure => simp [intOf]; omega
                      · exact absurd rfl h0'
                    · rw [if_neg hkk] at hent
                      simp only [Option.some.injEq, Prod.mk.injEq] at hent
                      obtain ⟨rfl, rfl⟩ := hent
                      rcases hra with ⟨h0', _⟩ | ⟨_, heq⟩
                      · exact absurd h0' hkk
                      · rw [HR.out] at heq
                        simp only [Prod.mk.injEq] at heq
                        obtain ⟨rfl, hss⟩ := heq
                        subst hss
                        simp only at hz1 ho1
                        have hO2 := ho
                        rw [ho1, List.length_append] at hO2
                        have cV := fun W v3 (hW : MS W q d A n cap av v3 E (op ++ [NM]) (sp1 + V.size)) => IH m1 (by omega) V true (op ++ [NM]) (sp1 + V.size) v3 W k o1 op' sp' hVs hW hz1 (by omega) (by omega) h1 (by rw [List.length_append]; show op.length + 1 + m1 ≤ _; omega)
                        rw [if_neg hkk] at cV
                        have hkn : (k != 0) = true := by simpa using hkk
                        have HS2 : Hid (S = ⟨#[]⟩) := by show S = _; rw [← HS.out, if_neg hkk]
                        clear hgr HQ hms hqt hf5 HK hz hz1 ho1 hgz hev he0 hV hc0 HS
                        go_wp2_with (first | (go_at_call 46; with_reducible refine (cR _).mono ?_; rintro e w2 ⟨rfl, hb2⟩; have hq2 : q < w2.heap.size := (Nat.lt_of_lt_of_le hq1 hb2.size)) | (go_at_call 47; with_reducible refine (cF _).mono ?_; rintro e w9 ⟨rfl, rfl⟩) | (go_at_call 48; refine (cO _ (HB.out _ (hb2.alloc hb2.size _))).mono ?_; rintro e w3 ⟨rfl, hqt3, v3, hms3⟩; obtain ⟨bx, hbz⟩ := qt_box hqt3 hq2; have x1 : w3.cell? ⟨w2.heap.size, 1, none⟩ = some (.string NM) := bx 1; have hbq : w2.heap.size ≠ q := (by omega); have hq3 := hms3.lt; have HQ3 := Lib.hid hqt3; have HM3 := Lib.hid hms3; clear hqt3 hms3 bx) | (go_at_call 32; refine (cV _ v3 HM3.out).mono ?_; rintro e w4 ⟨rfl, hqt4, v4, hms4⟩; have y1 : w4.cell? ⟨w2.heap.size, 1, none⟩ = some (.string NM) := (qt_cell hqt4 hbz hbq).trans x1; have hz4 : w2.heap.size < w4.heap.size := (Nat.lt_of_lt_of_le hbz hqt4.size); have HQ4 := Lib.hid hqt4; have HM4 := Lib.hid hms4; clear hqt4 hms4))
                        go_ret2
                        exact ⟨by rw [HS2.out]; rfl, (((HT.out.trans (QT.of_below (hb2.alloc hb2.size _))).trans HQ3.out).trans HQ4.out), _, HM4.out⟩
                · rw [if_neg hc0] at hent
                  simp only [Option.some.injEq, Prod.mk.injEq] at hent
                  obtain ⟨rfl, rfl⟩ := hent
                  by_cases hc3 : openC E op sp1 NM most = 3
                  · rw [if_pos hc3] at hra
                    rcases hra with ⟨h0', _⟩ | ⟨_, heq⟩
                    · cases h0'
                    · rw [HR.out] at heq
                      simp only [Prod.mk.injEq, St.mk.injEq] at heq
                      obtain ⟨rfl, rfl, rfl, rfl⟩ := heq
                      have cO := fun W (hW : MS W q d A n cap av v1 E op' sp') => openQ_lim q d A n cap av v1 E op' sp' most NM W hW hn hl hf5 hopl hsp1 hsp2 hm0 hm1 hE hA hc3
                      clear hgr HQ hms hqt hf5 hc0 hc3
                      go_wp2_with (first | (go_at_call 46; with_reducible refine (cR _).mono ?_; rintro e w2 ⟨rfl, hb2⟩; have hq2 : q < w2.heap.size := (Nat.lt_of_lt_of_le hq1 hb2.size)) | (go_at_call 47; with_reducible refine (cF _).mono ?_; rintro e w9 ⟨rfl, rfl⟩) | (go_at_call 48; with_reducible refine (cO _ (HB.out _ (hb2.alloc hb2.size _))).mono ?_; rintro e w3 ⟨rfl, hb3⟩; have hb4 := below_step hb2 hb3))
                      go_ret2
                      exact ⟨by rw [← HS.out]; rfl, HK.out _ hb4⟩
                  · rw [if_neg hc3] at hra
                    rcases hra with ⟨h0', _⟩ | ⟨_, heq⟩
                    · cases h0'
                    · rw [HR.out] at heq
                      simp only [Prod.mk.injEq, St.mk.injEq] at heq
                      obtain ⟨rfl, rfl, rfl, rfl⟩ := heq
                      have cO := fun W (hW : MS W q d A n cap av v1 E op' sp') => openQ_no q d A n cap av v1 E op' sp' most NM W hW hn hl hf5 hopl hsp1 hsp2 hm0 hm1 hE hA hc0 hc3
                      clear hgr HQ hms hqt hf5 hc0 hc3
                      go_wp2_with (first | (go_at_call 46; with_reducible refine (cR _).mono ?_; rintro e w2 ⟨rfl, hb2⟩; have hq2 : q < w2.heap.size := (Nat.lt_of_lt_of_le hq1 hb2.size)) | (go_at_call 47; with_reducible refine (cF _).mono ?_; rintro e w9 ⟨rfl, rfl⟩) | (go_at_call 48; obtain ⟨cc, q1, q2, cO2⟩ := cO _ (HB.out _ (hb2.alloc hb2.size _)); with_reducible refine cO2.mono ?_; rintro e w3 ⟨rfl, hb3⟩; have hb4 := below_step hb2 hb3; clear cO2))
                      go_ret2
                      exact ⟨by rw [← HS.out]; rfl, HK.out _ hb4⟩
      · have t38 : ((c.toNat : Int) == 38) = false := by rw [beq_eq_false_iff_ne]; omega
        have t38n : ((c.toNat : Int) != 38) = true := by rw [bne, t38]; rfl
        by_cases h60 : c.toNat = 60 ∧ inner = true
        · obtain ⟨h60, rfl⟩ := h60
          have t60 : ((c.toNat : Int) == 60) = true := by rw [beq_iff_eq]; omega
          have he := runT_lt hru h60
          rw [HR.out] at he
          simp only [Prod.mk.injEq, St.mk.injEq] at he
          obtain ⟨rfl, rfl, rfl, rfl⟩ := he
          have HMS := Lib.hid hms
          have HT := Lib.hid hqt
          clear hru hd hgr HQ hms hqt
          go_wp2
          go_ret2
          exact ⟨by rw [← HS.out]; rfl, HT.out, _, HMS.out⟩
        · have cS := fun W => Ref.brackenref1_Space.calls (c.toNat : Int) (spaceB (c.toNat : Int)) W rfl
          have t60 : ((c.toNat : Int) == 60) = false ∨ inner = false := by
            by_cases h : c.toNat = 60
            · exact .inr (by cases hin : inner with | false => rfl | true => exact absurd ⟨h, hin⟩ h60)
            · exact .inl (by rw [beq_eq_false_iff_ne]; omega)
          have hez : (s.extract i (i + 1)).size = 1 := by simp; omega
          have hex : (s.extract i (i + 1)).data.toList = [c] := by rw [← hc]; exact ext_one' s i hlt
          cases hsp : spaceB (c.toNat : Int) with
          | true =>
            rw [hsp] at cS
            obtain ⟨m1, hm1, hru1⟩ := runT_space hru hsp
            have HN : Hid (∀ W, Below wr.heap.size wr W → QRnd q d A n cap av E most N w W s inner op R (i + 1) (O ++ ⟨#[32]⟩)) := fun W hb =>
              ⟨hqt.trans (QT.of_below hb), m1, sp1, v1, by omega, hsp1, hms.below hb, by rw [app_list]; exact hru1⟩
            have h60n : c.toNat ≠ 60 := by intro e; rw [e] at hsp; exact absurd hsp (by decide)
            clear hru hd hgr HQ hms hqt hru1 hsp hex h60
            clear t60
            have t60 : ((c.toNat : Int) == 60) = false := by rw [beq_eq_false_iff_ne]; intro e; exact h60n (by omega)
            go_wp2_with (go_at_call 45; with_reducible refine (cS _).mono ?_; rintro e w2 ⟨rfl, hb2⟩)
            go_roundw
            case rel => exact ⟨i + 1, _, by go_num, rfl, by omega, HN.out _ hb2.below⟩
            case measure => simp [intOf]; omega
          | false =>
            rw [hsp] at cS
            obtain ⟨m1, hm1, hru1⟩ := runT_other hru hsp h60 h38
            have HN : Hid (∀ W, Below wr.heap.size wr W → QRnd q d A n cap av E most N w W s inner op R (i + 1) (O ++ s.extract i (i + 1))) := fun W hb =>
              ⟨hqt.trans (QT.of_below hb), m1, sp1, v1, by omega, hsp1, hms.below hb, by rw [app_list, hex]; exact hru1⟩
            clear hru hd hgr HQ hms hqt hru1 hsp hex h60
            have cS60 := fun W => Ref.brackenref1_Space.calls 60 false W rfl
            rcases t60 with t60 | rfl
            · go_wp2_with (go_at_call 45; with_reducible refine (cS _).mono ?_; rintro e w2 ⟨rfl, hb2⟩)
              go_roundw
              case rel => exact ⟨i + 1, _, by go_num, rfl, by omega, HN.out _ hb2.below⟩
              case measure => simp [intOf]; omega
            · go_wp2_with (go_at_call 45; (first | (with_reducible refine (cS _).mono ?_) | (with_reducible refine (cS60 _).mono ?_)); rintro e w2 ⟨rfl, hb2⟩)
              all_goals
                go_roundw
                case rel => exact ⟨i + 1, _, by go_num, rfl, by omega, HN.out _ hb2.below⟩
                case measure => simp [intOf]; omega
    · rw [List.drop_eq_nil_of_le (by have : s.data.toList.length = s.size := rfl; omega)] at hru
      have he := runT_end hru
      rw [HR.out] at he
      simp only [Prod.mk.injEq, St.mk.injEq] at he
      obtain ⟨rfl, rfl, rfl, rfl⟩ := he
      have HMS := Lib.hid hms
      have HT := Lib.hid hqt
      clear hru hgr HQ hms hqt
      go_wp2
      go_ret2
      exact ⟨by rw [← HS.out]; rfl, HT.out, _, HMS.out⟩
end Go.Proofs.YtmjdjpelhhibgaaGreatDoor.Val
