/- The reader of values: a text, from the left: the walk. -/
import Derived.Test.YtmjdjpelhhibgaaGreatDoorVTxt2
namespace Go.Proofs.YtmjdjpelhhibgaaGreatDoor.Val
open Go Go.RowKit Go.Proofs.YtmjdjpelhhibgaaGreatDoorW.PrintWords Go.Proofs.YtmjdjpelhhibgaaGreatDoor.Rf Go.Proofs.YtmjdjpelhhibgaaGreatDoor.Spec Go.Proofs.YtmjdjpelhhibgaaGreatDoor.Giv
set_option linter.unusedVariables false
set_option linter.unusedSimpArgs false
theorem runT_other {E : List Ent} {most : Int} {n : Nat} {inner : Bool} {c : UInt8} {t : List UInt8} {st : St} {R : Int × St} (h : runT E most n inner (c :: t) st = some R) (h1 : spaceB (c.toNat : Int) = false) (h2 : ¬ (c.toNat = 60 ∧ inner = true)) (h3 : c.toNat ≠ 38) :
    ∃ m, m ≤ n ∧ runT E most m inner t ⟨st.out ++ [c], st.op, st.sp⟩ = some R := by
  cases n with
  | zero => cases h
  | succ n => rw [runT] at h; simp only [h1, Bool.false_eq_true, if_false, h2, h3] at h; exact ⟨n, by omega, h⟩
theorem runT_wide (E : List Ent) (most : Int) (n : Nat) (inner : Bool) (s : ByteArray) (i : Nat) (hi : i < s.size) (st : St) (R : Int × St) (h : runT E most n inner (s.data.toList.drop i) st = some R)
    (h1 : spaceB ((s[i]'hi).toNat : Int) = false) (h2 : ¬ ((s[i]'hi).toNat = 60 ∧ inner = true)) (h3 : (s[i]'hi).toNat ≠ 38) :
    ∃ m, m ≤ n ∧ runT E most m inner (s.data.toList.drop (i + (Utf8.decode s i).2)) ⟨st.out ++ (s.extract i (i + (Utf8.decode s i).2)).data.toList, st.op, st.sp⟩ = some R := by
  by_cases h60 : (s[i]'hi).toNat = 60
  · have hw := dec_one s i hi (by omega)
    rw [hw]
    rw [drop_at s i hi] at h
    have e : (s.extract i (i + 1)).data.toList = [s[i]'hi] := by
      have hl : i < s.data.toList.length := hi
      simp only [ByteArray.data_extract, Array.toList_extract, List.extract_eq_take_drop]
      rw [show i + 1 - i = 1 by omega, drop_at s i hi]
      rfl
    rw [e]
    exact runT_other h h1 h2 h3
  · rw [split_drop s i (i + (Utf8.decode s i).2) (by omega)] at h
    exact runT_plain E most inner _ n _ st R (plain_wide s i hi h1 h60 h3) h
theorem refV_range (l : List UInt8) (h : (refV l).2 = true) : 0 ≤ (refV l).1 ∧ (refV l).1 ≤ 1114111 := by
  unfold refV charRefV at h ⊢
  split
  · rename_i h1; rw [h1] at h; cases h
  · rename_i r h1
    rw [h1] at h
    simp only at h ⊢
    split
    · rename_i h2
      simp only [Bool.and_eq_true] at h2
      have h3 := h2.2
      unfold charB at h3
      rw [decide_eq_true_eq] at h3
      show 0 ≤ r ∧ r ≤ 1114111
      omega
    · rename_i h2
      rw [if_neg h2] at h
      cases h
/-- The state of a round: at pos, all up to dn done. -/
def Rnd (w0 : World) (p rb : Nat) (E : List Ent) (most : Int) (w : World) (s : ByteArray) (inner : Bool) (n : Nat) (st : St) (k : Int) (st' : St) (pos dn : Nat) (wr : World) : Prop :=
  ∃ (m : Nat) (sc : St), m ≤ n ∧ VS w0 wr p rb E most sc ∧ Fr p rb w wr ∧ runT E most m inner (s.data.toList.drop (max pos dn)) sc = some (k, st') ∧ sc.op = st.op ∧ (pos < dn → s.data.toList[dn - 1]? = some 59)
/-- What stands in a round. -/
structure Pk (w0 : World) (p rb : Nat) (E : List Ent) (most : Int) (w : World) (s : ByteArray) (pos : Nat) (sc : St) (W : World) : Prop where
  v : VS w0 W p rb E most sc
  f : Fr p rb w W
  it : W.heap[w.heap.size]? = some (.stringIter s pos)
  hp : p < w.heap.size
  hb : rb < w.heap.size
theorem Pk.below {w0 : World} {p rb : Nat} {E : List Ent} {most : Int} {w : World} {s : ByteArray} {pos : Nat} {sc : St} {W W' : World} (h : Pk w0 p rb E most w s pos sc W) (hb : Below W.heap.size W W') : Pk w0 p rb E most w s pos sc W' :=
  ⟨h.v.below hb, h.f.trans (Fr.of_below hb), (hb.block _ (lt_of_block h.it)).trans h.it, h.hp, h.hb⟩
theorem Pk.step {w0 : World} {p rb : Nat} {E : List Ent} {most : Int} {w : World} {s : ByteArray} {pos : Nat} {sc sc' : St} {W W' : World} (h : Pk w0 p rb E most w s pos sc W) (hv : VS w0 W' p rb E most sc') (hf : Fr p rb W W') : Pk w0 p rb E most w s pos sc' W' :=
  ⟨hv, h.f.trans hf, hf.at h.it (by have := h.hp; omega) (by have := h.hb; omega), h.hp, h.hb⟩
theorem Pk.drew {w0 : World} {p rb : Nat} {E : List Ent} {most : Int} {w : World} {s : ByteArray} {pos : Nat} {sc : St} {W : World} (h : Pk w0 p rb E most w s pos sc W) : Pk w0 p rb E most w s pos sc W.drew := ⟨h.v.drew, h.f, h.it, h.hp, h.hb⟩
theorem crS_app (l : List UInt8) : (crS l) ++ (⟨#[59]⟩ : ByteArray) = crS (l ++ [59]) := by
  apply ByteArray.ext
  apply Array.toList_inj.mp
  rw [app_list]
  simp [crS]
theorem crS_size (l : List UInt8) : (crS l).size = l.length := List.size_toArray
theorem crS_ext (l : List UInt8) : (crS l).extract 1 (crS l).size = crS (l.drop 1) := by
  apply ByteArray.ext
  apply Array.toList_inj.mp
  rw [ext_list]
  simp [crS]
set_option maxRecDepth 1000000 in
set_option maxHeartbeats 8000000 in
theorem text_any (w0 : World) (hE0 : Env w0) (E : List Ent) (most : Int) (hm0 : -9223372036854775808 ≤ most) (hm1 : most ≤ 9223372036854775807) (hEv : ∀ nm, (entR E nm).2.1.size < 4294967281) (p rb : Nat) : ∀ n, TextAt w0 p rb E most n := by
  intro n
  induction n using Nat.strongRecOn with
  | _ n ih =>
  intro s inner st w k st' hs h hr ho hop
  have hEN : ∀ m, m < n → ∀ (nm : ByteArray) (sc : St) (W : World) (k1 : Int) (s1 : St), nm.size < 4294967281 → VS w0 W p rb E most sc → entOf (runT E most m) E most nm sc = some (k1, s1) → s1.out.length ≤ 1000000000000 → sc.op = st.op →
      Calls Tryz.prog 38 #[.pointer (some ⟨rb, 0, none⟩), .string nm] W (Did w0 p rb E most W k1 s1) := fun m hm nm sc W k1 s1 hn hv he ho1 hop1 =>
    entity_any w0 hE0 E most hm0 hm1 hEv p rb m (ih m hm) nm hn sc W k1 s1 hv he ho1 (by rw [hop1]; omega)
  have HEN := Lib.hid hEN
  have hp0 := h.plt
  have hb0 := h.lt
  have hw0 := h.rs.size
  have HR0 : Hid (Rnd w0 p rb E most w s inner n st k st' 0 0 (w.alloc (.stringIter s 0))) := ⟨n, st, Nat.le_refl _, h.below ((Below.refl _ _).alloc (Nat.le_refl _) _), Fr.of_below ((Below.refl _ _).alloc (Nat.le_refl _) _), by simpa using hr, rfl, fun h => absurd h (Nat.lt_irrefl 0)⟩
  have HO := Lib.hid ho
  clear hEN h hr ih hEv ho hop hm0 hm1
  go_enter Tryz.func23, Tryz.ntmps23
  go_wp2
  go_loopw [7] (fun d wr => ∃ (pos dn : Nat), d = .int .i64 dn ∧ wr.heap[w.heap.size]? = some (.stringIter s pos) ∧ pos ≤ s.size ∧ dn ≤ s.size ∧ Hid (Rnd w0 p rb E most w s inner n st k st' pos dn wr)) (fun _ wr => s.size - wr.iterPos w.heap.size)
  case atStart => exact ⟨0, 0, rfl, World.iter_heap w s 0, by omega, by omega, HR0⟩
  case round =>
    obtain ⟨pos, dn, rfl, hit, hpl, hdl, HR⟩ := hrel
    clear HR0
    have hpos0 := iterPos_of hit
    by_cases hp : pos < s.size
    · have hnx : ∀ ty, (Instr.next (.pointer (some ⟨w.heap.size, 0, none⟩)) true ty).run Tryz.prog wr = _ := fun ty => Lib.run_next_any_at wr w.heap.size s pos ty hit hp
      have hwd := width_pos s pos hp
      have hwl := width_le s pos hp
      have hit2 := Lib.iterAt_heap wr w.heap.size s pos (pos + (Utf8.decode s pos).2) hit
      obtain ⟨m, sc, hm, hv0, hf0, hrun, hop1, hsem⟩ := HR.out
      have hv1 := hv0.iter hit (by omega) (pos + (Utf8.decode s pos).2)
      have hf1 := hf0.iter hit (pos + (Utf8.decode s pos).2)
      obtain ⟨W1, hW1⟩ : ∃ W1, W1 = wr.iterAt w.heap.size s (pos + (Utf8.decode s pos).2) := ⟨_, rfl⟩
      rw [← hW1] at hnx hit2 hv1 hf1
      have hol : sc.out.length ≤ 1000000000000 := Nat.le_trans (runT_grew E most m inner _ sc k st' hrun).out HO.out
      by_cases hsk : pos < dn
      · -- behind a reference's first sign
        have hle := skip_le s pos dn hp hsk (hsem hsk)
        have hmx : max pos dn = max (pos + (Utf8.decode s pos).2) dn := by omega
        have HN : Hid (Rnd w0 p rb E most w s inner n st k st' (pos + (Utf8.decode s pos).2) dn W1) := ⟨m, sc, hm, hv1, hf1, by rw [← hmx]; exact hrun, hop1, fun _ => hsem hsk⟩
        have hlt : (pos : Int) < (dn : Int) := by omega
        generalize Utf8.decode s pos = D at *
        clear hW1 hit HR hrun hv0 hf0 hv1 hf1 hsem hmx hle
        go_wp2
        go_roundw
        case rel => exact ⟨_, dn, rfl, hit2, hwl, hdl, HN⟩
        case measure => rw [iterPos_of hit2, hpos0]; omega
      · have hlt : ¬ (pos : Int) < (dn : Int) := by omega
        have hmx : max pos dn = pos := by omega
        rw [hmx] at hrun
        obtain ⟨c, hc⟩ : ∃ c, s[pos]'hp = c := ⟨_, rfl⟩
        have hdrop := drop_at s pos hp
        rw [hc] at hdrop
        have hsb := blank_byte s pos hp
        have h60 := dec_sign s pos hp 60 (by omega)
        have h38 := dec_sign s pos hp 38 (by omega)
        have hone := dec_one s pos hp
        have hpw := fun h1 h2 h3 => runT_wide E most m inner s pos hp sc (k, st') hrun h1 h2 h3
        rw [hc] at hsb h60 h38 hone hpw
        obtain ⟨cb, hcb⟩ : ∃ b, spaceB (c.toNat : Int) = b := ⟨_, rfl⟩
        have cS : ∀ W, Calls Tryz.prog 33 #[.int .i32 ((Utf8.decode s pos).1 : Int)] W fun e w' => e = .returned (.bool cb) ∧ Below W.heap.size W w' := fun W => by
          refine (runes_Space.calls _ _ W (by unfold runes_Space.f; rw [hsb, hcb])).mono ?_
          rintro e w' ⟨rfl, ⟨q, rfl⟩⟩
          exact ⟨rfl, ⟨rfl, rfl, rfl, Nat.le_refl _, fun _ _ => rfl⟩⟩
        have HP : Hid (Pk w0 p rb E most w s (pos + (Utf8.decode s pos).2) sc W1) := ⟨hv1, hf1, hit2, hp0, hb0⟩
        clear hW1 hit HR hv0 hf0 hsem hmx hdl hv1 hf1 hit2
        cases cb with
        | true =>
          have hc1 : c.toNat < 128 := by unfold spaceB at hcb; rw [decide_eq_true_eq] at hcb; omega
          have hd1 := hone hc1
          rw [hdrop] at hrun
          obtain ⟨m1, hm1, hrun1⟩ := runT_space hrun hcb
          have cB : ∀ W, VS w0 W p rb E most sc → Calls Tryz.prog 34 #[.pointer (some ⟨rb, 0, none⟩), .int .u8 32] W fun e w' => e = .returned .nilIface ∧ VS w0 w' p rb E most ⟨sc.out ++ [32], sc.op, sc.sp⟩ ∧ Fr p rb W w' := fun W hW => hW.byte hol 32
          have HK : Hid (∀ W, Pk w0 p rb E most w s (pos + (Utf8.decode s pos).2) ⟨sc.out ++ [32], sc.op, sc.sp⟩ W → Rnd w0 p rb E most w s inner n st k st' (pos + 1) (pos + 1) W) := fun W hV =>
            ⟨m1, _, by omega, hV.v, hV.f, by rw [Nat.max_self]; exact hrun1, hop1, fun h => absurd h (Nat.lt_irrefl _)⟩
          rw [hd1] at HP HK hwl
          generalize Utf8.decode s pos = D at *
          clear hrun hrun1 hpw hone h60 h38 hsb hcb hd1 hol hdrop hc
          go_wp2_with (first | (go_at_call 33; refine (cS _).mono ?_; rintro e w2 ⟨rfl, hb2⟩; have K2 := Lib.hid (HP.out.below hb2); clear hb2) | (go_at_call 34; refine (cB _ K2.out.v).mono ?_; rintro e w3 ⟨rfl, hv3, hf3⟩; have K3 := Lib.hid (K2.out.step hv3 hf3); clear hv3 hf3))
          have hit3 := K3.out.it
          go_roundw
          case rel => exact ⟨pos + 1, pos + 1, rfl, hit3, by omega, by omega, HK.out _ K3.out⟩
          case measure => rw [iterPos_of hit3, hpos0]; omega
        | false =>
          by_cases q38 : c.toNat = 38
          · have t38 : (((Utf8.decode s pos).1 : Int) == 38) = true := by rw [beq_iff_eq]; have := h38.2 q38; omega
            have t60 : (((Utf8.decode s pos).1 : Int) == 60) = false := by rw [beq_eq_false_iff_ne]; intro e; have := h38.2 q38; omega
            have hd1 := hone (by omega)
            rw [hd1] at HP hwl
            have hxs := ext_list s pos
            have hxz := ext_size s pos
            have hra := runT_amp (by rw [hdrop] at hrun; exact hrun) q38
            have hre := ref_end s pos hp
            have hca := cutA_amp c (s.data.toList.drop (pos + 1)) q38
            rw [← hdrop] at hra hca
            have hcl : (cutA (s.data.toList.drop pos)).length + pos ≤ s.size := by
              cases hi : cutIs (s.data.toList.drop pos) with
              | true => have := (hre hi).1; omega
              | false => rw [cut_not _ hi]; have : s.data.toList.length = s.size := rfl; rw [List.length_drop]; omega
            have hc1 : 1 ≤ (cutA (s.data.toList.drop pos)).length := by rw [hca.1]; simp
            have cCut : ∀ W, Env W → Calls Tryz.prog 35 #[.string (s.extract pos s.size), .string ⟨#[59]⟩] W fun e w' => e = .returned (.tuple #[.string (crS (cutA (s.data.toList.drop pos))), .string (crS (cutB (s.data.toList.drop pos))), .bool (cutIs (s.data.toList.drop pos))]) ∧ Below W.heap.size W w' := fun W hE =>
              strings_Cut.calls _ ⟨#[59]⟩ _ _ _ W hE (by unfold strings_Cut.f; rw [if_pos (by rw [hxz]; omega), hxs]; rfl)
            have cCR0 : cutIs (s.data.toList.drop pos) = true → ∀ W, Env W → Calls Tryz.prog 36 #[.string (crS (cutA (s.data.toList.drop pos)) ++ ⟨#[59]⟩)] W fun e w' => e = .returned (.tuple #[.int .i32 (refV (s.data.toList.drop pos)).1, .bool (refV (s.data.toList.drop pos)).2]) ∧ Below W.heap.size W w' := fun hci W hE => by
              have hre1 := (hre hci).1
              rw [crS_app]
              exact token_CharRef.calls _ _ _ W hE (by unfold token_CharRef.f; rw [if_pos (by rw [crS_size, List.length_append]; simp; omega)]; rfl)
            have hnm : refNm (s.data.toList.drop pos) = (crS (cutA (s.data.toList.drop pos))).extract 1 (crS (cutA (s.data.toList.drop pos))).size := (crS_ext _).symm
            have hrr := refV_range (s.data.toList.drop pos)
            have hA : (crS (cutA (s.data.toList.drop pos))).size = (cutA (s.data.toList.drop pos)).length := crS_size _
            have HEnv : Hid (∀ W sc', VS w0 W p rb E most sc' → Env W) := fun W sc' hW => hW.env hE0
            have HRE := Lib.hid hre
            clear hxs hxz hre hca hdrop hpw hone h60 h38 hsb hcb hc hd1 hwd hrun
            generalize hAA : crS (cutA (s.data.toList.drop pos)) = AB at *
            generalize crS (cutB (s.data.toList.drop pos)) = BB at *
            generalize Utf8.decode s pos = D at *
            rcases hra with ⟨his, heq⟩ | ⟨his, m1, hm1, hra⟩
            · simp only [Prod.mk.injEq] at heq
              obtain ⟨rfl, rfl⟩ := heq
              rw [his] at cCut
              clear hAA his hrr HRE hnm hA hcl hc1 cCR0
              go_wp2_with (first | (go_at_call 33; refine (cS _).mono ?_; rintro e w2 ⟨rfl, hb2⟩; have K2 := Lib.hid (HP.out.below hb2); clear hb2) | (go_at_call 35; refine (cCut _ (HEnv.out _ _ K2.out.v)).mono ?_; rintro e w3 ⟨rfl, hb3⟩; have K3 := Lib.hid (K2.out.below hb3); clear hb3))
              go_ret
              exact ⟨rfl, K3.out.v, K3.out.f⟩
            · obtain ⟨hre1, hre2, hre3⟩ := HRE.out his
              have cCR := cCR0 his
              clear cCR0
              rw [his] at cCut
              rw [← hA] at hre1 hre2 hre3 hcl hc1
              have HRD : Hid (∀ (sc' : St) (m2 : Nat) W, m2 ≤ n → Pk w0 p rb E most w s (pos + 1) sc' W → runT E most m2 inner (cutB (s.data.toList.drop pos)) sc' = some (k, st') → sc'.op = st.op → Rnd w0 p rb E most w s inner n st k st' (pos + 1) (pos + AB.size + 1) W) := fun sc' m2 W hm2 hV hru hop' =>
                ⟨m2, sc', hm2, hV.v, hV.f, by rw [show max (pos + 1) (pos + AB.size + 1) = pos + AB.size + 1 by omega, ← hre2]; exact hru, hop', fun _ => by rw [show pos + AB.size + 1 - 1 = pos + AB.size by omega]; exact hre3⟩
              clear hAA his HRE hA hre2 hre3
              rcases hra with ⟨hgood, hru⟩ | ⟨hgood, k1, s1, hent, hra⟩
              · rw [hgood] at cCR
                obtain ⟨hr0, hr1⟩ := hrr hgood
                have cWr : ∀ W, VS w0 W p rb E most sc → Calls Tryz.prog 37 #[.pointer (some ⟨rb, 0, none⟩), .int .i32 (refV (s.data.toList.drop pos)).1] W fun e w' => ∃ v, e = .returned (.tuple #[.int .i64 v, .nilIface]) ∧ VS w0 w' p rb E most ⟨sc.out ++ Lib.encodeRune (refV (s.data.toList.drop pos)).1, sc.op, sc.sp⟩ ∧ Fr p rb W w' := fun W hW => by
                  refine (hW.rune hol _ (by omega) (by omega)).mono ?_
                  rintro e w' ⟨rfl, h1, h2⟩
                  exact ⟨_, rfl, h1, h2⟩
                have HK : Hid (∀ W, Pk w0 p rb E most w s (pos + 1) ⟨sc.out ++ Lib.encodeRune (refV (s.data.toList.drop pos)).1, sc.op, sc.sp⟩ W → Rnd w0 p rb E most w s inner n st k st' (pos + 1) (pos + AB.size + 1) W) := fun W hV => HRD.out _ m1 W (by omega) hV hru hop1
                generalize Lib.encodeRune (refV (s.data.toList.drop pos)).1 = ER at *
                generalize refV (s.data.toList.drop pos) = RV at *
                obtain ⟨rv, rg⟩ := RV
                simp only at *
                clear hru hrr hgood hnm hr0 hr1 HRD
                go_wp2_with (first | (go_at_call 33; refine (cS _).mono ?_; rintro e w2 ⟨rfl, hb2⟩; have K2 := Lib.hid (HP.out.below hb2); clear hb2) | (go_at_call 35; refine (cCut _ (HEnv.out _ _ K2.out.v)).mono ?_; rintro e w3 ⟨rfl, hb3⟩; have K3 := Lib.hid (K2.out.below hb3); clear hb3) | (go_at_call 36; refine (cCR _ (HEnv.out _ _ K3.out.v)).mono ?_; rintro e w4 ⟨rfl, hb4⟩; have K4 := Lib.hid (K3.out.below hb4); clear hb4) | (go_at_call 37; refine (cWr _ K4.out.v).mono ?_; rintro e w5 ⟨vv, rfl, hv5, hf5⟩; have K5 := Lib.hid (K4.out.step hv5 hf5); clear hv5 hf5))
                have hit5 := K5.out.it
                go_roundw
                case rel => exact ⟨pos + 1, pos + AB.size + 1, by go_num, hit5, by omega, by omega, HK.out _ K5.out⟩
                case measure => rw [iterPos_of hit5, hpos0]; omega
              · rw [hgood] at cCR
                have cEn : ∀ W, VS w0 W p rb E most sc → s1.out.length ≤ 1000000000000 → Calls Tryz.prog 38 #[.pointer (some ⟨rb, 0, none⟩), .string (AB.extract 1 AB.size)] W (Did w0 p rb E most W k1 s1) := fun W hW hol1 => by
                  rw [← hnm]
                  exact HEN.out m1 (by omega) _ sc W k1 s1 (by rw [hnm]; simp; omega) hW hent hol1 hop1
                generalize refV (s.data.toList.drop pos) = RV at *
                obtain ⟨rv, rg⟩ := RV
                simp only at *
                rcases hra with ⟨rfl, hru⟩ | ⟨hk1, heq⟩
                · have hg2 := runT_grew E most m1 inner _ s1 k st' hru
                  have hop2 : s1.op = st.op := by
                    have hg3 := entOf_grew (fun b l st k st' h => runT_grew E most m1 b l st k st' h) hent
                    rw [hg3.op rfl, hop1]
                  have cEn' := fun W hW => cEn W hW (Nat.le_trans hg2.out HO.out)
                  have HK : Hid (∀ W, Pk w0 p rb E most w s (pos + 1) s1 W → Rnd w0 p rb E most w s inner n st k st' (pos + 1) (pos + AB.size + 1) W) := fun W hV => HRD.out _ m1 W (by omega) hV hru hop2
                  clear hru hrr hgood hnm HRD cEn hg2 hop2 hent
                  go_wp2_with (first | (go_at_call 33; refine (cS _).mono ?_; rintro e w2 ⟨rfl, hb2⟩; have K2 := Lib.hid (HP.out.below hb2); clear hb2) | (go_at_call 35; refine (cCut _ (HEnv.out _ _ K2.out.v)).mono ?_; rintro e w3 ⟨rfl, hb3⟩; have K3 := Lib.hid (K2.out.below hb3); clear hb3) | (go_at_call 36; refine (cCR _ (HEnv.out _ _ K3.out.v)).mono ?_; rintro e w4 ⟨rfl, hb4⟩; have K4 := Lib.hid (K3.out.below hb4); clear hb4) | (go_at_call 38; refine (cEn' _ K4.out.v).mono ?_; rintro e w5 ⟨rfl, hv5, hf5⟩; have K5 := Lib.hid (K4.out.step hv5 hf5); clear hv5 hf5))
                  have hit5 := K5.out.it
                  go_roundw
                  case rel => exact ⟨pos + 1, pos + AB.size + 1, by go_num, hit5, by omega, by omega, HK.out _ K5.out⟩
                  case measure => rw [iterPos_of hit5, hpos0]; omega
                · simp only [Prod.mk.injEq] at heq
                  obtain ⟨rfl, rfl⟩ := heq
                  have cEn' := fun W hW => cEn W hW HO.out
                  have hkn : (k != 0) = true := by simpa using hk1
                  clear hrr hgood hnm HRD cEn hent hk1
                  go_wp2_with (first | (go_at_call 33; refine (cS _).mono ?_; rintro e w2 ⟨rfl, hb2⟩; have K2 := Lib.hid (HP.out.below hb2); clear hb2) | (go_at_call 35; refine (cCut _ (HEnv.out _ _ K2.out.v)).mono ?_; rintro e w3 ⟨rfl, hb3⟩; have K3 := Lib.hid (K2.out.below hb3); clear hb3) | (go_at_call 36; refine (cCR _ (HEnv.out _ _ K3.out.v)).mono ?_; rintro e w4 ⟨rfl, hb4⟩; have K4 := Lib.hid (K3.out.below hb4); clear hb4) | (go_at_call 38; refine (cEn' _ K4.out.v).mono ?_; rintro e w5 ⟨rfl, hv5, hf5⟩; have K5 := Lib.hid (K4.out.step hv5 hf5); clear hv5 hf5))
                  go_ret
                  exact ⟨rfl, K5.out.v, K5.out.f⟩
          · have t38 : (((Utf8.decode s pos).1 : Int) == 38) = false := by rw [beq_eq_false_iff_ne]; intro e; exact q38 (h38.1 (by omega))
            by_cases q60 : c.toNat = 60 ∧ inner = true
            · obtain ⟨q60, rfl⟩ := q60
              have t60 : (((Utf8.decode s pos).1 : Int) == 60) = true := by rw [beq_iff_eq]; have := h60.2 q60; omega
              rw [hdrop] at hrun
              have he := runT_lt hrun q60
              simp only [Prod.mk.injEq] at he
              obtain ⟨rfl, rfl⟩ := he
              generalize Utf8.decode s pos = D at *
              clear hrun hpw hone h60 h38 hsb hcb hol hdrop hc
              go_wp2_with (first | (go_at_call 33; refine (cS _).mono ?_; rintro e w2 ⟨rfl, hb2⟩; have K2 := Lib.hid (HP.out.below hb2); clear hb2))
              go_ret
              exact ⟨rfl, K2.out.v, K2.out.f⟩
            · obtain ⟨m1, hm1, hrun1⟩ := hpw hcb q60 q38
              have HK : Hid (∀ W, Pk w0 p rb E most w s (pos + (Utf8.decode s pos).2) ⟨sc.out ++ (s.extract pos (pos + (Utf8.decode s pos).2)).data.toList, sc.op, sc.sp⟩ W → Rnd w0 p rb E most w s inner n st k st' (pos + (Utf8.decode s pos).2) (pos + (Utf8.decode s pos).2) W) := fun W hV =>
                ⟨m1, _, by omega, hV.v, hV.f, by rw [Nat.max_self]; exact hrun1, hop1, fun h => absurd h (Nat.lt_irrefl _)⟩
              have hxs := ext_size s pos
              have hdc := dec_cut s pos (by omega)
              have cW := fun W => wide_any (s.extract pos s.size) W (by rw [hxs]; omega) (by rw [hxs]; omega)
              rw [hdc] at cW
              have hys : (s.extract pos (pos + (Utf8.decode s pos).2)).size = (Utf8.decode s pos).2 := by simp; omega
              have cStr := fun W (hW : VS w0 W p rb E most sc) => hW.str hol (s.extract pos (pos + (Utf8.decode s pos).2)) (by omega) (by omega)
              rw [hys] at cStr
              have hb60 : (((Utf8.decode s pos).1 : Int) == 60) = false ∨ ((((Utf8.decode s pos).1 : Int) == 60) = true ∧ inner = false) := by
                cases hin : inner with
                | false => cases hz : (((Utf8.decode s pos).1 : Int) == 60) <;> simp
                | true =>
                  refine .inl ?_
                  rw [beq_eq_false_iff_ne]; intro e
                  exact q60 ⟨h60.1 (by omega), hin⟩
              generalize Utf8.decode s pos = D at *
              clear hrun hrun1 hpw hone h60 h38 hsb hcb hol hdrop hc hdc q60 q38 hxs hys
              obtain ⟨Dr, Dw⟩ := D
              simp only at *
              rcases hb60 with t60 | ⟨t60, rfl⟩
              all_goals
                go_wp2_with (first | (go_at_call 33; refine (cS _).mono ?_; rintro e w2 ⟨rfl, hb2⟩; have K2 := Lib.hid (HP.out.below hb2); clear hb2) | (go_at_call 39; refine (cW _).mono ?_; rintro e w3 ⟨rfl, hb3⟩; have K3 := Lib.hid (K2.out.below hb3); clear hb3))
                have htn : ((pos : Int) + (Dw : Int)).toNat = pos + Dw := by omega
                have hle1 : (pos : Int) + (Dw : Int) ≤ (s.size : Int) := by omega
                have hle2 : (pos : Int) ≤ (pos : Int) + (Dw : Int) := by omega
                have hle0 : (0 : Int) ≤ (pos : Int) + (Dw : Int) := by omega
                go_region_with (go_at_call 40; refine (cStr _ K3.out.v.drew).mono ?_; rintro e w4 ⟨rfl, hv4, hf4⟩; have K4 := Lib.hid (K3.out.drew.step hv4 hf4); clear hv4 hf4)
                go_wp2
                have hit4 := K4.out.it
                go_roundw
                case rel => exact ⟨_, pos + Dw, by go_num, hit4, by omega, by omega, HK.out _ K4.out⟩
                case measure => rw [iterPos_of hit4, hpos0]; omega
    · have hnx : ∀ ty, (Instr.next (.pointer (some ⟨w.heap.size, 0, none⟩)) true ty).run Tryz.prog wr = _ := fun ty => Lib.run_next_end_at wr w.heap.size s pos ty hit hp
      obtain ⟨m, sc, hm, hv0, hf0, hrun, hop1, hsem⟩ := HR.out
      rw [List.drop_eq_nil_of_le (by have : s.data.toList.length = s.size := rfl; omega)] at hrun
      have he := runT_end hrun
      simp only [Prod.mk.injEq] at he
      obtain ⟨rfl, rfl⟩ := he
      have HV := Lib.hid hv0
      have HF := Lib.hid hf0
      clear hrun hv0 hf0 HR hsem
      go_wp2
      go_ret
      exact ⟨rfl, HV.out, HF.out⟩
end Go.Proofs.YtmjdjpelhhibgaaGreatDoor.Val
