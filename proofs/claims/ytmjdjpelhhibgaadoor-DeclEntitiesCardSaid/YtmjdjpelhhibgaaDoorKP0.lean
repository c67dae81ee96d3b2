/- Pieces of content: the printed functions over texts as lists of bytes. -/
import Derived.Test.YtmjdjpelhhibgaaDoorR1x8
namespace Go.Proofs.YtmjdjpelhhibgaaDoor.TP
open Go Go.RowKit Go.Proofs.YtmjdjpelhhibgaaDoor.Giv Go.Proofs.YtmjdjpelhhibgaaDoor.Spec Go.Proofs.YtmjdjpelhhibgaaDoor.R1 Go.Proofs.YtmjdjpelhhibgaaDoorW.PrintWords Go.Proofs.YtmjdjpelhhibgaaDoorW.PrintLast
set_option linter.unusedVariables false
theorem str_data (l : List UInt8) : (str l).data.toList = l := rfl
theorem str_toList (l : List UInt8) : (str l).toList = l := by rw [ByteArray.toList_eq]; rfl
theorem str_size (l : List UInt8) : (str l).size = l.length := List.size_toArray
theorem of_str (s : ByteArray) : s = str s.data.toList := rfl
theorem str_app (l m : List UInt8) : str l ++ str m = str (l ++ m) := by
  apply ByteArray.ext
  apply Array.toList_inj.mp
  rw [app_list]; rfl
theorem str_ext (l : List UInt8) (a b : Nat) : (str l).extract a b = str ((l.drop a).take (b - a)) := by
  apply ByteArray.ext
  apply Array.toList_inj.mp
  rw [str_data]
  simp
  rfl
theorem str_from (l : List UInt8) (a : Nat) : (str l).extract a l.length = str (l.drop a) := by
  rw [str_ext, List.take_of_length_le (by simp)]
theorem bt_str (l : List UInt8) (i : Nat) (h : i < l.length) : bt (str l) (i : Int) = ((l[i]'h).toNat : Int) := by
  unfold bt
  rw [Int.toNat_natCast, dif_pos (by rw [str_size]; exact h)]
  rfl
theorem w64 (x : Int) (h0 : 0 ≤ x) (h1 : x < 9223372036854775808) : wrap64 x = x := by unfold wrap64; omega
/-- What a token says: its kind, name, text, attributes, whether it is empty. -/
abbrev Tk := Int × ByteArray × ByteArray × List S42 × Bool × Int × Bool
theorem bind_eta (x : Option Tk) : (x.bind fun b => some (b.1, b.2.1, b.2.2.1, b.2.2.2.1, b.2.2.2.2.1, b.2.2.2.2.2.1, b.2.2.2.2.2.2)) = x := by cases x <;> rfl
def pre (p l : List UInt8) : Bool := p.isPrefixOf l
theorem hp_f (l p : List UInt8) : strings_HasPrefix.f (str l) (str p) = some (pre p l) := rfl
def oneL (k : Nat) (l : List UInt8) (a : Nat) : Option Tk :=
  if pre [60, 33, 45, 45] (l.drop a) = true then token_comment.f (str l) a
  else if pre [60, 33, 91, 67, 68, 65, 84, 65, 91] (l.drop a) = true then token_cdata.f (str l) a
  else if pre [60, 63] (l.drop a) = true then token_pi.f (str l) a
  else if pre [60, 47] (l.drop a) = true then token_end.f (str l) a
  else match l.drop a with
    | [] => none
    | c :: _ => if c = 60 then token_start.f k (str l) a else if c = 38 then token_ref.f (str l) a else token_plain.f (str l) a
theorem one_f (k : Nat) (l : List UInt8) (a : Nat) (ha : a ≤ l.length) : token_one.f k (str l) a = oneL k l a := by
  have hd : (str l).extract ((a : Int)).toNat (str l).size = str (l.drop a) := by rw [Int.toNat_natCast, str_size, str_from]
  unfold token_one.f oneL
  rw [if_pos (by omega), if_pos (by rw [str_size]; omega), hd]
  simp only [bind_eta]
  rw [show strings_HasPrefix.f (str (l.drop a)) ⟨#[60, 33, 45, 45]⟩ = some (pre [60, 33, 45, 45] (l.drop a)) from rfl, Option.bind_some]
  refine ite_congr rfl (fun _ => rfl) fun _ => ?_
  rw [show strings_HasPrefix.f (str (l.drop a)) ⟨#[60, 33, 91, 67, 68, 65, 84, 65, 91]⟩ = some (pre [60, 33, 91, 67, 68, 65, 84, 65, 91] (l.drop a)) from rfl, Option.bind_some]
  refine ite_congr rfl (fun _ => rfl) fun _ => ?_
  rw [show strings_HasPrefix.f (str (l.drop a)) ⟨#[60, 63]⟩ = some (pre [60, 63] (l.drop a)) from rfl, Option.bind_some]
  refine ite_congr rfl (fun _ => rfl) fun _ => ?_
  rw [show strings_HasPrefix.f (str (l.drop a)) ⟨#[60, 47]⟩ = some (pre [60, 47] (l.drop a)) from rfl, Option.bind_some]
  refine ite_congr rfl (fun _ => rfl) fun _ => ?_
  cases hl : l.drop a with
  | nil => rw [if_neg (by rw [str_size]; simp)]
  | cons c t =>
    have hb : bt (str (c :: t)) 0 = (c.toNat : Int) := bt_str (c :: t) 0 (by simp)
    rw [if_pos (by rw [str_size]; simp), hb]
    have e : ∀ n : Nat, n < 256 → (((c.toNat : Int) = (n : Int)) ↔ c = UInt8.ofNat n) := by
      intro n hn
      rw [← UInt8.toNat_inj, UInt8.toNat_ofNat']
      omega
    refine ite_congr (propext ((e 60 (by omega)).trans (by rfl))) (fun _ => rfl) fun _ => ?_
    exact ite_congr (propext ((e 38 (by omega)).trans (by rfl))) (fun _ => rfl) fun _ => rfl
/-- The piece at a place. -/
abbrev Nx := Int × ByteArray × ByteArray × List S42 × Bool × Int × Int
def nextL (x : Option Tk) (a : Int) : Option Nx := x.bind fun b => if b.2.2.2.2.2.2 = true then some (b.1, b.2.1, b.2.2.1, b.2.2.2.1, b.2.2.2.2.1, b.2.2.2.2.2.1, 0) else some (0, ⟨#[]⟩, ⟨#[]⟩, [], false, a, 2)
theorem next_f (k : Nat) (l : List UInt8) (a : Nat) (ha : a < l.length) : token_Next.f (k + 1) (str l) a = nextL (oneL k l a) a := by
  unfold token_Next.f
  rw [if_neg (by omega), token_Next.j0, if_neg (by rw [decide_eq_true_eq, str_size]; omega), if_neg (by rw [str_size]; omega), one_f k l a (by omega)]
  rfl
theorem next_end (k : Nat) (l : List UInt8) : token_Next.f (k + 1) (str l) (l.length : Int) = some (0, ⟨#[]⟩, ⟨#[]⟩, [], false, (l.length : Int), 6) := by
  unfold token_Next.f
  rw [if_neg (by omega), token_Next.j0, if_neg (by rw [decide_eq_true_eq, str_size]; omega), if_pos (by rw [str_size])]
/-! ### up to a mark -/
theorem upto_f (l m : List UInt8) (a : Nat) (ha : a ≤ l.length) (hl : l.length < 4294967281) (hm : m.length < 1000) :
    token_upto.f (str l) (a : Int) (str m) = some (str (Lib.cut (l.drop a) m).1, ((a + (Lib.cut (l.drop a) m).1.length + m.length : Nat) : Int), (Lib.cut (l.drop a) m).2.2) := by
  have hc : (Lib.cut (l.drop a) m).1.length ≤ l.length := by
    unfold Lib.cut
    split
    · simp; omega
    · simp
  unfold token_upto.f
  rw [if_pos (by omega), if_pos (by rw [str_size]; omega), Int.toNat_natCast, str_size, str_from]
  unfold strings_Cut.f
  rw [if_pos (by rw [str_size]; simp; omega), Option.bind_some]
  simp only [str_data, str_size]
  rw [w64 ((a : Int) + _) (by omega) (by omega), w64 _ (by omega) (by omega)]
  congr 2
/-! ### plain text -/
theorem plain_f (l : List UInt8) (a : Nat) (ha : a ≤ l.length) (hl : l.length < 4294967281) (n : Nat) (hn : n ≤ (l.drop a).length)
    (hi : Lib.indexAny (l.drop a) [60, 38] = if n < (l.drop a).length then (n : Int) else -1) :
    token_plain.f (str l) a = some (1, ⟨#[]⟩, str ((l.drop a).take n), [], false, ((a + n : Nat) : Int), !(Lib.contains ((l.drop a).take n) [93, 93, 62])) := by
  have hdl : (l.drop a).length = l.length - a := by simp
  unfold token_plain.f
  rw [if_pos (by omega), if_pos (by rw [str_size]; omega), Int.toNat_natCast, str_size, str_from]
  unfold strings_IndexAny.f
  rw [if_pos ⟨rfl, by rw [str_size]; simp; omega⟩, Option.bind_some, str_data]
  by_cases h : n < (l.drop a).length
  · rw [if_pos h] at hi
    rw [hi, if_pos (by omega), w64 _ (by omega) (by omega), if_pos (by omega), if_pos (by omega)]
    have e : ((a : Int) + (n : Int)).toNat = a + n := by omega
    rw [e, str_ext]
    unfold strings_Contains.f
    rw [if_pos (by rw [str_size]; simp; omega), Option.bind_some, str_data, show a + n - a = n by omega]
    rfl
  · rw [if_neg h] at hi
    obtain rfl : n = (l.drop a).length := by omega
    rw [hi, if_neg (by omega), if_pos (by omega)]
    unfold strings_Contains.f
    rw [if_pos (by rw [str_size]; simp; omega), Option.bind_some, str_data, List.take_length]
    have e : ((a + (l.drop a).length : Nat) : Int) = (l.length : Int) := by omega
    rw [e]
end Go.Proofs.YtmjdjpelhhibgaaDoor.TP
