/- Small facts on texts that are cut. -/
import Derived.Test.YtmjdjpelhhibgaaGreatDoorKGiv
import Derived.Test.YtmjdjpelhhibgaaGreatDoorKSpec
namespace Go.Proofs.YtmjdjpelhhibgaaGreatDoor.Giv
open Go.RowKit Go.Proofs.YtmjdjpelhhibgaaGreatDoorW.PrintWords Go.Proofs.YtmjdjpelhhibgaaGreatDoorW.PrintLast Go.Proofs.YtmjdjpelhhibgaaGreatDoor.R0 Go.Proofs.YtmjdjpelhhibgaaGreatDoor.Spec
set_option linter.unusedVariables false
theorem ret_int {k : IntKind} {a b : Int} (h : a = b) : Ending.returned (.int k a) = .returned (.int k b) := by rw [h]
theorem ext_list (s : ByteArray) (a : Nat) : (s.extract a s.size).data.toList = s.data.toList.drop a := by
  simp
  exact List.take_of_length_le (by simp)
theorem ext_size (s : ByteArray) (a : Nat) : (s.extract a s.size).size = s.size - a := by simp
theorem dec_cut (s : ByteArray) (i : Nat) (h : i ≤ s.size) : Utf8.decode (s.extract i s.size) 0 = Utf8.decode s i := by
  have hz : (s.extract 0 i).size = i := by simp; omega
  have e : s.extract 0 i ++ s.extract i s.size = s := by
    apply ByteArray.ext
    apply Array.toList_inj.mp
    rw [app_list, ext_list]
    simp
  have := dec_shift (s.extract 0 i) (s.extract i s.size) 0
  rw [e, hz] at this
  simpa using this.symm
theorem ext_ext (s : ByteArray) (a p : Nat) : (s.extract a s.size).extract p (s.extract a s.size).size = s.extract (a + p) s.size := by
  apply ByteArray.ext
  apply Array.toList_inj.mp
  rw [ext_list, ext_list, ext_list, List.drop_drop]
end Go.Proofs.YtmjdjpelhhibgaaGreatDoor.Giv
