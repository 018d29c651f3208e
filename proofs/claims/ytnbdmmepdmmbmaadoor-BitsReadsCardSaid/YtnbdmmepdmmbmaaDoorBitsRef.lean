/- Two small laws on strings (the door seat has no reference that reads bits). -/
import Derived.Test.YtnbdmmepdmmbmaaDoorBitsText
import Derived.Lib.IndexLaws
namespace Go.Proofs.YtnbdmmepdmmbmaaDoor
open Go.RowKit
theorem size_of_list {S : ByteArray} {l : List UInt8} (h : S.data.toList = l) : S.size = l.length := by
  rw [← h, Array.length_toList]; rfl
theorem digs_succ (D : List UInt8) (k : Nat) : digs (unp D (k + 1)) = digs (unp D k) ++ [if ub D k then 49 else 48] := by
  rw [unp_succ]; simp [digs]
theorem extract_list (S : ByteArray) (n : Nat) : (S.extract n S.size).data.toList = S.data.toList.drop n := by
  rw [ByteArray.data_extract]; simp [Array.toList_extract]
  rw [List.take_of_length_le]
  rw [List.length_drop, Array.length_toList]; exact Nat.le_refl _
end Go.Proofs.YtnbdmmepdmmbmaaDoor
