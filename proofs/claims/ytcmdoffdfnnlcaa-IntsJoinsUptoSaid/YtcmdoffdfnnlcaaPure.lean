/- Plain lemmas for the pure statements: rounds, bytes of strings. No statement is proved here. -/
import Derived.Test.YtcmdoffdfnnlcaaWMore
import Derived.Lib.IndexBytes
namespace Go.Proofs.Ytcmdoffdfnnlcaa
open Go.RowKit Go.Proofs.YtcmdoffdfnnlcaaW.PrintWords Go.Proofs.YtcmdoffdfnnlcaaW.PrintLast
theorem Ev.succ {α : Type} {g : Nat → Option α} {r : α} (h : Ev (fun k => g (k + 1)) r) : Ev g r := Ev.step (fun _ => rfl) h
theorem Ev.opt {α β : Type} {o : Option α} {f : Nat → α → Option β} {a : α} {r : β} (h : o = some a) (k : Ev (fun n => f n a) r) : Ev (fun n => o.bind (f n)) r := by
  subst h; exact k
/-- The bytes of a string. -/
abbrev lb (s : ByteArray) : List UInt8 := s.data.toList
/-- A byte of a list as a number; 0 behind its end. -/
def nb8 (l : List UInt8) (i : Nat) : Int := ((l.getD i 0).toNat : Int)
theorem nb8_range (l : List UInt8) (i : Nat) : 0 ≤ nb8 l i ∧ nb8 l i < 256 := by
  have := UInt8.toNat_lt (l.getD i 0)
  unfold nb8; omega
theorem lb_toList (s : ByteArray) : s.toList = lb s := ByteArray.toList_eq s
theorem lb_len (s : ByteArray) : (lb s).length = s.size := by rw [Array.length_toList]; rfl
theorem lb_ext {s t : ByteArray} (h : lb s = lb t) : s = t := by
  cases s; cases t; simp only [lb] at h; congr 1; exact Array.toList_inj.1 h
theorem lb_extract (s : ByteArray) (a b : Nat) : lb (s.extract a b) = ((lb s).drop a).take (b - a) := by
  simp only [lb]; rw [Lib.extract_data]
theorem lb_from (s : ByteArray) (a : Nat) : lb (s.extract a s.size) = (lb s).drop a := Lib.extract_to_end s a
theorem lb_upto (s : ByteArray) (b : Nat) : lb (s.extract 0 b) = (lb s).take b := by rw [lb_extract]; simp
theorem lb_append (s t : ByteArray) : lb (s ++ t) = lb s ++ lb t := by simp [lb]
theorem lb_mk (l : List UInt8) : lb ⟨l.toArray⟩ = l := by simp [lb]
theorem bt_lb (s : ByteArray) (i : Nat) : bt s (i : Int) = nb8 (lb s) i := by
  unfold bt nb8
  rw [Int.toNat_natCast]
  split
  · rename_i h
    have h' : i < (lb s).length := by rw [lb_len]; exact h
    rw [List.getD_eq_getElem?_getD, List.getElem?_eq_getElem h']
    rfl
  · rename_i h
    have h' : (lb s).length ≤ i := by rw [lb_len]; omega
    rw [List.getD_eq_getElem?_getD, List.getElem?_eq_none h']; rfl
theorem nb8_drop (l : List UInt8) (a i : Nat) : nb8 (l.drop a) i = nb8 l (a + i) := by
  simp [nb8, List.getD_eq_getElem?_getD, List.getElem?_drop]
theorem wrap_eq {x : Int} (h : -9223372036854775808 ≤ x) (h' : x ≤ 9223372036854775807) : wrap64 x = x := by unfold wrap64; omega
theorem strOf_lb (xs : List Int) : lb (strOfNums xs) = xs.map fun n => UInt8.ofNat n.toNat := by simp [lb, strOfNums]
theorem bytes_bne_nil (l : List UInt8) : (l != []) = !l.isEmpty := by cases l <;> rfl
theorem bytes_beq_nil (l : List UInt8) : (l == []) = l.isEmpty := by cases l <;> rfl
namespace Plug
theorem here : True := trivial
end Plug
end Go.Proofs.Ytcmdoffdfnnlcaa
