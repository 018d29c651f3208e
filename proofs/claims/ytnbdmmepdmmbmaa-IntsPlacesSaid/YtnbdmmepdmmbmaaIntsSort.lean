/- slices.SortFunc at four ranges, as the law's fact calls it. No statement is proved here. -/
import Derived.Test.YtnbdmmepdmmbmaaAid
import Derived.Test.YtnbdmmepdmmbmaaIntsShelf
import Derived.Shelf.SlSortCmp.SmallK
import Derived.Shelf.Small.Bits
namespace Go.Proofs.Ytnbdmmepdmmbmaa
open Go.RowKit
set_option linter.unusedVariables false
set_option linter.unusedSimpArgs false
/-- A range's two cells. -/
def encR (x : Int × Int) : List Value := [.int .i64 x.1, .int .i64 x.2]
/-- What the closure answers. -/
def cfR (x y : Int × Int) : Int := if x.1 = y.1 then wrap64 (x.2 - y.2) else wrap64 (x.1 - y.1)
theorem cmp_any (x y : Int × Int) (W : World) : Calls Try.prog 77 #[.agg #[.int .i64 x.1, .int .i64 x.2], .agg #[.int .i64 y.1, .int .i64 y.2]] W fun e w' => e = .returned (.int .i64 (cfR x y)) ∧ ∃ q os', w' = Sort.grow (W.drewN q) os' := by
  obtain ⟨x1, x2⟩ := x
  obtain ⟨y1, y2⟩ := y
  unfold cfR
  by_cases h : x1 = y1
  · have h1 : (x1 != y1) = false := by simpa using h
    rw [if_pos h]
    go_enter Try.func77, Try.ntmps77
    go_wp2
    go_ret
    exact ⟨rfl, 0, _, by rw [Sort.alloc_eq_grow, Sort.alloc_eq_grow, Sort.grow_grow]; rfl⟩
  · have h1 : (x1 != y1) = true := by simpa using h
    rw [if_neg h]
    go_enter Try.func77, Try.ntmps77
    go_wp2
    go_ret
    exact ⟨rfl, 0, _, by rw [Sort.alloc_eq_grow, Sort.alloc_eq_grow, Sort.grow_grow]; rfl⟩
theorem cmp_lays (blk off size : Nat) (w : World) : CmpLays Try.prog 77 #[] encR 2 cfR blk off size w := fun _ _ _ _ x y => cmp_any x y _
theorem sort_below {enc : Int × Int → List Value} (w : World) (blk off n : Nat) (hb : blk < w.heap.size) (d : Array (Int × Int)) (os : Array Obj) : Below blk w (sortWorldK enc 2 w blk off n d os) := by
  refine ⟨rfl, rfl, rfl, ?_, fun k hk => ?_⟩
  · simp [sortWorldK, Sort.putRowK, Sort.putRow, Sort.mapBlock, Sort.grow, Sort.ahead]
  · simp only [sortWorldK, Sort.putRowK, Sort.putRow, Sort.mapBlock, Sort.grow, Sort.ahead]
    rw [Array.getElem?_append_left (by simp; omega), Array.getElem?_modify, if_neg (by omega)]
def row4 : Array (Int × Int) := #[(7, 7), (2, 2), (1, 1), (3, 3)]
def row4s : Array (Int × Int) := #[(1, 1), (2, 2), (3, 3), (7, 7)]
theorem sorted4 : Sort.insertionSort (ltOf cfR) row4 0 4 = row4s := by kernel_rfl
theorem blen (n : Nat) (W : World) (h : n ≤ 12) : Calls Try.prog 79 #[.int .u64 n] W fun e w' => (∃ l : Int, e = .returned (.int .i64 l)) ∧ w' = W :=
  (Any.bits_Len Try.bitsLenR n W (by omega) (by omega)).mono fun _ _ ⟨he, hw⟩ => ⟨⟨_, he⟩, hw⟩
theorem sort4 (blk cap : Nat) (W : World) (hH : Sort.HoldsK encR 2 W blk 0 row4) (hb : blk < W.heap.size) :
    Calls Try.prog 76 #[.slice (some ⟨blk, 0, none⟩) 4 cap, .func (.func 77) #[] #[]] W fun e w' => e = .returned (.tuple #[]) ∧ Sort.HoldsK encR 2 w' blk 0 row4s ∧ Below blk W w' ∧ W.heap.size ≤ w'.heap.size := by
  have eg : ∀ args w, (callFunc 77 args).run Try.prog w = .ok (.enter 77 args) w := enters_of Try.func77 (by kernel_rfl) rfl
  have h := AnyQ.slices_SortFunc_small Try.sortR 2 Try.isAgg44 Try.sizeOf44 encR (fun _ => rfl) (fun x v hv => by simp [encR] at hv; rcases hv with rfl | rfl <;> rfl) cfR 77 #[] blk 0 cap row4 W eg (cmp_lays blk 0 4 W) hH hb (by decide) blen
  rw [show row4.size = 4 from rfl, sorted4] at h
  refine h.mono ?_
  rintro e w' ⟨rfl, n, os, rfl⟩
  exact ⟨rfl, holdsK_sortWorldK_c encR 2 W blk 0 row4 row4s n os hH hb rfl, sort_below W blk 0 n hb _ os, (sort_below W blk 0 n hb row4s os).size⟩
end Go.Proofs.Ytnbdmmepdmmbmaa
