/- Contract of slices.Sort at []int, in the print's form, out of the shelf's. No statement is proved here. -/
import Derived.Test.YtcmdoffdfnnlcaaAid
import Derived.Test.YtcmdoffdfnnlcaaPure
import Derived.Test.YtcmdoffdfnnlcaaShelf
import Derived.Sort.OwnSortedInts
import Derived.Lib.OwnBridge
namespace Go.Proofs.Ytcmdoffdfnnlcaa.Plug
open Go.RowKit Go.Sort Go.Proofs.Ytcmdoffdfnnlcaa Go.Proofs.YtcmdoffdfnnlcaaW.PrintWords Go.Proofs.YtcmdoffdfnnlcaaW.PrintLast Go.Proofs.YtcmdoffdfnnlcaaW.PrintMore
set_option linter.unusedVariables false
set_option linter.unusedSimpArgs false
def leI (x y : Int) : Bool := decide (x ≤ y)
def slices_Sort_int_int.f (l0 : List Int) : Option (List Int) := if 0 < l0.length ∧ l0.length < 4611686018427387904 then some (l0.mergeSort leI) else none
theorem slices_Sort_int_int.calls (P0_ : Nat → Prop) (u9000_ : Value) (l0 : List Int) (r : List Int) (w0 w : World) (hB : Below w0.heap.size w0 w) (ho0 : Kd.R (Kd.int .i64) 3 w w0.heap.size P0_ u9000_ l0) (h : slices_Sort_int_int.f l0 = some r) :
    Calls Try.prog 27 #[u9000_] w fun e w' => e = .returned (.tuple #[]) ∧ Kd.R (Kd.int .i64) 3 w' w0.heap.size (fun k_ => (P0_ k_ ∨ w.heap.size ≤ k_)) u9000_ r ∧ Below w0.heap.size w0 w' ∧ Kept w w' (fun k_ => P0_ k_) := by
  unfold slices_Sort_int_int.f at h
  by_cases hq : 0 < l0.length ∧ l0.length < 4611686018427387904
  · rw [if_pos hq] at h
    obtain rfl := Option.some.inj h
    have ho : w.ownsRow w0.heap.size 3 1 u9000_ l0.length (l0.map (Value.int .i64)) := Kd.own_of_R ho0
    have hP := ho0.1
    rcases ho.2 with ⟨_, h0⟩ | ⟨g, cap, cur, rfl, hg, hh, h1, h2, h3, h4⟩
    · omega
    · rw [Nat.mul_one] at h4
      have HH := holds_of_blockI hh h4
      have hlt : g < w.heap.size := (Array.getElem?_eq_some_iff.1 hh).1
      refine (Try.slices_Sort_int g 0 cap l0 w HH hlt hq.2).mono ?_
      rintro e w' ⟨rfl, n, os, rfl⟩
      have hgr := grownBy_sortedI (w := w) (g := g) (n := n) (os := os) (l0.mergeSort fun x y => decide (x ≤ y)).toArray
      have hl : (l0.mergeSort leI).length = l0.length := List.length_mergeSort l0
      refine ⟨rfl, ?_, hB.grown hgr hB.size (fun k hk => by have : g = k := Option.some.inj hk; omega), Kept.of_grown hgr (Kept.refl w _) (fun k hk => .inl (hP k hk))⟩
      have hown := ownsRow_sortedI (n := n) (os := os) hl hg hh h1 h2 h3
      refine Kd.R_of_own (enc := Value.int .i64) (h1 := fun _ => rfl) ?_ (fun k hk => .inl (hP k hk))
      rw [hl]; exact hown
  · rw [if_neg hq] at h; cases h
end Go.Proofs.Ytcmdoffdfnnlcaa.Plug
