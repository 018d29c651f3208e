/- Contract of slices.Compact at []int, in the print's form, out of the shelf's. No statement is proved here. -/
import Derived.Test.YtcmdoffdfnnlcaaAid
import Derived.Test.YtcmdoffdfnnlcaaPure
import Derived.Test.YtcmdoffdfnnlcaaShelf
import Derived.Sort.OwnSortedInts
import Derived.Lib.OwnBridge
namespace Go.Proofs.Ytcmdoffdfnnlcaa.Plug
open Go.RowKit Go.Sort Go.Proofs.Ytcmdoffdfnnlcaa Go.Proofs.YtcmdoffdfnnlcaaW.PrintWords Go.Proofs.YtcmdoffdfnnlcaaW.PrintLast Go.Proofs.YtcmdoffdfnnlcaaW.PrintMore
set_option linter.unusedVariables false
set_option linter.unusedSimpArgs false
def slices_Compact_int_int.f (l0 : List Int) : Option (List Int) := if 0 < l0.length ∧ l0.length < 4611686018427387904 ∧ (Lib.compact l0).length ≤ l0.length then some (Lib.compact l0) else none
theorem slices_Compact_int_int.calls (P0_ : Nat → Prop) (u9000_ : Value) (l0 : List Int) (r : List Int) (w0 w : World) (hB : Below w0.heap.size w0 w) (ho0 : Kd.R (Kd.int .i64) 3 w w0.heap.size P0_ u9000_ l0) (h : slices_Compact_int_int.f l0 = some r) :
    Calls Try.prog 28 #[u9000_] w fun e w' => ∃ v0_ : Value, e = .returned (v0_) ∧ Kd.R (Kd.int .i64) 3 w' w0.heap.size (fun k_ => (P0_ k_ ∨ w.heap.size ≤ k_)) v0_ r ∧ Below w0.heap.size w0 w' ∧ Kept w w' (fun k_ => P0_ k_) := by
  unfold slices_Compact_int_int.f at h
  by_cases hq : 0 < l0.length ∧ l0.length < 4611686018427387904 ∧ (Lib.compact l0).length ≤ l0.length
  · rw [if_pos hq] at h
    obtain rfl := Option.some.inj h
    obtain ⟨q0, q1, q2⟩ := hq
    have ho : w.ownsRow w0.heap.size 3 1 u9000_ l0.length (l0.map (Value.int .i64)) := Kd.own_of_R ho0
    have hP := ho0.1
    obtain ⟨g, cap, rfl, hg, hlt, h1, h2, _, HH⟩ := Lib.holds_of_ownsRow ho (by
      rintro rfl
      rcases ho.2 with ⟨_, h0⟩ | ⟨g, cap, cur, e, _⟩
      · omega
      · cases e)
    refine (Try.slices_Compact_int g 0 cap l0 w HH (by omega) h1).mono ?_
    rintro e w' ⟨rfl, q, rfl⟩
    have hown := Lib.ownsRow_putRow (q := q) (k := (Lib.compact l0).length) (ys := Lib.compact l0 ++ List.replicate (l0.length - (Lib.compact l0).length) 0) ho (by simp; omega) q2
    rw [List.take_left] at hown
    refine ⟨_, rfl, Kd.R_of_own (enc := Value.int .i64) (h1 := fun _ => rfl) hown (fun k hk => .inl (hP k hk)), Lib.below_putRow hB hg, ?_⟩
    refine ⟨by simp [putRow, mapBlock, Sort.ahead], fun k hk hne => ?_⟩
    have : g ≠ k := fun e => hne (hP k (by rw [← e]; rfl))
    simp [putRow, mapBlock, Sort.ahead, Array.getElem?_modify, this]
  · rw [if_neg hq] at h; cases h
end Go.Proofs.Ytcmdoffdfnnlcaa.Plug
