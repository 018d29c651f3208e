/- What a slice of ranges is that a call is handed. No statement is proved here. -/
import Derived.Test.YtnbdmmepdmmbmaaPIntsx0
import Derived.Deep.SlicePairs
import Derived.WalkKit
import Derived.ProofKit
import Derived.OpenShut
namespace Go.Proofs.Ytnbdmmepdmmbmaa.PInts
open Go.ChangeShapes Go.WideShapes Go.ChangeAt Go.RowKit Go.Proofs.YtnbdmmepdmmbmaaW.PrintWords Go.Proofs.YtnbdmmepdmmbmaaW.PrintLast
set_option linter.unusedVariables false
theorem open_ranges {H : Type} {enc : TypeId × Value → H} {w : World} {base : Nat} {held : Bool} {fuel : Nat} {cs : List Value} {x : DataW H × List MemPlace}
    (h : DataW.trod enc Try.prog w base (fun _ => true) held fuel 38 cs = some x) : ∃ (l : List S44) (A : Option Addr) (c : Nat), cs = [.slice A l.length c] ∧ l.length ≤ c ∧ l.length ≤ 9223372036854775807 ∧ Kd.C k44 w A l.length l := by
  rcases Go.Deep.open_slice_pairs Try.underlying38 Try.underlying44 (by kernel_rfl) (by rfl) (by rfl) (by kernel_rfl) (by kernel_rfl) h with ⟨rfl, _⟩ | ⟨a, len, cap, m, n, V0, V1, D0, D1, P0, P1, rfl, hb, hl, hm, hmm, _, hi⟩
  · exact ⟨[], none, 0, rfl, Nat.le_refl _, by simp, rfl, by simp, fun h => absurd h (by simp)⟩
  · have hlm : len ≤ m := by rw [hmm]; simp; omega
    have hmax : maxLen = 9223372036854775807 := by decide
    have hlen : ((List.range len).map fun i => (⟨intOf (V0 i), intOf (V1 i)⟩ : S44)).length = len := by simp
    refine ⟨(List.range len).map fun i => ⟨intOf (V0 i), intOf (V1 i)⟩, some a, cap, by rw [hlen], by rw [hlen]; exact hl, by rw [hlen]; omega, ?_⟩
    refine ⟨rfl, by rw [hlen]; omega, fun _ => ⟨a, rfl, fun j p hj => ?_⟩⟩
    have hj' : j < len := by have := (List.getElem?_eq_some_iff.1 hj).1; rwa [hlen] at this
    obtain ⟨h0, h1, t0, t1⟩ := hi j (by omega)
    obtain ⟨u, e0, _, _⟩ := DataW.trod_int Try.underlying3 t0
    obtain ⟨v, e1, _, _⟩ := DataW.trod_int Try.underlying3 t1
    injection e0 with e0
    injection e1 with e1
    have hp : p = ⟨u, v⟩ := by
      simp [List.getElem?_map, List.getElem?_range hj'] at hj
      rw [← hj, e0, e1]; rfl
    subst hp
    refine ⟨_, rfl, k44_mk w ⟨u, v⟩, fun i q hq => ?_⟩
    match i, hq with
    | 0, hq => simp at hq; subst hq; rw [← e0]; exact h0
    | 1, hq => simp at hq; subst hq; rw [← e1]; exact h1
end Go.Proofs.Ytnbdmmepdmmbmaa.PInts
