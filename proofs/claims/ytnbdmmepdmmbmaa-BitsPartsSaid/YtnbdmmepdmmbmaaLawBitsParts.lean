/- The law BitsParts: for every input its call returns true, and each argument reads as before. The row, out of the walk in YtnbdmmepdmmbmaaBitsPartsOk. -/
import Derived.Test.YtnbdmmepdmmbmaaRows
import Derived.Test.YtnbdmmepdmmbmaaBitsPartsOk
import Derived.WalkKit
import Derived.ProofKit
import Derived.OpenShut
import Derived.ShutString
import Derived.ChangeOld
import Derived.Below
import Derived.SizedLaws
import Derived.Lib.SmallJoins
import Derived.Carry
namespace Go.Proofs.Ytnbdmmepdmmbmaa.bitsParts
open Go.ChangeShapes Go.WideShapes Go.ChangeAt Go.RowKit
open Go.ChangeMaps (open_string shut_string)
set_option linter.unusedVariables false
theorem own : ownKnob Try.prog.godebug = none := by kernel_rfl
theorem laidOut : laidOutB Try.prog = true := by kernel_rfl
set_option maxRecDepth 100000 in
theorem lifted (os : Os) (started : os.Started) (H : Type) (enc : TypeId × Value → H) :
    ReturnsInHanded {} Try.checked os 3 .any (Rows.bitsPartsSpec.pre6 enc Try.prog Try.f3 Rows.bitsPartsRow.domain false) (Rows.bitsPartsSpec.post enc Try.prog Try.f3 false true false false) := by
  refine returnsInHanded_of_change_sized (C := Try.checked) own started (by kernel_rfl) Try.func3
    (ChangeSpec.witness6 (enc := enc) (C := Try.checked) false ⟨#[], #[.agg #[.slice none 0 0, .int .i64 0], .agg #[.slice none 0 0, .int .i64 0], .int .i64 0, .int .i64 0, .int .i64 0], []⟩ 8 (by kernel_rfl) (by kernel_rfl) (by kernel_rfl) (by kernel_rfl)) ?_
  intro W base args ds gs before hval0 hW hcnd hsz0 _
  have hsz : (DataW.weightsEach Try.prog (Try.f3.params.toList ++ Rows.bitsPartsSpec.plain.varTypes Try.prog) (ds ++ gs)).all (· ≤ reachBytes) = true := hsz0
  have hval : ∀ (j : Nat) t v, Try.f3.params[j]? = some t → args[j]? = some v → Value.okWide Try.prog W .any base t v := hval0
  have hW' := hW
  obtain ⟨p, q, hA0, hV, rfl, hfz, hnd⟩ := hW
  have hA : DataW.TrodAll enc Try.prog W 0 (fun _ => true) true Try.f3.params.toList args.toList ds p := hA0
  rw [Try.params3] at hA hval hsz
  obtain ⟨v0, vs0, d0, ds0, p0, q0, hargs, rfl, rfl, h0, r0⟩ := trodAll_cons hA
  obtain ⟨v1, vs1, d1, ds1, p1, q1, rfl, rfl, rfl, h1, r1⟩ := trodAll_cons r0
  obtain ⟨v2, vs2, d2, ds2, p2, q2, rfl, rfl, rfl, h2, r2⟩ := trodAll_cons r1
  obtain ⟨v3, vs3, d3, ds3, p3, q3, rfl, rfl, rfl, h3, r3⟩ := trodAll_cons r2
  obtain ⟨v4, vs4, d4, ds4, p4, q4, rfl, rfl, rfl, h4, r4⟩ := trodAll_cons r3
  obtain ⟨rfl, rfl, rfl⟩ := trodAll_nil r4
  obtain rfl : args = #[v0, v1, v2, v3, v4] := by cases args; simp_all
  obtain ⟨rfl, rfl⟩ := trodVars_none hV
  have k0 := h0
  have lt0 : ∀ x ∈ p0, x.block < W.heap.size := by obtain ⟨m, hm⟩ := k0; exact DataW.trod_lt m _ _ _ hm
  obtain ⟨c00, c01, y00, y01, m0, rfl, rfl, rfl, f00, f01⟩ := Go.Joins.open_agg2 Try.underlying24 (by kernel_rfl) (by kernel_rfl) (hval 0 24 v0 rfl rfl) h0
  obtain ⟨a0, e01, rfl, w0⟩ := DataW.trod_int Try.underlying3 f01
  simp only [List.cons.injEq, and_true] at e01
  subst e01
  obtain ⟨D0, y0, wr0⟩ : ∃ D : List UInt8, D.length ≤ 140737488351232 ∧ RB W c00 D := by
    rcases open_ints Try.underlying22 Try.underlying5 (by kernel_rfl) f00 with ⟨hcs, _⟩ | ⟨x, l, c, zs, hcs, _, hl, hm, hz, hx, hcell, hwz⟩
    · simp only [List.cons.injEq, and_true] at hcs
      subst hcs
      exact ⟨[], by simp, none, 0, rfl, by simp, fun i h => absurd h (by simp)⟩
    · simp only [List.cons.injEq, and_true] at hcs
      subst hcs
      have hz' : zs.length = c := by simpa using hz
      have hbd := List.all_eq_true.1 hsz ((lits .u8 (zs.take l) : List (DataW H)).length + (lits .u8 (zs.drop l) : List (DataW H)).length) (DataW.weights_mem_each (j := 0) (t := 24) rfl rfl _ (by
        rw [DataW.weights.eq_def]; simp only [Try.underlying24]
        exact DataW.weights_mem_each (j := 0) (t := 22) rfl (by rw [hx]; rfl) _ (by rw [DataW.weights.eq_def]; simp only [Try.underlying22]; rw [show Try.prog.bytesOf 5 = 1 by kernel_rfl, Nat.mul_one]; exact List.mem_cons_self)))
      have hbd' := of_decide_eq_true hbd
      simp only [lits, List.length_map, List.length_take, List.length_drop] at hbd'
      have hrb : reachBytes ≤ 140737488351232 := by decide
      exact ⟨(zs.take l).map fun z => UInt8.ofNat z.toNat, by simp only [List.length_map, List.length_take]; omega, rb_of_ints hl hz' hcell hwz⟩
  have k1 := h1
  have lt1 : ∀ x ∈ p1, x.block < W.heap.size := by obtain ⟨m, hm⟩ := k1; exact DataW.trod_lt m _ _ _ hm
  obtain ⟨c10, c11, y10, y11, m1, rfl, rfl, rfl, f10, f11⟩ := Go.Joins.open_agg2 Try.underlying24 (by kernel_rfl) (by kernel_rfl) (hval 1 24 v1 rfl rfl) h1
  obtain ⟨a1, e11, rfl, w1⟩ := DataW.trod_int Try.underlying3 f11
  simp only [List.cons.injEq, and_true] at e11
  subst e11
  obtain ⟨D1, y1, wr1⟩ : ∃ D : List UInt8, D.length ≤ 140737488351232 ∧ RB W c10 D := by
    rcases open_ints Try.underlying22 Try.underlying5 (by kernel_rfl) f10 with ⟨hcs, _⟩ | ⟨x, l, c, zs, hcs, _, hl, hm, hz, hx, hcell, hwz⟩
    · simp only [List.cons.injEq, and_true] at hcs
      subst hcs
      exact ⟨[], by simp, none, 0, rfl, by simp, fun i h => absurd h (by simp)⟩
    · simp only [List.cons.injEq, and_true] at hcs
      subst hcs
      have hz' : zs.length = c := by simpa using hz
      have hbd := List.all_eq_true.1 hsz ((lits .u8 (zs.take l) : List (DataW H)).length + (lits .u8 (zs.drop l) : List (DataW H)).length) (DataW.weights_mem_each (j := 1) (t := 24) rfl rfl _ (by
        rw [DataW.weights.eq_def]; simp only [Try.underlying24]
        exact DataW.weights_mem_each (j := 0) (t := 22) rfl (by rw [hx]; rfl) _ (by rw [DataW.weights.eq_def]; simp only [Try.underlying22]; rw [show Try.prog.bytesOf 5 = 1 by kernel_rfl, Nat.mul_one]; exact List.mem_cons_self)))
      have hbd' := of_decide_eq_true hbd
      simp only [lits, List.length_map, List.length_take, List.length_drop] at hbd'
      have hrb : reachBytes ≤ 140737488351232 := by decide
      exact ⟨(zs.take l).map fun z => UInt8.ofNat z.toNat, by simp only [List.length_map, List.length_take]; omega, rb_of_ints hl hz' hcell hwz⟩
  obtain ⟨a2, rfl, rfl, rfl, w2⟩ := open_int Try.underlying3 (hval 2 3 v2 rfl rfl) h2
  obtain ⟨a3, rfl, rfl, rfl, w3⟩ := open_int Try.underlying3 (hval 3 3 v3 rfl rfl) h3
  obtain ⟨a4, rfl, rfl, rfl, w4⟩ := open_int Try.underlying3 (hval 4 3 v4 rfl rfl) h4
  clear hA0 hval0 hsz0 hsz
  refine (BitsParts_walk D0 a0 c00 D1 a1 c10 a2 a3 a4 W wr0 y0 w0 wr1 y1 w1 w2 w3 w4).mono fun e W' ⟨he, bel⟩ => ?_
  subst he
  exact ⟨_, rfl, _, _, _, [], _, [], hW', trodAll_mk1 (shut_bool Try.underlying4 _), (trodAll_cons_mk (Below.trod laidOut (by kernel_rfl) (of_decide_eq_true (by kernel_rfl)) k0 bel lt0) (trodAll_cons_mk (Below.trod laidOut (by kernel_rfl) (of_decide_eq_true (by kernel_rfl)) k1 bel lt1) (trodAll_cons_mk (shut_int Try.underlying3 w2) (trodAll_cons_mk (shut_int Try.underlying3 w3) (trodAll_cons_mk (shut_int Try.underlying3 w4) trodAll_mk0))))), rfl, bel.frame _, fun h => by cases h⟩
theorem over : Rows.bitsPartsRow.holds Try.pinned (OpenSpec.ofChange Rows.bitsPartsSpec) :=
  OpenClaim.holds_of_wide 3 Try.f3 rfl rfl rfl rfl rfl rfl rfl ⟨rfl, rfl, rfl, rfl, rfl⟩ rfl rfl rfl rfl rfl (by kernel_rfl) Try.func3 (by kernel_rfl)
    (of_decide_eq_true (by kernel_rfl)) (by unfold Func.isWrapper; first | (rw [if_pos (by decide +kernel)]; kernel_rfl) | (rw [if_neg (by decide +kernel)]; exact ⟨rfl, rfl⟩))
    (fun os started H enc _ => lifted os started H enc)
theorem proved : Rows.BitsPartsSaid := over
#print axioms proved
end Go.Proofs.Ytnbdmmepdmmbmaa.bitsParts
namespace Go.Proofs.Ytnbdmmepdmmbmaa
/-- The row, under a short name, for the claim. -/
theorem bitsParts_holds : Rows.BitsPartsSaid := bitsParts.proved
end Go.Proofs.Ytnbdmmepdmmbmaa
