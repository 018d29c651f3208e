/- The maps of the reference's nodeErr: what their literals hold. No statement is proved here. -/
import Derived.Test.YticdlpkjjokbcaaAid
import Derived.Maps.OwnSet
import Derived.Carry
namespace Go.Proofs.Yticdlpkjjokbcaa
open Go.RowKit Go.Maps
set_option linter.unusedVariables false
set_option linter.unusedSimpArgs false
/-- How a pair of ints reads. -/
def pairR (v : Value) : Option (DataW Unit × List MemPlace) := match v with
  | .agg cs => match cs.toList with
    | [.int .i64 a, .int .i64 c] => some (.agg [.lit (.int .i64 a), .lit (.int .i64 c)], [])
    | _ => none
  | _ => none
theorem pairR_mk (a c : Int) : pairR (.agg #[.int .i64 a, .int .i64 c]) = some (.agg [.lit (.int .i64 a), .lit (.int .i64 c)], []) := rfl
theorem pairR_inv {v : Value} {a c : Int} {ps : List MemPlace} (h : pairR v = some (.agg [.lit (.int .i64 a), .lit (.int .i64 c)], ps)) : v = .agg #[.int .i64 a, .int .i64 c] := by
  unfold pairR at h
  split at h
  · rename_i cs
    split at h
    · rename_i x y e
      simp only [Option.some.injEq, Prod.mk.injEq, DataW.agg.injEq, List.cons.injEq, DataW.lit.injEq, Lit.int.injEq, true_and, and_true] at h
      obtain ⟨⟨rfl, rfl⟩, _⟩ := h
      congr 1
      rw [← Array.toList_inj, e]
    · cases h
  · cases h
def numD : DataW Unit := .map [(.int .i64 1, .agg [.lit (.int .i64 0), .lit (.int .i64 1)]), (.int .i64 2, .agg [.lit (.int .i64 (-9007199254740992)), .lit (.int .i64 9007199254740992)]), (.int .i64 3, .agg [.lit (.int .i64 (-9223372036854775808)), .lit (.int .i64 9223372036854775807)]), (.int .i64 4, .agg [.lit (.int .i64 0), .lit (.int .i64 4194304)]), (.int .i64 11, .agg [.lit (.int .i64 0), .lit (.int .i64 9007199254740992)])]
/-- The bounds of a kind's number, if it has one. -/
def numF (k : Int) : Int × Int × Bool := if k = 1 then (0, 1, true) else if k = 2 then (-9007199254740992, 9007199254740992, true) else if k = 3 then (-9223372036854775808, 9223372036854775807, true) else if k = 4 then (0, 4194304, true) else if k = 11 then (0, 9007199254740992, true) else (0, 0, false)
theorem num_has (k : Int) : Maps.has numD (.int .i64 k) = (numF k).2.2 := by
  unfold numF numD
  simp only [Maps.has, List.any_cons, List.any_nil, Lit.sameKey]
  by_cases h1 : k = 1
  · subst h1; rfl
  by_cases h2 : k = 2
  · subst h2; rfl
  by_cases h3 : k = 3
  · subst h3; rfl
  by_cases h4 : k = 4
  · subst h4; rfl
  by_cases h5 : k = 11
  · subst h5; rfl
  simp [h1, h2, h3, h4, h5, Ne.symm h1, Ne.symm h2, Ne.symm h3, Ne.symm h4, Ne.symm h5]
theorem num_at (k : Int) : numD.atKey (.int .i64 k) (.agg [.lit (.int .i64 0), .lit (.int .i64 0)]) = .agg [.lit (.int .i64 (numF k).1), .lit (.int .i64 (numF k).2.1)] := by
  unfold numF numD
  by_cases h1 : k = 1
  · subst h1; rfl
  by_cases h2 : k = 2
  · subst h2; rfl
  by_cases h3 : k = 3
  · subst h3; rfl
  by_cases h4 : k = 4
  · subst h4; rfl
  by_cases h5 : k = 11
  · subst h5; rfl
  simp [DataW.atKey, Lit.sameKey, h1, h2, h3, h4, h5, Ne.symm h1, Ne.symm h2, Ne.symm h3, Ne.symm h4, Ne.symm h5]
theorem zero_pair (w : World) : (zeroValue 41).run Try.prog w = .ok (.agg #[.int .i64 0, .int .i64 0]) w := by kernel_rfl
def numSteps : DataW Unit := ((((((DataW.map []).put (.int .i64 1) (.agg [.lit (.int .i64 0), .lit (.int .i64 1)])).put (.int .i64 2) (.agg [.lit (.int .i64 (-9007199254740992)), .lit (.int .i64 9007199254740992)])).put (.int .i64 4) (.agg [.lit (.int .i64 0), .lit (.int .i64 4194304)])).put (.int .i64 11) (.agg [.lit (.int .i64 0), .lit (.int .i64 9007199254740992)])).put (.int .i64 3) (.agg [.lit (.int .i64 (-9223372036854775808)), .lit (.int .i64 9223372036854775807)]))
theorem numSteps_eq : numSteps = numD := by kernel_rfl
theorem turned_other {w w' : World} {b : Nat} (h : w.mapTurned w' b) : (∀ a, a ≠ b → w'.heap[a]? = w.heap[a]?) ∧ w'.heap.size = w.heap.size := by
  obtain ⟨es, cl, es', cl', h1, rfl⟩ := h
  refine ⟨fun a ha => ?_, ?_⟩
  · show (w.heap.setIfInBounds b _)[a]? = _
    rw [Array.getElem?_setIfInBounds, if_neg (fun q => ha q.symm)]
  · show (w.heap.setIfInBounds b _).size = _
    rw [Array.size_setIfInBounds]
theorem turned_below {w w' : World} {b base : Nat} (h : w.mapTurned w' b) (hb : base ≤ b) : Below base w w' := by
  obtain ⟨h1, h2⟩ := turned_other h
  obtain ⟨es, cl, es', cl', h3, rfl⟩ := h
  exact ⟨rfl, rfl, rfl, Nat.le_of_eq h2.symm, fun k hk => h1 k (by omega)⟩
/-- w' is w but for block b. -/
def But1 (b : Nat) (w w' : World) : Prop := (∀ a, a ≠ b → w'.heap[a]? = w.heap[a]?) ∧ w'.heap.size = w.heap.size ∧ Below b w w'
theorem But1.refl (b : Nat) (w : World) : But1 b w w := ⟨fun _ _ => rfl, rfl, Below.refl _ _⟩
theorem But1.step {b : Nat} {w w1 w2 : World} (h : But1 b w w1) (t : w1.mapTurned w2 b) : But1 b w w2 := by
  obtain ⟨h1, h2⟩ := turned_other t
  exact ⟨fun a ha => (h1 a ha).trans (h.1 a ha), h2.trans h.2.1, h.2.2.trans (turned_below t (Nat.le_refl _))⟩
set_option maxRecDepth 100000 in
theorem num_chain (W0 : World) (b : Nat) (h0 : W0.ownsMap Try.prog 3 pairR b 0 (.map [])) : ∃ w1 w2 w3 w4 w5 : World,
    (Instr.mapUpdate 42 (.map (some b)) (.int .i64 1) (.agg #[.int .i64 0, .int .i64 1])).run Try.prog W0 = .ok () w1 ∧
    (Instr.mapUpdate 42 (.map (some b)) (.int .i64 2) (.agg #[.int .i64 (-9007199254740992), .int .i64 9007199254740992])).run Try.prog w1 = .ok () w2 ∧
    (Instr.mapUpdate 42 (.map (some b)) (.int .i64 4) (.agg #[.int .i64 0, .int .i64 4194304])).run Try.prog w2 = .ok () w3 ∧
    (Instr.mapUpdate 42 (.map (some b)) (.int .i64 11) (.agg #[.int .i64 0, .int .i64 9007199254740992])).run Try.prog w3 = .ok () w4 ∧
    (Instr.mapUpdate 42 (.map (some b)) (.int .i64 3) (.agg #[.int .i64 (-9223372036854775808), .int .i64 9223372036854775807])).run Try.prog w4 = .ok () w5 ∧
    (∀ k : Int, (Lit.int .i64 k).wf = true → (Instr.lookup 42 (.map (some b)) (.int .i64 k) true).run Try.prog w5 = .ok (.tuple #[.agg #[.int .i64 (numF k).1, .int .i64 (numF k).2.1], .bool (numF k).2.2]) w5) ∧ But1 b W0 w5 := by
  have K : Keyed Try.prog 3 := int_keyed Try.underlying3
  have kk : ∀ a : Int, (Lit.int .i64 a).wf = true → keyOf Try.prog 3 (.int .i64 a) = some (.int .i64 a) := fun a h => keyOf_int_mk Try.underlying3 h
  obtain ⟨w1, r1, h1, t1⟩ := h0.store K Try.underlying42 (by decide) (kk 1 (by decide)) (pairR_mk 0 1)
  obtain ⟨w2, r2, h2, t2⟩ := h1.store K Try.underlying42 (by decide) (kk 2 (by decide)) (pairR_mk (-9007199254740992) 9007199254740992)
  obtain ⟨w3, r3, h3, t3⟩ := h2.store K Try.underlying42 (by decide) (kk 4 (by decide)) (pairR_mk 0 4194304)
  obtain ⟨w4, r4, h4, t4⟩ := h3.store K Try.underlying42 (by decide) (kk 11 (by decide)) (pairR_mk 0 9007199254740992)
  obtain ⟨w5, r5, h5, t5⟩ := h4.store K Try.underlying42 (by decide) (kk 3 (by decide)) (pairR_mk (-9223372036854775808) 9223372036854775807)
  have h6 : w5.ownsMap Try.prog 3 pairR b 5 numD := by rw [← numSteps_eq]; exact h5
  refine ⟨w1, w2, w3, w4, w5, r1, r2, r3, r4, r5, fun k hk => ?_, ((((((But1.refl b W0).step t1).step t2).step t3).step t4).step t5)⟩
  obtain ⟨v, ps, hr, hv⟩ := h6.look_ok K Try.underlying42 (zero_pair w5) (pairR_mk 0 0) (kk k hk)
  rw [num_at] at hv
  have hv2 := pairR_inv hv
  subst hv2
  rw [num_has] at hr
  exact hr
/-! the second literal -/
def mostD : DataW Unit := .map [(.int .i64 6, .lit (.int .i64 24)), (.int .i64 8, .lit (.int .i64 200)), (.int .i64 9, .lit (.int .i64 200))]
/-- The most parts of a kind, if it has a bound. -/
def mostF (k : Int) : Int × Bool := if k = 6 then (24, true) else if k = 8 then (200, true) else if k = 9 then (200, true) else (0, false)
theorem most_has (k : Int) : Maps.has mostD (.int .i64 k) = (mostF k).2 := by
  unfold mostF mostD
  simp only [Maps.has, List.any_cons, List.any_nil, Lit.sameKey]
  by_cases h1 : k = 6
  · subst h1; rfl
  by_cases h2 : k = 8
  · subst h2; rfl
  by_cases h3 : k = 9
  · subst h3; rfl
  simp [h1, h2, h3, Ne.symm h1, Ne.symm h2, Ne.symm h3]
theorem most_at (k : Int) : mostD.atKey (.int .i64 k) (.lit (.int .i64 0)) = .lit (.int .i64 (mostF k).1) := by
  unfold mostF mostD
  by_cases h1 : k = 6
  · subst h1; rfl
  by_cases h2 : k = 8
  · subst h2; rfl
  by_cases h3 : k = 9
  · subst h3; rfl
  simp [DataW.atKey, Lit.sameKey, h1, h2, h3, Ne.symm h1, Ne.symm h2, Ne.symm h3]
theorem zero_int (w : World) : (zeroValue 3).run Try.prog w = .ok (.int .i64 0) w := by kernel_rfl
def mostSteps : DataW Unit := (((DataW.map []).put (.int .i64 6) (.lit (.int .i64 24))).put (.int .i64 8) (.lit (.int .i64 200))).put (.int .i64 9) (.lit (.int .i64 200))
theorem mostSteps_eq : mostSteps = mostD := by kernel_rfl
set_option maxRecDepth 100000 in
theorem most_chain (W0 : World) (b : Nat) (h0 : W0.ownsMap Try.prog 3 (plainElem (H := Unit) Try.prog 3) b 0 (.map [])) : ∃ w1 w2 w3 : World,
    (Instr.mapUpdate 44 (.map (some b)) (.int .i64 6) (.int .i64 24)).run Try.prog W0 = .ok () w1 ∧
    (Instr.mapUpdate 44 (.map (some b)) (.int .i64 8) (.int .i64 200)).run Try.prog w1 = .ok () w2 ∧
    (Instr.mapUpdate 44 (.map (some b)) (.int .i64 9) (.int .i64 200)).run Try.prog w2 = .ok () w3 ∧
    (∀ k : Int, (Lit.int .i64 k).wf = true → (Instr.lookup 44 (.map (some b)) (.int .i64 k) true).run Try.prog w3 = .ok (.tuple #[.int .i64 (mostF k).1, .bool (mostF k).2]) w3) ∧ But1 b W0 w3 := by
  have K : Keyed Try.prog 3 := int_keyed Try.underlying3
  have kk : ∀ a : Int, (Lit.int .i64 a).wf = true → keyOf Try.prog 3 (.int .i64 a) = some (.int .i64 a) := fun a h => keyOf_int_mk Try.underlying3 h
  obtain ⟨w1, r1, h1, t1⟩ := h0.store K Try.underlying44 (by decide) (kk 6 (by decide)) (plainElem_int Try.underlying3 (a := 24) (by decide))
  obtain ⟨w2, r2, h2, t2⟩ := h1.store K Try.underlying44 (by decide) (kk 8 (by decide)) (plainElem_int Try.underlying3 (a := 200) (by decide))
  obtain ⟨w3, r3, h3, t3⟩ := h2.store K Try.underlying44 (by decide) (kk 9 (by decide)) (plainElem_int Try.underlying3 (a := 200) (by decide))
  have h6 : w3.ownsMap Try.prog 3 (plainElem (H := Unit) Try.prog 3) b 3 mostD := by rw [← mostSteps_eq]; exact h3
  refine ⟨w1, w2, w3, r1, r2, r3, fun k hk => ?_, ((((But1.refl b W0).step t1).step t2).step t3)⟩
  obtain ⟨v, ps, hr, hv⟩ := h6.look_ok K Try.underlying44 (zero_int w3) (plainElem_int Try.underlying3 (a := 0) (by decide)) (kk k hk)
  rw [most_at] at hv
  obtain ⟨c, rfl, hc, _⟩ := plainElem_int_inv Try.underlying3 hv
  have e : c = (mostF k).1 := by simpa using (congrArg Prod.fst hc).symm
  rw [most_has, e] at hr
  exact hr
end Go.Proofs.Yticdlpkjjokbcaa
