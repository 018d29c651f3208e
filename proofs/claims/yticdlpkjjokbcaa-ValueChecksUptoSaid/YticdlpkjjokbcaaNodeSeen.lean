/- The set of names that the reference's nodeErr fills. No statement is proved here. -/
import Derived.Test.YticdlpkjjokbcaaNodeMaps
import Derived.StringKeys
namespace Go.Proofs.Yticdlpkjjokbcaa
open Go.RowKit Go.Maps Go.WideMaps
set_option linter.unusedVariables false
set_option linter.unusedSimpArgs false
/-- Block b holds the set of these names. -/
def Seen (w : World) (b n : Nat) (l : List ByteArray) : Prop := ∃ D : DataW Unit, w.ownsMap Try.prog 9 (plainElem Try.prog 4) b n D ∧ IsMap D ∧
  ∀ s : ByteArray, D.atKey (.string s.data.toList) (.lit (.bool false)) = .lit (.bool (decide (∃ t ∈ l, t.data.toList = s.data.toList)))
theorem zero_bool (w : World) : (zeroValue 4).run Try.prog w = .ok (.bool false) w := by kernel_rfl
theorem Seen.made (w : World) : Seen (w.alloc (.map #[] 0)) w.heap.size 0 [] := by
  have h := World.ownsMap_made w Try.prog 9 (plainElem (H := Unit) Try.prog 4)
  exact ⟨_, h, h.isMap, fun s => by simp [DataW.atKey]⟩
theorem Seen.look {w : World} {b n : Nat} {l : List ByteArray} (h : Seen w b n l) (s : ByteArray) (hs : s.size ≤ maxLen) : (Instr.lookup 46 (.map (some b)) (.string s) false).run Try.prog w = .ok (.bool (decide (∃ t ∈ l, t.data.toList = s.data.toList))) w := by
  obtain ⟨D, hD, hm, hat⟩ := h
  obtain ⟨v, ps, hr, hv⟩ := hD.lookup (string_keyed Try.underlying9) Try.underlying46 (zero_bool w) (plainElem_bool Try.underlying4 false) (keyOf_string_mk Try.underlying9 hs)
  rw [hat s] at hv
  have e : v = .bool (decide (∃ t ∈ l, t.data.toList = s.data.toList)) := by
    unfold plainElem at hv
    rw [Try.underlying4] at hv
    cases v <;> simp_all
  rw [e] at hr
  exact hr
theorem Seen.put {w : World} {b n : Nat} {l : List ByteArray} (h : Seen w b n l) (s : ByteArray) (hs : s.size ≤ maxLen) (hn : n < maxLen) : ∃ w', (Instr.mapUpdate 46 (.map (some b)) (.string s) (.bool true)).run Try.prog w = .ok () w' ∧ Seen w' b (n + 1) (s :: l) ∧ But1 b w w' := by
  obtain ⟨D, hD, hm, hat⟩ := h
  obtain ⟨w', hr, hD', ht⟩ := hD.store (string_keyed Try.underlying9) Try.underlying46 hn (keyOf_string_mk Try.underlying9 hs) (plainElem_bool Try.underlying4 true)
  refine ⟨w', hr, ⟨_, hD', hD'.isMap, fun t => ?_⟩, (But1.refl b w).step ht⟩
  have hk : WideAt.IsKeyLit (.string s.data.toList) := trivial
  by_cases e : s.data.toList = t.data.toList
  · rw [← e, atKey_put_same hm hk]
    congr 2
    simp
  · rw [atKey_put_other (fun q => by injection q with q; exact e q.symm), hat t]
    congr 2
    rw [decide_eq_decide]
    constructor
    · rintro ⟨x, hx, ex⟩; exact ⟨x, List.mem_cons_of_mem _ hx, ex⟩
    · rintro ⟨x, hx, ex⟩
      rcases List.mem_cons.1 hx with q | q
      · rw [q] at ex; exact absurd ex e
      · exact ⟨x, q, ex⟩
theorem Seen.kept {w w' : World} {b n : Nat} {l : List ByteArray} (h : Seen w b n l) (he : w'.heap[b]? = w.heap[b]?) : Seen w' b n l := by
  obtain ⟨D, ⟨es, cl, hb, F, hs, e⟩, hm, hat⟩ := h
  exact ⟨D, ⟨es, cl, he.trans hb, F, hs, e⟩, hm, hat⟩
theorem Seen.lt {w : World} {b n : Nat} {l : List ByteArray} (h : Seen w b n l) : b < w.heap.size := by
  obtain ⟨D, hD, _, _⟩ := h
  exact hD.lt
end Go.Proofs.Yticdlpkjjokbcaa
