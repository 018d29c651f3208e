/- Contract of slices.Grow at ranges (S), in the print's form, out of the shelf's. No statement is proved here. -/
import Derived.Test.YtcmdoffdfnnlcaaAid
import Derived.Test.YtcmdoffdfnnlcaaPure
import Derived.Test.YtcmdoffdfnnlcaaPIjx0
import Derived.Test.YtcmdoffdfnnlcaaIntsShelf
namespace Go.Proofs.Ytcmdoffdfnnlcaa.Plug
open Go.RowKit Go.Proofs.Ytcmdoffdfnnlcaa Go.Proofs.Ytcmdoffdfnnlcaa.PIj Go.Proofs.YtcmdoffdfnnlcaaW.PrintWords Go.Proofs.YtcmdoffdfnnlcaaW.PrintLast Go.Proofs.YtcmdoffdfnnlcaaW.PrintMore
set_option linter.unusedVariables false
set_option linter.unusedSimpArgs false
theorem range_infoS : (Try.prog.info? 36).map (fun i => (i.zero, i.size, i.bytes)) = some (some (.agg #[.int .i64 0, .int .i64 0]), 2, 16) := by kernel_rfl
theorem range_partsS : ∃ i0, Try.prog.info? 36 = some i0 ∧ i0.zero = some (.agg #[.int .i64 0, .int .i64 0]) ∧ i0.size = 2 ∧ i0.bytes = 16 := by
  have h := range_infoS
  cases q : Try.prog.info? 36 with
  | none => rw [q] at h; cases h
  | some i0 =>
    rw [q] at h
    simp only [Option.map_some, Option.some.injEq, Prod.mk.injEq] at h
    exact ⟨i0, rfl, h.1, h.2.1, h.2.2⟩
def ints_Range_30.f (l0 : List S36) (a1 : Int) : Option (List S36) := if l0 = [] ∧ 0 ≤ a1 ∧ a1 ≤ 1000000000 then some [] else none
theorem ints_Range_30.calls (P0_ : Nat → Prop) (u9000_ : Value) (l0 : List S36) (a1 : Int) (r : List S36) (w0 w : World) (hB : Below w0.heap.size w0 w) (ho0 : Kd.R k36 36 w w0.heap.size P0_ u9000_ l0) (h : ints_Range_30.f l0 a1 = some r) :
    Calls Try.prog 30 #[u9000_, .int .i64 a1] w fun e w' => ∃ v0_ : Value, e = .returned (v0_) ∧ Kd.R k36 36 w' w0.heap.size (fun k_ => (P0_ k_ ∨ w.heap.size ≤ k_)) v0_ r ∧ Below w0.heap.size w0 w' ∧ Kept w w' (fun k_ => P0_ k_) := by
  unfold ints_Range_30.f at h
  by_cases hq : l0 = [] ∧ 0 ≤ a1 ∧ a1 ≤ 1000000000
  · rw [if_pos hq] at h
    obtain rfl := Option.some.inj h
    obtain ⟨rfl, q1, q2⟩ := hq
    obtain ⟨n, rfl⟩ : ∃ n : Nat, a1 = (n : Int) := ⟨a1.toNat, by omega⟩
    obtain ⟨h1, inner, ho, hr⟩ := ho0
    obtain ⟨i0, hi, hz0, hz1, hz2⟩ := range_partsS
    have new : ∀ (base : Option Addr) (c : Nat) (cs : List Value) (hcl : cs.length = c * 2) (hcm : c ≤ maxLen) (hnil : base = none → c = 0) (hcs : ∀ a, base = some a → ∀ j v, cs[j]? = some v → w.cell? (a.add j) = some v) (hroom : c < n),
        Calls Try.prog 30 #[.slice base 0 c, .int .i64 n] w fun e w' => ∃ v0_ : Value, e = .returned (v0_) ∧ Kd.R k36 36 w' w0.heap.size (fun k_ => (P0_ k_ ∨ w.heap.size ≤ k_)) v0_ [] ∧ Below w0.heap.size w0 w' ∧ Kept w w' (fun k_ => P0_ k_) := by
      intro base c cs hcl hcm hnil hcs hroom
      refine (Any8.slices_Grow_grow Try.growS i0 _ hi hz0 (by omega) base 0 c n cs w (Nat.zero_le _) (by omega) (by rw [hz2]; omega) (by omega) (by rw [hz1]; exact hcl) hnil hcs).mono ?_
      rintro e w' ⟨rfl, rfl⟩
      have hge : 0 + n ≤ grownCap w (0 + n) c 36 := grownCap_ge w _ _ _
      have hle := grownCap_le_maxLen w (0 + n) c 36 (by unfold maxLen; omega)
      show ∃ v0_ : Value, Ending.returned (.slice (some ⟨w.heap.size, 0, none⟩) 0 (grownCap w (0 + n) c 36)) = .returned (v0_) ∧ Kd.R k36 36 (w.drew.alloc (.cells (cs.toArray ++ Builtin.zeroCells (Value.agg #[.int .i64 0, .int .i64 0]).cells (0 + n - c) ++ Builtin.zeroCells (Value.agg #[.int .i64 0, .int .i64 0]).cells (grownCap w (0 + n) c 36 - (0 + n))) 36)) w0.heap.size (fun k_ => (P0_ k_ ∨ w.heap.size ≤ k_)) v0_ [] ∧ Below w0.heap.size w0 (w.drew.alloc (.cells (cs.toArray ++ Builtin.zeroCells (Value.agg #[.int .i64 0, .int .i64 0]).cells (0 + n - c) ++ Builtin.zeroCells (Value.agg #[.int .i64 0, .int .i64 0]).cells (grownCap w (0 + n) c 36 - (0 + n))) 36)) ∧ Kept w (w.drew.alloc (.cells (cs.toArray ++ Builtin.zeroCells (Value.agg #[.int .i64 0, .int .i64 0]).cells (0 + n - c) ++ Builtin.zeroCells (Value.agg #[.int .i64 0, .int .i64 0]).cells (grownCap w (0 + n) c 36 - (0 + n))) 36)) (fun k_ => P0_ k_)
      have hsz : (cs.toArray ++ Builtin.zeroCells (Value.agg #[.int .i64 0, .int .i64 0]).cells (0 + n - c) ++ Builtin.zeroCells (Value.agg #[.int .i64 0, .int .i64 0]).cells (grownCap w (0 + n) c 36 - (0 + n))).size = grownCap w (0 + n) c 36 * 2 := by
        simp only [Array.size_append, size_zeroCells, List.size_toArray, hcl]
        show c * 2 + (0 + n - c) * 2 + (grownCap w (0 + n) c 36 - (0 + n)) * 2 = _ * 2
        rw [← Nat.add_mul, ← Nat.add_mul]
        congr 1; omega
      generalize (cs.toArray ++ Builtin.zeroCells (Value.agg #[.int .i64 0, .int .i64 0]).cells (0 + n - c) ++ Builtin.zeroCells (Value.agg #[.int .i64 0, .int .i64 0]).cells (grownCap w (0 + n) c 36 - (0 + n))) = cur at hsz ⊢
      generalize grownCap w (0 + n) c 36 = G at hge hle hsz ⊢
      have hbel : Below w.heap.size w (w.drew.alloc (.cells cur 36)) := below_alloc (below_drew (Below.refl _ _)) _
      have hheap : (w.drew.alloc (.cells cur 36)).heap[w.heap.size]? = some (.cells cur 36 (0, 0)) := by first | (simp; done) | (simp [go_sem]; done) | exact Array.getElem?_push_size ..
      have hown : (w.drew.alloc (.cells cur 36)).ownsRow w0.heap.size 36 2 (.slice (some ⟨w.heap.size, 0, none⟩) 0 G) 0 [] := ⟨rfl, .inr ⟨w.heap.size, G, cur, rfl, hB.size, hheap, Nat.zero_le _, hle, hsz, by rw [Nat.zero_mul, List.take_zero]⟩⟩
      refine ⟨_, rfl, ⟨fun k hk => ?_, [], hown, rfl, ?_⟩, hB.trans (hbel.mono hB.size), Kept.of_below hbel _⟩
      · have : w.heap.size = k := Option.some.inj hk
        exact .inr (by omega)
      · intro j p hj; simp at hj
    rcases ho.2 with ⟨rfl, _⟩ | ⟨g, cap, cur, rfl, hg, hh, e1, e2, e3, e4⟩
    · by_cases h0 : n = 0
      · subst h0
        refine (Any8.slices_Grow_room Try.growS none 0 0 0 w (by omega) (by omega) (by omega) (by omega)).mono ?_
        rintro e w' ⟨rfl, rfl⟩
        exact ⟨_, rfl, Kd.R_nil _ _ _ _ _, hB, Kept.refl _ _⟩
      · exact new none 0 [] rfl (Nat.zero_le _) (fun _ => rfl) (fun a ha => by cases ha) (by omega)
    · by_cases hc : n ≤ cap
      · refine (Any8.slices_Grow_room Try.growS (some ⟨g, 0, none⟩) 0 cap n w (Nat.zero_le _) (by unfold maxLen at e2; omega) (by omega) (by omega)).mono ?_
        rintro e w' ⟨rfl, rfl⟩
        exact ⟨_, rfl, Kd.R_mono ⟨h1, inner, ho, hr⟩ (fun k hk => .inl hk), hB, Kept.refl _ _⟩
      · refine new (some ⟨g, 0, none⟩) cap cur.toList (by rw [Array.length_toList]; exact e3) e2 (fun he => by cases he) (fun a ha j v hj => ?_) (by omega)
        obtain rfl := Option.some.inj ha
        have := blk_cell hh j
        rw [Array.getElem?_toList] at hj
        rw [hj] at this
        simp only [Addr.add]
        split
        · rename_i hz
          rw [hz] at this; exact this
        · simpa using this
  · rw [if_neg hq] at h; cases h
end Go.Proofs.Ytcmdoffdfnnlcaa.Plug
