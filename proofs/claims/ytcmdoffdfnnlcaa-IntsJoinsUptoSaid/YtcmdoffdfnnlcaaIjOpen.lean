/- What a slice of ranges is that a call is handed; the walk of IntsJoins with its plain law. No statement is proved here. -/
import Derived.Test.YtcmdoffdfnnlcaaRows
import Derived.Test.YtcmdoffdfnnlcaaIjLaw
import Derived.Test.YtcmdoffdfnnlcaaIntsJoins
import Derived.Deep.SlicePairs
import Derived.WalkKit
import Derived.ProofKit
import Derived.OpenShut
namespace Go.Proofs.Ytcmdoffdfnnlcaa.PIj
open Go.ChangeShapes Go.WideShapes Go.ChangeAt Go.RowKit Go.Proofs.Ytcmdoffdfnnlcaa Go.Proofs.YtcmdoffdfnnlcaaW.PrintWords Go.Proofs.YtcmdoffdfnnlcaaW.PrintLast
set_option linter.unusedVariables false
theorem bulk_pos {H : Type} (d : DataW H) : 1 ≤ Rows.uptoBulk d := by
  cases d with
  | lit v => cases v <;> simp [Rows.uptoBulk]
  | nil => simp [Rows.uptoBulk]
  | ptr d => simp [Rows.uptoBulk]
  | slice a b => simp [Rows.uptoBulk]
  | agg a => simp [Rows.uptoBulk]
  | iface t d => simp [Rows.uptoBulk]
  | map e => simp [Rows.uptoBulk]
  | held h => simp [Rows.uptoBulk]
theorem bulk_len {H : Type} (l : List (DataW H)) : l.length ≤ Rows.uptoBulkAll l := by
  induction l with
  | nil => exact Nat.zero_le _
  | cons d t ih =>
    have := bulk_pos d
    show t.length + 1 ≤ Rows.uptoBulk d + Rows.uptoBulkAll t
    omega
theorem open_ranges {H : Type} {enc : TypeId × Value → H} {w : World} {base : Nat} {held : Bool} {fuel : Nat} {cs : List Value} {x : DataW H × List MemPlace}
    (h : DataW.trod enc Try.prog w base (fun _ => true) held fuel 23 cs = some x) : ∃ (l : List S36) (A : Option Addr) (c : Nat), cs = [.slice A l.length c] ∧ l.length ≤ c ∧ Kd.C k36 w A l.length l ∧ l.length ≤ Rows.uptoBulk x.1 := by
  rcases Go.Deep.open_slice_pairs Try.underlying23 Try.underlying36 (by kernel_rfl) (by rfl) (by rfl) (by kernel_rfl) (by kernel_rfl) h with ⟨rfl, _⟩ | ⟨a, len, cap, m, n, V0, V1, D0, D1, P0, P1, rfl, hb, hl, hm, hmm, hx, hi⟩
  · exact ⟨[], none, 0, rfl, Nat.le_refl _, ⟨rfl, by simp, fun h => absurd h (by simp)⟩, Nat.zero_le _⟩
  · have hlm : len ≤ m := by rw [hmm]; simp; omega
    have hmax : maxLen = 9223372036854775807 := by decide
    have hlen : ((List.range len).map fun i => (⟨intOf (V0 i), intOf (V1 i)⟩ : S36)).length = len := by simp
    refine ⟨(List.range len).map fun i => ⟨intOf (V0 i), intOf (V1 i)⟩, some a, cap, by rw [hlen], by rw [hlen]; exact hl, ?_, ?_⟩
    · refine ⟨rfl, by rw [hlen]; omega, fun _ => ⟨a, rfl, fun j p hj => ?_⟩⟩
      have hj' : j < len := by have := (List.getElem?_eq_some_iff.1 hj).1; rwa [hlen] at this
      obtain ⟨h0, h1, t0, t1⟩ := hi j (by omega)
      obtain ⟨u, e0, _, _⟩ := DataW.trod_int Try.underlying3 t0
      obtain ⟨v, e1, _, _⟩ := DataW.trod_int Try.underlying3 t1
      injection e0 with e0
      injection e1 with e1
      have hp : p = ⟨u, v⟩ := by
        simp [List.getElem?_map, List.getElem?_range hj'] at hj
        rw [← hj, e0, e1]; rfl
      subst hp
      refine ⟨_, rfl, k36_mk w ⟨u, v⟩, fun i q hq => ?_⟩
      match i, hq with
      | 0, hq => simp at hq; subst hq; rw [← e0]; exact h0
      | 1, hq => simp at hq; subst hq; rw [← e1]; exact h1
    · rw [hlen, hx]
      show len ≤ Rows.uptoBulkAll ((List.range len).map fun i => DataW.agg [D0 i, D1 i]) + _ + 1
      have := bulk_len ((List.range len).map fun i => DataW.agg [D0 i, D1 i])
      rw [List.length_map, List.length_range] at this
      omega
theorem IntsJoins_walk (A0 : Option Addr) (c0 : Nat) (l0 : List S36) (A1 : Option Addr) (c1 : Nat) (l1 : List S36) (A2 : Option Addr) (c2 : Nat) (l2 : List Int) (lo hi : Int) (W : World)
    (h0 : Kd.C k36 W A0 l0.length l0) (hc0 : l0.length ≤ c0) (b0 : l0.length ≤ 1048576) (h1 : Kd.C k36 W A1 l1.length l1) (hc1 : l1.length ≤ c1) (b1 : l1.length ≤ 1048576)
    (h2 : Kd.C (Kd.int .i64) W A2 l2.length l2) (hc2 : l2.length ≤ c2) (b2 : l2.length ≤ 1048576) (w2 : ∀ n ∈ l2, (Lit.int .i64 n).wf = true) (wlo : (Lit.int .i64 lo).wf = true) (whi : (Lit.int .i64 hi).wf = true) :
    Calls Try.prog 3 #[.slice A0 l0.length c0, .slice A1 l1.length c1, .slice A2 l2.length c2, .int .i64 lo, .int .i64 hi] W (Tr W) := by
  obtain ⟨e, f, s1, s2, s3, s4, s5, m1, m2, m3, m4, m5, g1, g2, g3, g4, g5, Z⟩ := law_in l0 l1 l2 lo hi b0 b1 b2
  exact law_walk l0 l1 l2 lo hi e f s1 s2 s3 s4 s5 m1 m2 m3 m4 m5 g1 g2 g3 g4 g5 Z A0 A1 A2 c0 c1 c2 W h0 hc0 h1 hc1 h2 hc2 b0 b1 b2 w2 wlo whi
end Go.Proofs.Ytcmdoffdfnnlcaa.PIj
