/- What a Value is that a call is handed: its nodes, its bulk. No statement is proved here. -/
import Derived.Test.YticdlpkjjokbcaaValWords
import Derived.Test.YticdlpkjjokbcaaRows
import Derived.WalkKit
import Derived.ProofKit
import Derived.OpenShut
import Derived.ShutString
import Derived.ChangeOld
import Derived.Below
import Derived.SizedLaws
import Derived.Lib.SmallJoins
import Derived.Carry
namespace Go.Proofs.Yticdlpkjjokbcaa.PVal
open Go.ChangeShapes Go.WideShapes Go.ChangeAt Go.RowKit Go.Proofs.YticdlpkjjokbcaaW.PrintWords Go.Proofs.YticdlpkjjokbcaaW.PrintLast
set_option linter.unusedVariables false
mutual
/-- A weight of a value: its nodes, its letters. -/
def wtV : S24g S36 → Nat
  | ⟨_, _, s, fs⟩ => 4 + s.size + wtFs fs
def wtF : S36 → Nat
  | ⟨s, v⟩ => s.size + wtV v
def wtFs : List S36 → Nat
  | [] => 0
  | f :: t => wtF f + wtFs t
end
mutual
/-- All whole numbers of a value are ints. -/
def rgV : S24g S36 → Prop
  | ⟨k, n, _, fs⟩ => (Lit.int .i64 k).wf = true ∧ (Lit.int .i64 n).wf = true ∧ rgFs fs
def rgF : S36 → Prop
  | ⟨_, v⟩ => rgV v
def rgFs : List S36 → Prop
  | [] => True
  | f :: t => rgF f ∧ rgFs t
end
theorem wtV_eq (v : S24g S36) : wtV v = 4 + v.f2.size + wtFs v.f3 := by cases v; rfl
theorem wtF_eq (f : S36) : wtF f = f.f0.size + wtV f.f1 := by cases f; rfl
theorem rgV_eq (v : S24g S36) : rgV v = ((Lit.int .i64 v.f0).wf = true ∧ (Lit.int .i64 v.f1).wf = true ∧ rgFs v.f3) := by cases v; rfl
theorem rgF_eq (f : S36) : rgF f = rgV f.f1 := by cases f; rfl
theorem wtFs_app (l m : List S36) : wtFs (l ++ m) = wtFs l + wtFs m := by
  induction l with
  | nil => show wtFs m = 0 + wtFs m; omega
  | cons a t ih => show wtF a + wtFs (t ++ m) = wtF a + wtFs t + wtFs m; omega
theorem rgFs_mem {l : List S36} (h : ∀ f ∈ l, rgF f) : rgFs l := by
  induction l with
  | nil => trivial
  | cons a t ih => exact ⟨h a List.mem_cons_self, ih fun f hf => h f (List.mem_cons_of_mem _ hf)⟩
theorem rgFs_of {l : List S36} (h : rgFs l) : ∀ f ∈ l, rgF f := by
  induction l with
  | nil => intro f hf; cases hf
  | cons a t ih =>
    intro f hf
    rcases List.mem_cons.1 hf with q | q
    · rw [q]; exact h.1
    · exact ih h.2 f q
theorem wtFs_mem {l : List S36} {f : S36} (h : f ∈ l) : wtF f ≤ wtFs l := by
  induction l with
  | nil => cases h
  | cons a t ih =>
    show wtF f ≤ wtF a + wtFs t
    rcases List.mem_cons.1 h with q | q
    · rw [q]; omega
    · have := ih q; omega
section
variable {H : Type} {enc : TypeId × Value → H} {w : World} {base : Nat} {spare : Nat → Bool} {held : Bool}
/-- What a value's cells are. -/
def OpenV (w : World) (cs : List Value) (b : Nat) : Prop := ∃ (x : S24g S36) (A : Option Addr) (c : Nat), cs = [.int .i64 x.f0, .int .i64 x.f1, .string x.f2, .slice A x.f3.length c] ∧ x.f3.length ≤ c ∧ Kd.C k36 w A x.f3.length x.f3 ∧ rgV x ∧ wtV x ≤ b
def OpenF (w : World) (cs : List Value) (b : Nat) : Prop := ∃ x : S36, k36.K w x cs ∧ rgF x ∧ wtF x ≤ b
theorem bulk_app {H : Type} (l m : List (DataW H)) : Rows.uptoBulkAll (l ++ m) = Rows.uptoBulkAll l + Rows.uptoBulkAll m := by
  induction l with
  | nil => show Rows.uptoBulkAll m = 0 + Rows.uptoBulkAll m; omega
  | cons a t ih => show Rows.uptoBulk a + Rows.uptoBulkAll (t ++ m) = Rows.uptoBulk a + Rows.uptoBulkAll t + Rows.uptoBulkAll m; omega
theorem row_of (ad : Addr) (n : Nat) : ∀ (ys : List (DataW H × List MemPlace)), ys.length = n → (∀ i y, ys[i]? = some y → ∃ cs, (∀ q u, cs[q]? = some u → w.cell? (ad.add (i * 5 + q)) = some u) ∧ cs.length = 5 ∧ OpenF w cs (Rows.uptoBulk y.1)) →
    ∃ ps : List S36, ps.length = n ∧ rgFs ps ∧ wtFs ps ≤ Rows.uptoBulkAll (ys.map (·.1)) ∧ ∀ j p, ps[j]? = some p → ∃ c, c.length = 5 ∧ k36.K w p c ∧ ∀ i u, c[i]? = some u → w.cell? (ad.add (j * 5 + i)) = some u := by
  induction n with
  | zero => intro ys hl _; exact ⟨[], rfl, trivial, by simp [wtFs], fun j p h => by simp at h⟩
  | succ n ih =>
    intro ys hl h
    have hne : ys ≠ [] := by intro e; rw [e] at hl; simp at hl
    obtain ⟨zs, y, rfl⟩ : ∃ zs y, ys = zs ++ [y] := ⟨ys.dropLast, ys.getLast hne, (List.dropLast_concat_getLast hne).symm⟩
    rw [List.length_append, List.length_cons, List.length_nil] at hl
    have hz : zs.length = n := by omega
    obtain ⟨ps, h1, h2, h3, h4⟩ := ih zs hz (fun i y' hy => h i y' (by
      have hi := (List.getElem?_eq_some_iff.1 hy).1
      rw [List.getElem?_append_left hi]; exact hy))
    obtain ⟨cs, hc, hcl, x, hK, hr, hw⟩ := h n y (by rw [List.getElem?_append_right (by omega)]; simp [hz])
    refine ⟨ps ++ [x], by simp [h1], rgFs_mem ?_, ?_, ?_⟩
    · intro f hf
      rcases List.mem_append.1 hf with q | q
      · exact rgFs_of h2 f q
      · rw [List.mem_singleton.1 q]; exact hr
    · rw [wtFs_app, List.map_append, bulk_app]
      show wtFs ps + (wtF x + 0) ≤ Rows.uptoBulkAll (zs.map (·.1)) + (Rows.uptoBulk y.1 + 0)
      omega
    · intro j p hp
      rcases Nat.lt_or_ge j n with q | q
      · rw [List.getElem?_append_left (by omega)] at hp
        exact h4 j p hp
      · rw [List.getElem?_append_right (by omega)] at hp
        obtain rfl : j = n := by
          have := (List.getElem?_eq_some_iff.1 hp).1
          simp at this; omega
        simp [h1] at hp
        subst hp
        exact ⟨cs, hcl, hK, hc⟩
set_option maxRecDepth 1000000 in
set_option maxHeartbeats 2000000 in
theorem open_val : ∀ (fuel : Nat) (cs : List Value) (x : DataW H × List MemPlace), DataW.trod enc Try.prog w base (fun _ => true) held fuel 24 cs = some x → OpenV w cs (Rows.uptoBulk x.1) := by
  intro fuel
  induction fuel using Nat.strongRecOn with
  | _ fuel ih =>
  intro cs x h
  obtain ⟨xs, n, rfl, rfl, hl, hxl, hf⟩ := DataW.trod_struct Try.underlying24 h
  replace hl : cs.length = 4 := hl.trans (by kernel_rfl)
  match xs, hxl with
  | [y0, y1, y2, y3], _ =>
  match cs, hl with
  | [c0, c1, c2, c3], _ =>
  have h0 : DataW.trod enc Try.prog w base (fun _ => true) held n 3 [c0] = some y0 := (by have := hf 0 _ rfl; rwa [show Try.prog.cellsOf _ = 1 by kernel_rfl] at this)
  have h1 : DataW.trod enc Try.prog w base (fun _ => true) held n 3 [c1] = some y1 := (by have := hf 1 _ rfl; rwa [show Try.prog.cellsOf _ = 1 by kernel_rfl] at this)
  have h2 : DataW.trod enc Try.prog w base (fun _ => true) held n 9 [c2] = some y2 := (by have := hf 2 _ rfl; rwa [show Try.prog.cellsOf _ = 1 by kernel_rfl] at this)
  have h3 : DataW.trod enc Try.prog w base (fun _ => true) held n 22 [c3] = some y3 := (by have := hf 3 _ rfl; rwa [show Try.prog.cellsOf _ = 1 by kernel_rfl] at this)
  obtain ⟨k, e0, rfl, hk⟩ := DataW.trod_int Try.underlying3 h0
  obtain ⟨m, e1, rfl, hm⟩ := DataW.trod_int Try.underlying3 h1
  obtain ⟨s, e2, rfl, hs⟩ := DataW.trod_string Try.underlying9 h2
  injection e0 with e0; injection e1 with e1; injection e2 with e2
  subst e0 e1 e2
  have hsz : s.data.toList.length = s.size := Array.length_toList ..
  rcases DataW.trod_slice Try.underlying22 h3 with ⟨e3, rfl⟩ | ⟨a, len, cap, elems, rest, q, rfl, e3, rfl, hb, hlc, hcm, hel, hget, _⟩
  · injection e3 with e3
    subst e3
    refine ⟨⟨k, m, s, []⟩, none, 0, rfl, Nat.le_refl _, ?_, ⟨hk, hm, trivial⟩, ?_⟩
    · exact ⟨rfl, by simp, fun h => absurd h (by simp)⟩
    · show 4 + s.size + 0 ≤ 1 + (1 + ((s.data.toList.length + 1) + (1 + 0))) + 1
      omega
  · injection e3 with e3
    subst e3
    have each : ∀ i y, elems[i]? = some y → ∃ cs, (∀ q u, cs[q]? = some u → w.cell? (a.add (i * 5 + q)) = some u) ∧ cs.length = 5 ∧ OpenF w cs (Rows.uptoBulk y.1) := by
      intro i y hy
      have hi := (List.getElem?_eq_some_iff.1 hy).1
      have hg := hget i (by omega)
      rw [hy, show Try.prog.cellsOf 36 = 5 by kernel_rfl, Option.bind_eq_some_iff] at hg
      obtain ⟨cs, hcs, ht⟩ := hg
      obtain ⟨_, hcl, hcell⟩ := World.cells?_some hcs
      refine ⟨cs, fun q u hu => ?_, hcl, ?_⟩
      · have hq := (List.getElem?_eq_some_iff.1 hu).1
        rw [← add_add, hcell q (by omega), hu]
      · obtain ⟨zs, n2, rfl, rfl, hl2, hzl, hf2⟩ := DataW.trod_struct Try.underlying36 ht
        match zs, hzl with
        | [z0, z1], _ =>
        match cs, hcl with
        | [d0, d1, d2, d3, d4], _ =>
        have g0 : DataW.trod enc Try.prog w base (fun _ => true) held n2 9 [d0] = some z0 := (by have := hf2 0 _ rfl; rwa [show Try.prog.cellsOf _ = 1 by kernel_rfl] at this)
        have g1 : DataW.trod enc Try.prog w base (fun _ => true) held n2 24 [d1, d2, d3, d4] = some z1 := (by have := hf2 1 _ rfl; rwa [show Try.prog.cellsOf _ = 4 by kernel_rfl] at this)
        obtain ⟨nm, e5, rfl, _⟩ := DataW.trod_string Try.underlying9 g0
        injection e5 with e5
        subst e5
        obtain ⟨v, A, c, ev, hvc, hvC, hvr, hvw⟩ := ih n2 (by omega) _ _ g1
        have hnm : nm.data.toList.length = nm.size := Array.length_toList ..
        refine ⟨⟨nm, v⟩, ?_, ?_, ?_⟩
        · rw [ev]; exact k36_mk w ⟨nm, v⟩ hvc hvC
        · rw [rgF_eq]; exact hvr
        · rw [wtF_eq]
          show nm.size + wtV v ≤ (nm.data.toList.length + 1) + (Rows.uptoBulk z1.1 + 0) + 1
          omega
    obtain ⟨ps, p1, p2, p3, p4⟩ := row_of a len elems hel each
    refine ⟨⟨k, m, s, ps⟩, some a, cap, by rw [p1], by simp only; omega, ?_, ⟨hk, hm, p2⟩, ?_⟩
    · refine ⟨rfl, ?_, fun _ => ⟨a, rfl, p4⟩⟩
      have : maxLen ≤ 9223372036854775807 := by decide
      simp only; omega
    · show 4 + s.size + wtFs ps ≤ 1 + (1 + ((s.data.toList.length + 1) + ((Rows.uptoBulkAll (elems.map (·.1)) + Rows.uptoBulkAll (rest.map (·.1)) + 1) + 0))) + 1
      omega
end
end Go.Proofs.Yticdlpkjjokbcaa.PVal
