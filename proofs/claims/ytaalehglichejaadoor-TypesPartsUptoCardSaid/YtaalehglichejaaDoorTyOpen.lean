/- What a Type is that a call is handed: its nodes, its bulk. No statement is proved here. -/
import Derived.Test.YtaalehglichejaaDoorTyText
import Derived.Test.YtaalehglichejaaDoorRows
import Derived.WalkKit
import Derived.ProofKit
import Derived.OpenShut
import Derived.ShutString
import Derived.ChangeOld
import Derived.Below
import Derived.SizedLaws
import Derived.Lib.SmallJoins
import Derived.Carry
namespace Go.Proofs.YtaalehglichejaaDoor.PTy
open Go.ChangeShapes Go.WideShapes Go.ChangeAt Go.RowKit Go.Proofs.YtaalehglichejaaDoorW.PrintWords Go.Proofs.YtaalehglichejaaDoorW.PrintLast
set_option linter.unusedVariables false
mutual
/-- A weight of a value: its nodes, its letters. -/
def wtV : S24g S29 → Nat
  | ⟨_, s, _, _, p, fs⟩ => 6 + s.size + p.size + wtFs fs
def wtF : S29 → Nat
  | ⟨s, v⟩ => s.size + wtV v
def wtFs : List S29 → Nat
  | [] => 0
  | f :: t => wtF f + wtFs t
end
theorem wtV_eq (v : S24g S29) : wtV v = 6 + v.f1.size + v.f4.size + wtFs v.f5 := by cases v; rfl
theorem wtF_eq (f : S29) : wtF f = f.f0.size + wtV f.f1 := by cases f; rfl
theorem wtFs_app (l m : List S29) : wtFs (l ++ m) = wtFs l + wtFs m := by
  induction l with
  | nil => show wtFs m = 0 + wtFs m; omega
  | cons a t ih => show wtF a + wtFs (t ++ m) = wtF a + wtFs t + wtFs m; omega
theorem rgFs_all {l : List S29} (h : ∀ f ∈ l, rgF f) : rgFs l := by
  induction l with
  | nil => trivial
  | cons a t ih => exact ⟨h a List.mem_cons_self, ih fun f hf => h f (List.mem_cons_of_mem _ hf)⟩
theorem rgFs_of {l : List S29} (h : rgFs l) : ∀ f ∈ l, rgF f := by
  induction l with
  | nil => intro f hf; cases hf
  | cons a t ih =>
    intro f hf
    rcases List.mem_cons.1 hf with q | q
    · rw [q]; exact h.1
    · exact ih h.2 f q
theorem wtFs_mem {l : List S29} {f : S29} (h : f ∈ l) : wtF f ≤ wtFs l := by
  induction l with
  | nil => cases h
  | cons a t ih =>
    show wtF f ≤ wtF a + wtFs t
    rcases List.mem_cons.1 h with q | q
    · rw [q]; omega
    · have := ih q; omega
section
variable {H : Type} {enc : TypeId × Value → H} {w : World} {base : Nat} {spare : Nat → Bool} {held : Bool}
/-- What a value's cells are. -/
def OpenV (w : World) (cs : List Value) (b : Nat) : Prop := ∃ (x : S24g S29) (A : Option Addr) (c : Nat), cs = [.int .i64 x.f0, .string x.f1, .int .i64 x.f2, .int .i64 x.f3, .string x.f4, .slice A x.f5.length c] ∧ x.f5.length ≤ c ∧ Kd.C k29 w A x.f5.length x.f5 ∧ rgV x ∧ wtV x ≤ b
def OpenF (w : World) (cs : List Value) (b : Nat) : Prop := ∃ x : S29, k29.K w x cs ∧ rgF x ∧ wtF x ≤ b
theorem bulk_app {H : Type} (l m : List (DataW H)) : Rows.uptoBulkAll (l ++ m) = Rows.uptoBulkAll l + Rows.uptoBulkAll m := by
  induction l with
  | nil => show Rows.uptoBulkAll m = 0 + Rows.uptoBulkAll m; omega
  | cons a t ih => show Rows.uptoBulk a + Rows.uptoBulkAll (t ++ m) = Rows.uptoBulk a + Rows.uptoBulkAll t + Rows.uptoBulkAll m; omega
theorem row_of (ad : Addr) (n : Nat) : ∀ (ys : List (DataW H × List MemPlace)), ys.length = n → (∀ i y, ys[i]? = some y → ∃ cs, (∀ q u, cs[q]? = some u → w.cell? (ad.add (i * 7 + q)) = some u) ∧ cs.length = 7 ∧ OpenF w cs (Rows.uptoBulk y.1)) →
    ∃ ps : List S29, ps.length = n ∧ rgFs ps ∧ wtFs ps ≤ Rows.uptoBulkAll (ys.map (·.1)) ∧ ∀ j p, ps[j]? = some p → ∃ c, c.length = 7 ∧ k29.K w p c ∧ ∀ i u, c[i]? = some u → w.cell? (ad.add (j * 7 + i)) = some u := by
  induction n with
  | zero => intro ys hl _; exact ⟨[], rfl, trivial, by simp [wtFs], fun j p h => by simp at h⟩
  | succ n ih =>
    intro ys hl h
    have hne : ys ≠ [] := by intro e; rw [e] at hl; simp at hl
    obtain ⟨zs, y, rfl⟩ : ∃ zs y, ys = zs ++ [y] := ⟨ys.dropLast, ys.getLast hne, (List.dropLast_concat_getLast hne).symm⟩
    rw [List.length_append, List.length_cons, List.length_nil] at hl
    have hz : zs.length = n := by omega
    obtain ⟨ps, h1, h2, h3, h4⟩ := ih zs hz (fun i y' hy => h i y' (by
      have hi := (List.getElem?_eq_some_iff.1 hy).1
      rw [List.getElem?_append_left hi]; exact hy))
    obtain ⟨cs, hc, hcl, x, hK, hr, hw⟩ := h n y (by rw [List.getElem?_append_right (by omega)]; simp [hz])
    refine ⟨ps ++ [x], by simp [h1], rgFs_all ?_, ?_, ?_⟩
    · intro f hf
      rcases List.mem_append.1 hf with q | q
      · exact rgFs_of h2 f q
      · rw [List.mem_singleton.1 q]; exact hr
    · rw [wtFs_app, List.map_append, bulk_app]
      show wtFs ps + (wtF x + 0) ≤ Rows.uptoBulkAll (zs.map (·.1)) + (Rows.uptoBulk y.1 + 0)
      omega
    · intro j p hp
      rcases Nat.lt_or_ge j n with q | q
      · rw [List.getElem?_append_left (by omega)] at hp
        exact h4 j p hp
      · rw [List.getElem?_append_right (by omega)] at hp
        obtain rfl : j = n := by
          have := (List.getElem?_eq_some_iff.1 hp).1
          simp at this; omega
        simp [h1] at hp
        subst hp
        exact ⟨cs, hcl, hK, hc⟩
set_option maxRecDepth 1000000 in
set_option maxHeartbeats 2000000 in
theorem open_val : ∀ (fuel : Nat) (cs : List Value) (x : DataW H × List MemPlace), DataW.trod enc Tryd.prog w base (fun _ => true) held fuel 24 cs = some x → OpenV w cs (Rows.uptoBulk x.1) := by
  intro fuel
  induction fuel using Nat.strongRecOn with
  | _ fuel ih =>
  intro cs x h
  obtain ⟨xs, n, rfl, rfl, hl, hxl, hf⟩ := DataW.trod_struct Tryd.underlying24 h
  replace hl : cs.length = 6 := hl.trans (by kernel_rfl)
  match xs, hxl with
  | [y0, y1, y2, y3, y4, y5], _ =>
  match cs, hl with
  | [c0, c1, c2, c3, c4, c5], _ =>
  have h0 : DataW.trod enc Tryd.prog w base (fun _ => true) held n 3 [c0] = some y0 := (by have := hf 0 _ rfl; rwa [show Tryd.prog.cellsOf _ = 1 by kernel_rfl] at this)
  have h1 : DataW.trod enc Tryd.prog w base (fun _ => true) held n 9 [c1] = some y1 := (by have := hf 1 _ rfl; rwa [show Tryd.prog.cellsOf _ = 1 by kernel_rfl] at this)
  have h2 : DataW.trod enc Tryd.prog w base (fun _ => true) held n 3 [c2] = some y2 := (by have := hf 2 _ rfl; rwa [show Tryd.prog.cellsOf _ = 1 by kernel_rfl] at this)
  have h3 : DataW.trod enc Tryd.prog w base (fun _ => true) held n 3 [c3] = some y3 := (by have := hf 3 _ rfl; rwa [show Tryd.prog.cellsOf _ = 1 by kernel_rfl] at this)
  have h4 : DataW.trod enc Tryd.prog w base (fun _ => true) held n 9 [c4] = some y4 := (by have := hf 4 _ rfl; rwa [show Tryd.prog.cellsOf _ = 1 by kernel_rfl] at this)
  have h5 : DataW.trod enc Tryd.prog w base (fun _ => true) held n 22 [c5] = some y5 := (by have := hf 5 _ rfl; rwa [show Tryd.prog.cellsOf _ = 1 by kernel_rfl] at this)
  obtain ⟨k, e0, rfl, hk⟩ := DataW.trod_int Tryd.underlying3 h0
  obtain ⟨nm, e1, rfl, hnm⟩ := DataW.trod_string Tryd.underlying9 h1
  obtain ⟨lo, e2, rfl, hlo⟩ := DataW.trod_int Tryd.underlying3 h2
  obtain ⟨hi, e3, rfl, hhi⟩ := DataW.trod_int Tryd.underlying3 h3
  obtain ⟨pt, e4, rfl, hpt⟩ := DataW.trod_string Tryd.underlying9 h4
  injection e0 with e0; injection e1 with e1; injection e2 with e2; injection e3 with e3; injection e4 with e4
  subst e0 e1 e2 e3 e4
  have hsz : nm.data.toList.length = nm.size := Array.length_toList ..
  have hsp : pt.data.toList.length = pt.size := Array.length_toList ..
  rcases DataW.trod_slice Tryd.underlying22 h5 with ⟨e5, rfl⟩ | ⟨a, len, cap, elems, rest, q, rfl, e5, rfl, hb, hlc, hcm, hel, hget, _⟩
  · injection e5 with e5
    subst e5
    refine ⟨⟨k, nm, lo, hi, pt, []⟩, none, 0, rfl, Nat.le_refl _, ?_, ⟨⟨hk, hlo, hhi⟩, trivial⟩, ?_⟩
    · exact ⟨rfl, by simp, fun h => absurd h (by simp)⟩
    · show 6 + nm.size + pt.size + 0 ≤ 1 + ((nm.data.toList.length + 1) + (1 + (1 + ((pt.data.toList.length + 1) + (1 + 0))))) + 1
      omega
  · injection e5 with e5
    subst e5
    have each : ∀ i y, elems[i]? = some y → ∃ cs, (∀ q u, cs[q]? = some u → w.cell? (a.add (i * 7 + q)) = some u) ∧ cs.length = 7 ∧ OpenF w cs (Rows.uptoBulk y.1) := by
      intro i y hy
      have hi := (List.getElem?_eq_some_iff.1 hy).1
      have hg := hget i (by omega)
      rw [hy, show Tryd.prog.cellsOf 29 = 7 by kernel_rfl, Option.bind_eq_some_iff] at hg
      obtain ⟨cs, hcs, ht⟩ := hg
      obtain ⟨_, hcl, hcell⟩ := World.cells?_some hcs
      refine ⟨cs, fun q u hu => ?_, hcl, ?_⟩
      · have hq := (List.getElem?_eq_some_iff.1 hu).1
        rw [← add_add, hcell q (by omega), hu]
      · obtain ⟨zs, n2, rfl, rfl, hl2, hzl, hf2⟩ := DataW.trod_struct Tryd.underlying29 ht
        match zs, hzl with
        | [z0, z1], _ =>
        match cs, hcl with
        | [d0, d1, d2, d3, d4, d5, d6], _ =>
        have g0 : DataW.trod enc Tryd.prog w base (fun _ => true) held n2 9 [d0] = some z0 := (by have := hf2 0 _ rfl; rwa [show Tryd.prog.cellsOf _ = 1 by kernel_rfl] at this)
        have g1 : DataW.trod enc Tryd.prog w base (fun _ => true) held n2 24 [d1, d2, d3, d4, d5, d6] = some z1 := (by have := hf2 1 _ rfl; rwa [show Tryd.prog.cellsOf _ = 6 by kernel_rfl] at this)
        obtain ⟨fnm, e6, rfl, _⟩ := DataW.trod_string Tryd.underlying9 g0
        injection e6 with e6
        subst e6
        obtain ⟨v, A, c, ev, hvc, hvC, hvr, hvw⟩ := ih n2 (by omega) _ _ g1
        have hfn : fnm.data.toList.length = fnm.size := Array.length_toList ..
        refine ⟨⟨fnm, v⟩, ?_, ?_, ?_⟩
        · rw [ev]; exact k29_mk w ⟨fnm, v⟩ hvc hvC
        · rw [rgF_eq]; exact hvr
        · rw [wtF_eq]
          show fnm.size + wtV v ≤ (fnm.data.toList.length + 1) + (Rows.uptoBulk z1.1 + 0) + 1
          omega
    obtain ⟨ps, p1, p2, p3, p4⟩ := row_of a len elems hel each
    refine ⟨⟨k, nm, lo, hi, pt, ps⟩, some a, cap, by rw [p1], by simp only; omega, ?_, ⟨⟨hk, hlo, hhi⟩, p2⟩, ?_⟩
    · refine ⟨rfl, ?_, fun _ => ⟨a, rfl, p4⟩⟩
      have : maxLen ≤ 9223372036854775807 := by decide
      simp only; omega
    · show 6 + nm.size + pt.size + wtFs ps ≤ 1 + ((nm.data.toList.length + 1) + (1 + (1 + ((pt.data.toList.length + 1) + ((Rows.uptoBulkAll (elems.map (·.1)) + Rows.uptoBulkAll (rest.map (·.1)) + 1) + 0))))) + 1
      omega
end
end Go.Proofs.YtaalehglichejaaDoor.PTy
