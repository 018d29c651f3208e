/- ints.joined, ints.limited and ints.Of at four ranges, as the law's fact calls them. No statement is proved here. -/
import Derived.Test.YtnbdmmepdmmbmaaIntsSort
import Derived.OwnWalk
import Derived.Deep.AppendLies
namespace Go.Proofs.Ytnbdmmepdmmbmaa
open Go.RowKit
set_option linter.unusedVariables false
set_option linter.unusedSimpArgs false
theorem range_info : (Try.prog.info? 44).map (fun i => (i.zero, i.size, i.bytes)) = some (some (.agg #[.int .i64 0, .int .i64 0]), 2, 16) := by kernel_rfl
theorem range_parts : ∃ i0, Try.prog.info? 44 = some i0 ∧ i0.zero = some (.agg #[.int .i64 0, .int .i64 0]) ∧ i0.size = 2 ∧ i0.bytes = 16 := by
  have h := range_info
  cases q : Try.prog.info? 44 with
  | none => rw [q] at h; cases h
  | some i0 =>
    rw [q] at h
    simp only [Option.map_some, Option.some.injEq, Prod.mk.injEq] at h
    exact ⟨i0, rfl, h.1, h.2.1, h.2.2⟩
theorem own2 {w : World} {B : Nat} {v : Value} {n : Nat} {xs : List Value} (h : w.ownsRow B 44 2 v n xs) (hn : 0 < n) :
    ∃ g c, v = .slice (some ⟨g, 0, none⟩) n c ∧ B ≤ g ∧ g < w.heap.size ∧ (∀ i, i < n * 2 → w.cell? ⟨g, i, none⟩ = xs[i]?) ∧ ∀ i, w.frozen? ⟨g, i, none⟩ = false := by
  rcases h.2 with ⟨_, h0⟩ | ⟨g, cap, cur, rfl, hg, hh, _⟩
  · omega
  · exact ⟨g, cap, rfl, hg, (Array.getElem?_eq_some_iff.1 hh).1, fun i hi => h.cellAt i hi, fun i => h.frozenAt i⟩
theorem takeY {P : Program} {ops : Array Oper} {Q : Exit → Act → World → Prop} {md : Region.Mode} {S : World → Prop} {i : Nat} {d : Tmp} {oi : Oper} {v : Value} {fuel : Nat} {listed : Array Bool} {a : Act} {w : World} (hi : ops[i]? = some oi) (hd : oi.dst = some d)
    (hs : Region.noSelect ops = true) (hf : Region.free md ops listed i = true) (hr : (Region.ready md ops listed).contains i = true)
    (hQ : ∀ c a w, Q (.panic c) (a.put (some d) v) w → Q (.panic c) a w) (hw : Region.wanted oi (yielded ops a.tmps) = true) (hv : ∀ w, S w → (execOp a.eval oi).run P w = .ok (.value v) w) (hS : S w)
    (h : wpAnyH P md ops Q S fuel (listed.setIfInBounds i true) (a.put (some d) v) w) : wpAnyH P md ops Q S (fuel + 1) listed a w :=
  wpAnyH_take hi hs hf hr (by rw [hd]; exact hQ) (Or.inl ⟨hw, hv⟩) hS (by rw [hd]; exact h)
def i6 (n : Int) : Value := .int .i64 n
/-- What 'out' holds after j rounds. -/
def outJ : Nat → Nat × List Value
  | 0 => (0, [])
  | 1 => (1, [i6 1, i6 1])
  | 2 => (1, [i6 1, i6 2])
  | 3 => (1, [i6 1, i6 3])
  | _ => (2, [i6 1, i6 3, i6 7, i6 7])
theorem held4 {W : World} {g : Nat} (h : Sort.HoldsK encR 2 W g 0 row4s) :
    (W.cell? ⟨g, 0, none⟩ = some (i6 1) ∧ W.cell? ⟨g, 1, none⟩ = some (i6 1)) ∧ (W.cell? ⟨g, 2, none⟩ = some (i6 2) ∧ W.cell? ⟨g, 3, none⟩ = some (i6 2)) ∧
    (W.cell? ⟨g, 4, none⟩ = some (i6 3) ∧ W.cell? ⟨g, 5, none⟩ = some (i6 3)) ∧ (W.cell? ⟨g, 6, none⟩ = some (i6 7) ∧ W.cell? ⟨g, 7, none⟩ = some (i6 7)) := by
  have c := fun i k (hi : i < 4) (hk : k < 2) => (Sort.HoldsK.cell h (i := i) (c := k) hi hk).1
  refine ⟨⟨?_, ?_⟩, ⟨?_, ?_⟩, ⟨?_, ?_⟩, ?_, ?_⟩
  · simpa [row4s, encR, i6] using c 0 0 (by omega) (by omega)
  · simpa [row4s, encR, i6] using c 0 1 (by omega) (by omega)
  · simpa [row4s, encR, i6] using c 1 0 (by omega) (by omega)
  · simpa [row4s, encR, i6] using c 1 1 (by omega) (by omega)
  · simpa [row4s, encR, i6] using c 2 0 (by omega) (by omega)
  · simpa [row4s, encR, i6] using c 2 1 (by omega) (by omega)
  · simpa [row4s, encR, i6] using c 3 0 (by omega) (by omega)
  · simpa [row4s, encR, i6] using c 3 1 (by omega) (by omega)
set_option maxRecDepth 100000 in
set_option maxHeartbeats 2000000 in
theorem joined4 (g cap : Nat) (w : World) (hH : Sort.HoldsK encR 2 w g 0 row4) (hg : g < w.heap.size) :
    Calls Try.prog 60 #[.slice (some ⟨g, 0, none⟩) 4 cap] w fun e w' => ∃ v, e = .returned v ∧ w'.ownsRow w.heap.size 44 2 v 2 (outJ 4).2 ∧ Below g w w' := by
  obtain ⟨i0, hi, hz0, hz1, hz2⟩ := range_parts
  have hsort := sort4 g cap w hH hg
  clear hH
  go_enter Try.func60, Try.ntmps60
  go_wp2_with (go_at_call 76; refine hsort.mono ?_; rintro e w1 ⟨rfl, hK, hb1, hs1⟩)
  have HC := Lib.hid (held4 hK)
  clear hK hsort
  go_loopw [11, 3] (fun i v wr => ∃ j : Nat, j ≤ 4 ∧ i = .int .i64 j ∧ (j = 0 → v = .slice none 0 0) ∧ wr.ownsRow w.heap.size 44 2 v (outJ j).1 (outJ j).2 ∧ Below w.heap.size w1 wr) (fun i _ _ => 4 - (intOf i).toNat)
  case atStart => exact ⟨0, by omega, rfl, fun _ => rfl, ⟨rfl, .inl ⟨rfl, rfl⟩⟩, Below.refl _ _⟩
  case round =>
    obtain ⟨j, hj, rfl, hv0, hO, hB⟩ := hrel
    have hsz := hB.size
    have HO := Lib.hid hO
    have HB := Lib.hid hB
    have hcell : ∀ i u, w1.cell? ⟨g, i, none⟩ = some u → wr.cell? ⟨g, i, none⟩ = some u := fun i u h => (hB.cell (p := ⟨g, i, none⟩) hg).trans h
    obtain ⟨⟨p0, p1⟩, ⟨p2, p3⟩, ⟨p4, p5⟩, p6, p7⟩ := HC.out
    replace p0 := hcell _ _ p0; replace p1 := hcell _ _ p1; replace p2 := hcell _ _ p2; replace p3 := hcell _ _ p3
    replace p4 := hcell _ _ p4; replace p5 := hcell _ _ p5; replace p6 := hcell _ _ p6; replace p7 := hcell _ _ p7
    unfold i6 at p0 p1 p2 p3 p4 p5 p6 p7
    clear hcell hO hB
    have hj5 : j = 0 ∨ j = 1 ∨ j = 2 ∨ j = 3 ∨ j = 4 := by omega
    rcases hj5 with rfl | rfl | rfl | rfl | rfl
    · obtain rfl := hv0 rfl
      go_wp2
      go_quiet (fail)
      have HOa : ((wr.alloc (.cells #[.int .i64 1, .int .i64 1] 44)).drewN nq).ownsRow w.heap.size 44 2 (.slice none 0 0) 0 [] := ⟨rfl, .inl ⟨rfl, rfl⟩⟩
      have hza : ((wr.alloc (.cells #[.int .i64 1, .int .i64 1] 44)).drewN nq).heap.size = wr.heap.size + 1 := by simp
      have HBa : Below w.heap.size w1 ((wr.alloc (.cells #[.int .i64 1, .int .i64 1] 44)).drewN nq) := blw_drewN (HB.out.alloc (by omega) _) nq
      have ra0 : ((wr.alloc (.cells #[.int .i64 1, .int .i64 1] 44)).drewN nq).cell? ⟨wr.heap.size, 0, none⟩ = some (.int .i64 1) := by simp [go_sem]
      have ra1 : ((wr.alloc (.cells #[.int .i64 1, .int .i64 1] 44)).drewN nq).cell? ⟨wr.heap.size, 1, none⟩ = some (.int .i64 1) := by simp [go_sem]
      generalize (wr.alloc (.cells #[.int .i64 1, .int .i64 1] 44)).drewN nq = W2 at HOa hza HBa ra0 ra1 ⊢
      have HZ := Lib.hid hza
      have HBA := Lib.hid HBa
      clear hza HBa
      go_wp2_with (at_builtin; refine wpList_append_own _ rfl _ _ 38 rfl w.heap.size 44 i0 (.agg #[.int .i64 0, .int .i64 0]) 2 16 Try.underlying38 hi hz0 hz1 hz2 rfl (by decide) _ _ _ rfl (HOa.alloc _) ⟨W2.heap.size, 0, none⟩ 1 1 [.int .i64 1, .int .i64 1] rfl rfl ?c1 ?c2 ?c3 ?c4 ?c5 ?_)
      case c1 =>
        intro j u hj
        match j, hj with
        | 0, hj => simp at hj; subst hj; simp [Addr.add]
        | 1, hj => simp at hj; subst hj; simp [Addr.add]
      case c2 => intro u hu; simp at hu; rcases hu with rfl | rfl <;> rfl
      case c3 => unfold maxLen; omega
      case c4 => omega
      case c5 => have := HZ.out; simp; omega
      intro v' w2 hown' hgrow hnil
      go_wp2
      exact ⟨⟨1, by omega, rfl, (fun h => by cases h), hown', (HBA.out.alloc (by have := HZ.out; omega) _).grown hgrow (by have := HZ.out; simp; omega) (fun k hk => by cases hk)⟩, by decide⟩
    · have HO := Lib.hid (show wr.ownsRow w.heap.size 44 2 _ 1 [.int .i64 1, .int .i64 1] from HO.out)
      obtain ⟨g2, c2, rfl, hg2, hg3, hc, hf⟩ := own2 HO.out (by decide)
      have d0 := hc 0 (by decide)
      have d1 := hc 1 (by decide)
      have hne : g2 ≠ wr.heap.size := by omega
      have hne' : wr.heap.size ≠ g2 := by omega
      simp only [List.getElem?_cons_zero, List.getElem?_cons_succ] at d0 d1
      have e1 : (wr.alloc (.cells #[.int .i64 2, .int .i64 2] 44)).cell? ⟨g2, 1, none⟩ = some (.int .i64 1) := by rw [World.cell?_alloc_lt _ _ _ hg3]; exact d1
      have er0 : (wr.alloc (.cells #[.int .i64 2, .int .i64 2] 44)).cell? ⟨wr.heap.size, 0, none⟩ = some (.int .i64 2) := by simp [go_sem]
      have er1 : (wr.alloc (.cells #[.int .i64 2, .int .i64 2] 44)).cell? ⟨wr.heap.size, 1, none⟩ = some (.int .i64 2) := by simp [go_sem]
      have ef : (wr.alloc (.cells #[.int .i64 2, .int .i64 2] 44)).frozen? ⟨g2, 1, none⟩ = false := ((blw_alloc (Below.refl _ wr) _).frozen (p := ⟨g2, 1, none⟩) hg3).trans (hf 1)
      have HOa := Lib.hid ((HO.out.alloc (.cells #[.int .i64 2, .int .i64 2] 44)))
      have HBa := Lib.hid (HB.out.alloc (by omega) (.cells #[.int .i64 2, .int .i64 2] 44))
      clear hc hf d0 d1
      go_wp2
      go_quiet (fail)
      go_wp2
      have f1 : ((wr.alloc (.cells #[.int .i64 2, .int .i64 2] 44)).drewN nq).cell? ⟨g2, 1, none⟩ = some (.int .i64 1) := e1
      have fr : ((wr.alloc (.cells #[.int .i64 2, .int .i64 2] 44)).drewN nq).cell? ⟨wr.heap.size, 1, none⟩ = some (.int .i64 2) := er1
      have ff : ((wr.alloc (.cells #[.int .i64 2, .int .i64 2] 44)).drewN nq).frozen? ⟨g2, 1, none⟩ = false := ef
      have HOb := Lib.hid (show ((wr.alloc (.cells #[.int .i64 2, .int .i64 2] 44)).drewN nq).ownsRow w.heap.size 44 2 (.slice (some ⟨g2, 0, none⟩) 1 c2) 1 [.int .i64 1, .int .i64 1] from HOa.out)
      have HBb := Lib.hid (blw_drewN HBa.out nq)
      generalize (wr.alloc (.cells #[.int .i64 2, .int .i64 2] 44)).drewN nq = W2 at f1 fr ff HOb HBb ⊢
      clear e1 er0 er1 ef HOa HBa
      refine wp_region_held_drew (S := fun W' => W'.cell? ⟨wr.heap.size, 1, none⟩ = some (.int .i64 2)) (by kernel_rfl) fr (fun hHeld => ?_)
      refine takeY (i := 0) (v := ?_) rfl rfl (by kernel_rfl) (by kernel_rfl) (by kernel_rfl) (fun _ _ _ h => h) (by rfl) (fun W hW => ?_) (by assumption) ?_
      rotate_left 1
      · (simp only [List.getElem_toArray, List.getElem_cons_zero, List.getElem_cons_succ]; go_simp; try with_reducible rfl)
      try simp only [Act.put, List.setIfInBounds_toArray, List.set_cons_zero, List.set_cons_succ]
      refine takeY (i := 1) (v := ?_) rfl rfl (by kernel_rfl) (by kernel_rfl) (by kernel_rfl) (fun _ _ _ h => h) (by rfl) (fun W hW => ?_) (by assumption) ?_
      rotate_left 1
      · (simp only [List.getElem_toArray, List.getElem_cons_zero, List.getElem_cons_succ]; go_simp; try with_reducible rfl)
      try simp only [Act.put, List.setIfInBounds_toArray, List.set_cons_zero, List.set_cons_succ]
      refine takeY (i := 2) (v := ?_) rfl rfl (by kernel_rfl) (by kernel_rfl) (by kernel_rfl) (fun _ _ _ h => h) (by rfl) (fun W hW => ?_) (by assumption) ?_
      rotate_left 1
      · (simp only [List.getElem_toArray, List.getElem_cons_zero, List.getElem_cons_succ]; go_simp; try with_reducible rfl)
      try simp only [Act.put, List.setIfInBounds_toArray, List.set_cons_zero, List.set_cons_succ]
      refine takeY (i := 3) (v := ?_) rfl rfl (by kernel_rfl) (by kernel_rfl) (by kernel_rfl) (fun _ _ _ h => h) (by rfl) (fun W hW => ?_) (by assumption) ?_
      rotate_left 1
      · (simp only [List.getElem_toArray, List.getElem_cons_zero, List.getElem_cons_succ]; go_simp; try with_reducible rfl)
      try simp only [Act.put, List.setIfInBounds_toArray, List.set_cons_zero, List.set_cons_succ]
      refine takeY (i := 4) (v := ?_) rfl rfl (by kernel_rfl) (by kernel_rfl) (by kernel_rfl) (fun _ _ _ h => h) (by rfl) (fun W hW => ?_) (by assumption) ?_
      rotate_left 1
      · (simp only [List.getElem_toArray, List.getElem_cons_zero, List.getElem_cons_succ]; go_simp; try with_reducible rfl)
      try simp only [Act.put, List.setIfInBounds_toArray, List.set_cons_zero, List.set_cons_succ]
      refine takeY (i := 5) (v := ?_) rfl rfl (by kernel_rfl) (by kernel_rfl) (by kernel_rfl) (fun _ _ _ h => h) (by rfl) (fun W hW => ?_) (by assumption) ?_
      rotate_left 1
      · (simp only [List.getElem_toArray, List.getElem_cons_zero, List.getElem_cons_succ]; go_simp; try with_reducible rfl)
      try simp only [Act.put, List.setIfInBounds_toArray, List.set_cons_zero, List.set_cons_succ]
      refine takeY (i := 7) (v := ?_) rfl rfl (by kernel_rfl) (by kernel_rfl) (by kernel_rfl) (fun _ _ _ h => h) (by rfl) (fun W hW => ?_) (by assumption) ?_
      rotate_left 1
      · (simp only [List.getElem_toArray, List.getElem_cons_zero, List.getElem_cons_succ]; go_simp; try with_reducible rfl)
      try simp only [Act.put, List.setIfInBounds_toArray, List.set_cons_zero, List.set_cons_succ]
      refine takeY (i := 8) (v := ?_) rfl rfl (by kernel_rfl) (by kernel_rfl) (by kernel_rfl) (fun _ _ _ h => h) (by rfl) (fun W hW => ?_) (by assumption) ?_
      rotate_left 1
      · (simp only [List.getElem_toArray, List.getElem_cons_zero, List.getElem_cons_succ]; go_simp; try with_reducible rfl)
      try simp only [Act.put, List.setIfInBounds_toArray, List.set_cons_zero, List.set_cons_succ]
      refine wpAnyH_ready (rs := [6]) (by kernel_rfl) (by simp) ?_
      refine AllReadyH.cons rfl (fun K hK => ?_) AllReadyH.nil
      go_simp
      refine hK.out _ _ (by assumption) (fun hHeld => ?_)
      clear hK K
      try simp only [Act.put, List.setIfInBounds_toArray, List.set_cons_zero, List.set_cons_succ]
      refine takeY (i := 9) (v := ?_) rfl rfl (by kernel_rfl) (by kernel_rfl) (by kernel_rfl) (fun _ _ _ h => h) (by rfl) (fun W hW => ?_) (by assumption) ?_
      rotate_left 1
      · (simp only [List.getElem_toArray, List.getElem_cons_zero, List.getElem_cons_succ]; go_simp; try with_reducible rfl)
      try simp only [Act.put, List.setIfInBounds_toArray, List.set_cons_zero, List.set_cons_succ]
      refine takeY (i := 10) (v := ?_) rfl rfl (by kernel_rfl) (by kernel_rfl) (by kernel_rfl) (fun _ _ _ h => h) (by rfl) (fun W hW => ?_) (by assumption) ?_
      rotate_left 1
      · (simp only [List.getElem_toArray, List.getElem_cons_zero, List.getElem_cons_succ]; go_simp; try with_reducible rfl)
      try simp only [Act.put, List.setIfInBounds_toArray, List.set_cons_zero, List.set_cons_succ]
      refine takeY (i := 11) (v := ?_) rfl rfl (by kernel_rfl) (by kernel_rfl) (by kernel_rfl) (fun _ _ _ h => h) (by rfl) (fun W hW => ?_) (by assumption) ?_
      rotate_left 1
      · (simp only [List.getElem_toArray, List.getElem_cons_zero, List.getElem_cons_succ]; go_simp; try with_reducible rfl)
      try simp only [Act.put, List.setIfInBounds_toArray, List.set_cons_zero, List.set_cons_succ]
      refine wpAnyH_ready (rs := [12]) (by kernel_rfl) (by simp) ?_
      refine AllReadyH.cons rfl (fun K hK => ?_) AllReadyH.nil
      go_simp
      refine hK.out _ _ ((World.cell?_setCell_other _ _ _ _ (by intro q; injection q with q; omega)).trans fr) (fun hHeld => ?_)
      refine wpAnyH_done (by kernel_rfl) ?_ _
      go_wp2
      exact ⟨⟨2, by omega, rfl, (fun h => by cases h), (HOb.out.stored 1 (.int .i64 2)).1, blw_drew (HBb.out.setCell (p := ⟨g2, 1, none⟩) hg2 _)⟩, by decide⟩
    · have HO := Lib.hid (show wr.ownsRow w.heap.size 44 2 _ 1 [.int .i64 1, .int .i64 2] from HO.out)
      obtain ⟨g2, c2, rfl, hg2, hg3, hc, hf⟩ := own2 HO.out (by decide)
      have d0 := hc 0 (by decide)
      have d1 := hc 1 (by decide)
      have hne : g2 ≠ wr.heap.size := by omega
      have hne' : wr.heap.size ≠ g2 := by omega
      simp only [List.getElem?_cons_zero, List.getElem?_cons_succ] at d0 d1
      have e1 : (wr.alloc (.cells #[.int .i64 3, .int .i64 3] 44)).cell? ⟨g2, 1, none⟩ = some (.int .i64 2) := by rw [World.cell?_alloc_lt _ _ _ hg3]; exact d1
      have er0 : (wr.alloc (.cells #[.int .i64 3, .int .i64 3] 44)).cell? ⟨wr.heap.size, 0, none⟩ = some (.int .i64 3) := by simp [go_sem]
      have er1 : (wr.alloc (.cells #[.int .i64 3, .int .i64 3] 44)).cell? ⟨wr.heap.size, 1, none⟩ = some (.int .i64 3) := by simp [go_sem]
      have ef : (wr.alloc (.cells #[.int .i64 3, .int .i64 3] 44)).frozen? ⟨g2, 1, none⟩ = false := ((blw_alloc (Below.refl _ wr) _).frozen (p := ⟨g2, 1, none⟩) hg3).trans (hf 1)
      have HOa := Lib.hid ((HO.out.alloc (.cells #[.int .i64 3, .int .i64 3] 44)))
      have HBa := Lib.hid (HB.out.alloc (by omega) (.cells #[.int .i64 3, .int .i64 3] 44))
      clear hc hf d0 d1
      go_wp2
      go_quiet (fail)
      go_wp2
      have f1 : ((wr.alloc (.cells #[.int .i64 3, .int .i64 3] 44)).drewN nq).cell? ⟨g2, 1, none⟩ = some (.int .i64 2) := e1
      have fr : ((wr.alloc (.cells #[.int .i64 3, .int .i64 3] 44)).drewN nq).cell? ⟨wr.heap.size, 1, none⟩ = some (.int .i64 3) := er1
      have ff : ((wr.alloc (.cells #[.int .i64 3, .int .i64 3] 44)).drewN nq).frozen? ⟨g2, 1, none⟩ = false := ef
      have HOb := Lib.hid (show ((wr.alloc (.cells #[.int .i64 3, .int .i64 3] 44)).drewN nq).ownsRow w.heap.size 44 2 (.slice (some ⟨g2, 0, none⟩) 1 c2) 1 [.int .i64 1, .int .i64 2] from HOa.out)
      have HBb := Lib.hid (blw_drewN HBa.out nq)
      generalize (wr.alloc (.cells #[.int .i64 3, .int .i64 3] 44)).drewN nq = W2 at f1 fr ff HOb HBb ⊢
      clear e1 er0 er1 ef HOa HBa
      refine wp_region_held_drew (S := fun W' => W'.cell? ⟨wr.heap.size, 1, none⟩ = some (.int .i64 3)) (by kernel_rfl) fr (fun hHeld => ?_)
      refine takeY (i := 0) (v := ?_) rfl rfl (by kernel_rfl) (by kernel_rfl) (by kernel_rfl) (fun _ _ _ h => h) (by rfl) (fun W hW => ?_) (by assumption) ?_
      rotate_left 1
      · (simp only [List.getElem_toArray, List.getElem_cons_zero, List.getElem_cons_succ]; go_simp; try with_reducible rfl)
      try simp only [Act.put, List.setIfInBounds_toArray, List.set_cons_zero, List.set_cons_succ]
      refine takeY (i := 1) (v := ?_) rfl rfl (by kernel_rfl) (by kernel_rfl) (by kernel_rfl) (fun _ _ _ h => h) (by rfl) (fun W hW => ?_) (by assumption) ?_
      rotate_left 1
      · (simp only [List.getElem_toArray, List.getElem_cons_zero, List.getElem_cons_succ]; go_simp; try with_reducible rfl)
      try simp only [Act.put, List.setIfInBounds_toArray, List.set_cons_zero, List.set_cons_succ]
      refine takeY (i := 2) (v := ?_) rfl rfl (by kernel_rfl) (by kernel_rfl) (by kernel_rfl) (fun _ _ _ h => h) (by rfl) (fun W hW => ?_) (by assumption) ?_
      rotate_left 1
      · (simp only [List.getElem_toArray, List.getElem_cons_zero, List.getElem_cons_succ]; go_simp; try with_reducible rfl)
      try simp only [Act.put, List.setIfInBounds_toArray, List.set_cons_zero, List.set_cons_succ]
      refine takeY (i := 3) (v := ?_) rfl rfl (by kernel_rfl) (by kernel_rfl) (by kernel_rfl) (fun _ _ _ h => h) (by rfl) (fun W hW => ?_) (by assumption) ?_
      rotate_left 1
      · (simp only [List.getElem_toArray, List.getElem_cons_zero, List.getElem_cons_succ]; go_simp; try with_reducible rfl)
      try simp only [Act.put, List.setIfInBounds_toArray, List.set_cons_zero, List.set_cons_succ]
      refine takeY (i := 4) (v := ?_) rfl rfl (by kernel_rfl) (by kernel_rfl) (by kernel_rfl) (fun _ _ _ h => h) (by rfl) (fun W hW => ?_) (by assumption) ?_
      rotate_left 1
      · (simp only [List.getElem_toArray, List.getElem_cons_zero, List.getElem_cons_succ]; go_simp; try with_reducible rfl)
      try simp only [Act.put, List.setIfInBounds_toArray, List.set_cons_zero, List.set_cons_succ]
      refine takeY (i := 5) (v := ?_) rfl rfl (by kernel_rfl) (by kernel_rfl) (by kernel_rfl) (fun _ _ _ h => h) (by rfl) (fun W hW => ?_) (by assumption) ?_
      rotate_left 1
      · (simp only [List.getElem_toArray, List.getElem_cons_zero, List.getElem_cons_succ]; go_simp; try with_reducible rfl)
      try simp only [Act.put, List.setIfInBounds_toArray, List.set_cons_zero, List.set_cons_succ]
      refine takeY (i := 7) (v := ?_) rfl rfl (by kernel_rfl) (by kernel_rfl) (by kernel_rfl) (fun _ _ _ h => h) (by rfl) (fun W hW => ?_) (by assumption) ?_
      rotate_left 1
      · (simp only [List.getElem_toArray, List.getElem_cons_zero, List.getElem_cons_succ]; go_simp; try with_reducible rfl)
      try simp only [Act.put, List.setIfInBounds_toArray, List.set_cons_zero, List.set_cons_succ]
      refine takeY (i := 8) (v := ?_) rfl rfl (by kernel_rfl) (by kernel_rfl) (by kernel_rfl) (fun _ _ _ h => h) (by rfl) (fun W hW => ?_) (by assumption) ?_
      rotate_left 1
      · (simp only [List.getElem_toArray, List.getElem_cons_zero, List.getElem_cons_succ]; go_simp; try with_reducible rfl)
      try simp only [Act.put, List.setIfInBounds_toArray, List.set_cons_zero, List.set_cons_succ]
      refine wpAnyH_ready (rs := [6]) (by kernel_rfl) (by simp) ?_
      refine AllReadyH.cons rfl (fun K hK => ?_) AllReadyH.nil
      go_simp
      refine hK.out _ _ (by assumption) (fun hHeld => ?_)
      clear hK K
      try simp only [Act.put, List.setIfInBounds_toArray, List.set_cons_zero, List.set_cons_succ]
      refine takeY (i := 9) (v := ?_) rfl rfl (by kernel_rfl) (by kernel_rfl) (by kernel_rfl) (fun _ _ _ h => h) (by rfl) (fun W hW => ?_) (by assumption) ?_
      rotate_left 1
      · (simp only [List.getElem_toArray, List.getElem_cons_zero, List.getElem_cons_succ]; go_simp; try with_reducible rfl)
      try simp only [Act.put, List.setIfInBounds_toArray, List.set_cons_zero, List.set_cons_succ]
      refine takeY (i := 10) (v := ?_) rfl rfl (by kernel_rfl) (by kernel_rfl) (by kernel_rfl) (fun _ _ _ h => h) (by rfl) (fun W hW => ?_) (by assumption) ?_
      rotate_left 1
      · (simp only [List.getElem_toArray, List.getElem_cons_zero, List.getElem_cons_succ]; go_simp; try with_reducible rfl)
      try simp only [Act.put, List.setIfInBounds_toArray, List.set_cons_zero, List.set_cons_succ]
      refine takeY (i := 11) (v := ?_) rfl rfl (by kernel_rfl) (by kernel_rfl) (by kernel_rfl) (fun _ _ _ h => h) (by rfl) (fun W hW => ?_) (by assumption) ?_
      rotate_left 1
      · (simp only [List.getElem_toArray, List.getElem_cons_zero, List.getElem_cons_succ]; go_simp; try with_reducible rfl)
      try simp only [Act.put, List.setIfInBounds_toArray, List.set_cons_zero, List.set_cons_succ]
      refine wpAnyH_ready (rs := [12]) (by kernel_rfl) (by simp) ?_
      refine AllReadyH.cons rfl (fun K hK => ?_) AllReadyH.nil
      go_simp
      refine hK.out _ _ ((World.cell?_setCell_other _ _ _ _ (by intro q; injection q with q; omega)).trans fr) (fun hHeld => ?_)
      refine wpAnyH_done (by kernel_rfl) ?_ _
      go_wp2
      exact ⟨⟨3, by omega, rfl, (fun h => by cases h), (HOb.out.stored 1 (.int .i64 3)).1, blw_drew (HBb.out.setCell (p := ⟨g2, 1, none⟩) hg2 _)⟩, by decide⟩
    · have HO := Lib.hid (show wr.ownsRow w.heap.size 44 2 _ 1 [.int .i64 1, .int .i64 3] from HO.out)
      obtain ⟨g2, c2, rfl, hg2, hg3, hc, hf⟩ := own2 HO.out (by decide)
      have d0 := hc 0 (by decide)
      have d1 := hc 1 (by decide)
      have hne : g2 ≠ wr.heap.size := by omega
      have hne' : wr.heap.size ≠ g2 := by omega
      simp only [List.getElem?_cons_zero, List.getElem?_cons_succ] at d0 d1
      have e1 : (wr.alloc (.cells #[.int .i64 7, .int .i64 7] 44)).cell? ⟨g2, 1, none⟩ = some (.int .i64 3) := by rw [World.cell?_alloc_lt _ _ _ hg3]; exact d1
      have er0 : (wr.alloc (.cells #[.int .i64 7, .int .i64 7] 44)).cell? ⟨wr.heap.size, 0, none⟩ = some (.int .i64 7) := by simp [go_sem]
      have er1 : (wr.alloc (.cells #[.int .i64 7, .int .i64 7] 44)).cell? ⟨wr.heap.size, 1, none⟩ = some (.int .i64 7) := by simp [go_sem]
      have ef : (wr.alloc (.cells #[.int .i64 7, .int .i64 7] 44)).frozen? ⟨g2, 1, none⟩ = false := ((blw_alloc (Below.refl _ wr) _).frozen (p := ⟨g2, 1, none⟩) hg3).trans (hf 1)
      have HOa := Lib.hid ((HO.out.alloc (.cells #[.int .i64 7, .int .i64 7] 44)))
      have HBa := Lib.hid (HB.out.alloc (by omega) (.cells #[.int .i64 7, .int .i64 7] 44))
      clear hc hf d0 d1
      go_wp2
      go_quiet (fail)
      have ra0 : ((wr.alloc (.cells #[.int .i64 7, .int .i64 7] 44)).drewN nq).cell? ⟨wr.heap.size, 0, none⟩ = some (.int .i64 7) := er0
      have ra1 : ((wr.alloc (.cells #[.int .i64 7, .int .i64 7] 44)).drewN nq).cell? ⟨wr.heap.size, 1, none⟩ = some (.int .i64 7) := er1
      have HOb := Lib.hid (show ((wr.alloc (.cells #[.int .i64 7, .int .i64 7] 44)).drewN nq).ownsRow w.heap.size 44 2 (.slice (some ⟨g2, 0, none⟩) 1 c2) 1 [.int .i64 1, .int .i64 3] from HOa.out)
      have HBb := Lib.hid (blw_drewN HBa.out nq)
      have HZ := Lib.hid (show ((wr.alloc (.cells #[.int .i64 7, .int .i64 7] 44)).drewN nq).heap.size = wr.heap.size + 1 by simp)
      generalize (wr.alloc (.cells #[.int .i64 7, .int .i64 7] 44)).drewN nq = W2 at ra0 ra1 HOb HBb HZ ⊢
      clear e1 er0 er1 ef HOa HBa
      go_wp2_with (at_builtin; refine wpList_append_own _ rfl _ _ 38 rfl w.heap.size 44 i0 (.agg #[.int .i64 0, .int .i64 0]) 2 16 Try.underlying38 hi hz0 hz1 hz2 rfl (by decide) _ _ _ rfl (HOb.out.alloc _) ⟨W2.heap.size, 0, none⟩ 1 1 [.int .i64 7, .int .i64 7] rfl rfl ?c1 ?c2 ?c3 ?c4 ?c5 ?_)
      case c1 =>
        intro j u hj
        match j, hj with
        | 0, hj => simp at hj; subst hj; simp [Addr.add]
        | 1, hj => simp at hj; subst hj; simp [Addr.add]
      case c2 => intro u hu; simp at hu; rcases hu with rfl | rfl <;> rfl
      case c3 => unfold maxLen; omega
      case c4 => omega
      case c5 => have := HZ.out; simp; omega
      intro v' w2 hown' hgrow hnil
      go_wp2
      exact ⟨⟨4, by omega, rfl, (fun h => by cases h), hown', (HBb.out.alloc (by have := HZ.out; omega) _).grown hgrow (by have := HZ.out; simp; omega) (fun k hk => by have : g2 = k := Option.some.inj hk; omega)⟩, by decide⟩
    · go_wp2
      go_ret
      exact ⟨_, rfl, HO.out, hb1.trans (HB.out.mono (by omega))⟩
end Go.Proofs.Ytnbdmmepdmmbmaa
