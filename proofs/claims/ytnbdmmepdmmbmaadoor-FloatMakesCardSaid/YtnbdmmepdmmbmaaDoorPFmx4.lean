-- Printed by myprint.py (a program of this work, wip/myprint.py) out of the translation; Lean checks it.
import Derived.Test.YtnbdmmepdmmbmaaDoorPFmx0
import Derived.Test.YtnbdmmepdmmbmaaDoorPFmx1
import Derived.Test.YtnbdmmepdmmbmaaDoorPFmx2
import Derived.Test.YtnbdmmepdmmbmaaDoorPFmx3
import Derived.Test.YtnbdmmepdmmbmaaDoorPlugPlus
namespace Go.Proofs.YtnbdmmepdmmbmaaDoor.PFm
open Go.RowKit Go.Proofs.YtnbdmmepdmmbmaaDoor Go.Proofs.YtnbdmmepdmmbmaaDoor.Plug Go.Proofs.YtnbdmmepdmmbmaaDoorW.PrintWords Go.Proofs.YtnbdmmepdmmbmaaDoorW.PrintLast Go.Proofs.YtnbdmmepdmmbmaaDoorW.PrintMore
attribute [local go_sem] max2_int min2_int max_two min_two max_three min_three max_four min_four   -- for this text's walks alone
set_option linter.unusedVariables false
set_option linter.unusedSimpArgs false

/-! ### clapref1_Halfway: function 58 -/
def clapref1_Halfway.f (k : Nat) (a0 : Int) : Option (ByteArray) := (clapref1_Split.f a0).bind fun bt128 => ((clapref1_Scaled.f k bt128.1 bt128.2).bind fun t130 => ((clapref1_Scaled.f k (wrap64 (bt128.1 + 1)) bt128.2).bind fun t131 => ((clapref1_plus.f t130 t131).bind fun t132 => (some t132))))
theorem clapref1_Halfway.mono : ∀ a0 k, LeO (clapref1_Halfway.f k a0) (clapref1_Halfway.f (k + 1) a0) := by
  intro a0 k
  unfold clapref1_Halfway.f
  repeat' first
      | (with_reducible exact clapref1_Scaled.mono _ _ _)
      | (with_reducible exact LeO.refl _)
      | (with_reducible exact LeO.none _)
      | (with_reducible refine LeO.ite ?_ ?_)
      | (with_reducible refine LeO.bind ?_ (fun _ => ?_))
      | exact clapref1_Scaled.mono _ _ _
      | exact LeO.none _
      | refine LeO.ite ?_ ?_
      | refine LeO.bind ?_ (fun _ => ?_)
set_option maxHeartbeats 8000000 in
set_option maxRecDepth 100000 in
theorem clapref1_Halfway.calls (k : Nat) (a0 : Int) (r : ByteArray) (w : World) (h : clapref1_Halfway.f k a0 = some r) :
    Calls Tryd.prog 58 #[.int .i64 a0] w fun e w' => e = .returned (.string r) ∧ Below w.heap.size w w' := by
  have HB := Aside0.mk (Below.refl w.heap.size w)
  have H : ((clapref1_Split.f a0).bind fun bt128 => ((clapref1_Scaled.f k bt128.1 bt128.2).bind fun t130 => ((clapref1_Scaled.f k (wrap64 (bt128.1 + 1)) bt128.2).bind fun t131 => ((clapref1_plus.f t130 t131).bind fun t132 => (some t132))))) = some r := h
  clear h
  replace H := Option.bind_eq_some_iff.mp H
  obtain ⟨⟨t128, t129⟩, A20, H⟩ := H
  replace H : ((clapref1_Scaled.f k t128 t129).bind fun t130 => ((clapref1_Scaled.f k (wrap64 (t128 + 1)) t129).bind fun t131 => ((clapref1_plus.f t130 t131).bind fun t132 => (some t132)))) = some r := H
  have A2 := Aside0.mk A20
  clear A20
  replace H := Option.bind_eq_some_iff.mp H
  obtain ⟨t130, A30, H⟩ := H
  replace H : ((clapref1_Scaled.f k (wrap64 (t128 + 1)) t129).bind fun t131 => ((clapref1_plus.f t130 t131).bind fun t132 => (some t132))) = some r := H
  have A3 := Aside0.mk A30
  clear A30
  replace H := Option.bind_eq_some_iff.mp H
  obtain ⟨t131, A40, H⟩ := H
  replace H : ((clapref1_plus.f t130 t131).bind fun t132 => (some t132)) = some r := H
  have A4 := Aside0.mk A40
  clear A40
  replace H := Option.bind_eq_some_iff.mp H
  obtain ⟨t132, A50, H⟩ := H
  replace H : (some t132) = some r := H
  have A5 := Aside0.mk A50
  clear A50
  obtain rfl := Option.some.inj H
  go_enter Tryd.func58, Tryd.ntmps58
  go_wp2_with (first | ((with_reducible refine gate_callee (f := 81) rfl ?_); refine goesL_ (some 7) rfl rfl Tryd.func81 (by kernel_rfl) rfl #[.int .i64 a0] rfl (by (try simp only [List.map_toArray, List.map_cons, List.map_nil]); first | done | rfl | (simp only [List.length_drop, List.length_take]; rfl)) ?_; (with_reducible refine (clapref1_Split.calls a0 t128 t129 _ A2.out).mono ?_); rintro e w' ⟨rfl, ⟨nd, rfl⟩⟩; refine ⟨_, rfl, ?_⟩) | ((with_reducible refine gate_callee (f := 19) rfl ?_); refine goesL_ (some 12) rfl rfl Tryd.func19 (by kernel_rfl) rfl #[.int .i64 t128, .int .i64 t129] rfl (by (try simp only [List.map_toArray, List.map_cons, List.map_nil]); first | done | rfl | (simp only [List.length_drop, List.length_take]; rfl)) ?_; (with_reducible refine (clapref1_Scaled.calls k t128 t129 t130 _ A3.out).mono ?_); rintro e w6 ⟨rfl, hb⟩; refine ⟨_, rfl, ?_⟩; have n0_ := Aside0.mk (below_step (by repeat (first | (with_reducible first | exact HB.out | apply below_alloc | apply pw_below_drewN | apply below_drew1) | exact HB.out)) hb); clear HB; have HB := n0_; clear n0_; (try clear hb); (try clear hb2); (try clear hk); (try clear hi)) | ((with_reducible refine gate_callee (f := 19) rfl ?_); refine goesL_ (some 16) rfl rfl Tryd.func19 (by kernel_rfl) rfl #[.int .i64 (wrap64 (t128 + 1)), .int .i64 t129] rfl (by (try simp only [List.map_toArray, List.map_cons, List.map_nil]); first | done | rfl | (simp only [List.length_drop, List.length_take]; rfl)) ?_; (with_reducible refine (clapref1_Scaled.calls k (wrap64 (t128 + 1)) t129 t131 _ A4.out).mono ?_); rintro e w7 ⟨rfl, hb⟩; refine ⟨_, rfl, ?_⟩; have n0_ := Aside0.mk (below_step (by repeat (first | (with_reducible first | exact HB.out | apply below_alloc | apply pw_below_drewN | apply below_drew1) | exact HB.out)) hb); clear HB; have HB := n0_; clear n0_; (try clear hb); (try clear hb2); (try clear hk); (try clear hi)) | ((with_reducible refine gate_callee (f := 82) rfl ?_); refine goesL_ (some 17) rfl rfl Tryd.func82 (by kernel_rfl) rfl #[.string t130, .string t131] rfl (by (try simp only [List.map_toArray, List.map_cons, List.map_nil]); first | done | rfl | (simp only [List.length_drop, List.length_take]; rfl)) ?_; (with_reducible refine (clapref1_plus.calls t130 t131 t132 _ A5.out).mono ?_); rintro e w8 ⟨rfl, hb⟩; refine ⟨_, rfl, ?_⟩; have n0_ := Aside0.mk (below_step (by repeat (first | (with_reducible first | exact HB.out | apply below_alloc | apply pw_below_drewN | apply below_drew1) | exact HB.out)) hb); clear HB; have HB := n0_; clear n0_; (try clear hb); (try clear hb2); (try clear hk); (try clear hi)))
  go_ret
  exact ⟨by first | rfl | (simp [errW_none, errW_some] <;> rfl) | (simp [*, errW_none, errW_some] <;> rfl), by repeat (first | (with_reducible first | exact HB.out | apply below_alloc | apply pw_below_drewN | apply below_drew1) | exact HB.out)⟩

/-! ### clapref1_less: function 59 -/
def clapref1_less.f (a0 : ByteArray) (a1 : ByteArray) : Option (Bool) := if (a0.size : Int) = (a1.size : Int) then (some (Op.bytesLess a0.toList a1.toList)) else (some (decide ((a0.size : Int) < (a1.size : Int))))
set_option maxHeartbeats 8000000 in
set_option maxRecDepth 100000 in
theorem clapref1_less.calls (a0 : ByteArray) (a1 : ByteArray) (r : Bool) (w : World) (h : clapref1_less.f a0 a1 = some r) :
    Calls Tryd.prog 59 #[.string a0, .string a1] w fun e w' => e = .returned (.bool r) ∧ Drawn0 w w' := by
  have H : (if (a0.size : Int) = (a1.size : Int) then (some (Op.bytesLess a0.toList a1.toList)) else (some (decide ((a0.size : Int) < (a1.size : Int))))) = some r := h
  clear h
  by_cases c3 : (a0.size : Int) = (a1.size : Int)
  · rw [if_pos c3] at H
    have c3b0 : ((a0.size : Int) == (a1.size : Int)) = true := beq_iff_eq.mpr c3
    have c3b1 : ((a0.size : Int) != (a1.size : Int)) = false := bne_eq_false_iff_eq.mpr c3
    have c3b2 : (a0.size == a1.size) = true := by first | simpa using c3 | (simp at c3 ⊢; omega)
    clear c3
    obtain rfl := Option.some.inj H
    go_enter Tryd.func59, Tryd.ntmps59
    go_wp2
    go_ret
    exact ⟨by first | rfl | (simp; done) | (simp [*]; done) | (simp only [bytes_bne_nil, bytes_beq_nil]; first | done | (congr 1; done) | (congr 1; grind)), by repeat (first | exact Drawn0.refl _ | apply Drawn0.step)⟩
  · rw [if_neg c3] at H
    have c3b0 : ((a0.size : Int) == (a1.size : Int)) = false := beq_eq_false_iff_ne.mpr c3
    have c3b1 : ((a0.size : Int) != (a1.size : Int)) = true := bne_iff_ne.mpr c3
    have c3b2 : (a0.size == a1.size) = false := by first | simpa using c3 | (simp at c3 ⊢; omega)
    obtain rfl := Option.some.inj H
    go_enter Tryd.func59, Tryd.ntmps59
    go_wp2
    go_ret
    exact ⟨by first | rfl | (simp; done) | (simp [*]; done) | (simp only [bytes_bne_nil, bytes_beq_nil]; first | done | (congr 1; done) | (congr 1; grind)), by repeat (first | exact Drawn0.refl _ | apply Drawn0.step)⟩

/-! ### clapref1_Nearest: function 21 -/
def clapref1_Nearest.j0 : Nat → Bool → Int → ByteArray → Bool → Bool → Option (Bool)
  | 0, _, _, _, _, _ => none
  | k + 1, x1, x2, x7, x8, x34 => if x34 = true then (some false) else (if x2 = 0 then (some true) else ((clapref1_Halfway.f k (wrap64 (x2 - 1))).bind fun t136 => ((clapref1_less.f t136 x7).bind fun t137 => (if t137 = true then (some true) else (if t136.toList = x7.toList then (if x1 = true then (some true) else (some x8)) else (some false))))))
def clapref1_Nearest.f (k : Nat) (a0 : ByteArray) (a1 : Bool) (a2 : Int) : Option (Bool) := (clapref1_times.f k a0 2).bind fun t133 => ((clapref1_Halfway.f k (Go.bits .and .i64 a2 9223372036854775807)).bind fun t134 => ((clapref1_less.f t134 t133).bind fun t135 => (if t135 = true then (clapref1_Nearest.j0 k a1 (Go.bits .and .i64 a2 9223372036854775807) t133 ((Int.tmod (Go.bits .and .i64 a2 9223372036854775807) 2) == 0) true) else (if t134.toList = t133.toList then (if a1 = true then (clapref1_Nearest.j0 k a1 (Go.bits .and .i64 a2 9223372036854775807) t133 ((Int.tmod (Go.bits .and .i64 a2 9223372036854775807) 2) == 0) true) else (clapref1_Nearest.j0 k a1 (Go.bits .and .i64 a2 9223372036854775807) t133 ((Int.tmod (Go.bits .and .i64 a2 9223372036854775807) 2) == 0) (!((Int.tmod (Go.bits .and .i64 a2 9223372036854775807) 2) == 0)))) else (clapref1_Nearest.j0 k a1 (Go.bits .and .i64 a2 9223372036854775807) t133 ((Int.tmod (Go.bits .and .i64 a2 9223372036854775807) 2) == 0) false)))))
theorem clapref1_Nearest.mono_l : ∀ k, (∀ y0 y1 y2 y3 y4, LeO (clapref1_Nearest.j0 k y0 y1 y2 y3 y4) (clapref1_Nearest.j0 (k + 1) y0 y1 y2 y3 y4))
  | 0 => fun _ _ _ _ _ r h => by simp [clapref1_Nearest.j0] at h
  | k + 1 => by
    have ih0 := clapref1_Nearest.mono_l k
    · intro y0 y1 y2 y3 y4
      unfold clapref1_Nearest.j0
      repeat' first
      | (with_reducible exact ih0 _ _ _ _ _)
      | (with_reducible exact clapref1_Halfway.mono _ _)
      | (with_reducible exact clapref1_times.mono _ _ _)
      | (with_reducible exact LeO.refl _)
      | (with_reducible exact LeO.none _)
      | (with_reducible refine LeO.ite ?_ ?_)
      | (with_reducible refine LeO.bind ?_ (fun _ => ?_))
      | exact ih0 _ _ _ _ _
      | exact clapref1_Halfway.mono _ _
      | exact clapref1_times.mono _ _ _
      | exact LeO.none _
      | refine LeO.ite ?_ ?_
      | refine LeO.bind ?_ (fun _ => ?_)
theorem clapref1_Nearest.mono : ∀ a0 a1 a2 k, LeO (clapref1_Nearest.f k a0 a1 a2) (clapref1_Nearest.f (k + 1) a0 a1 a2) := by
  intro a0 a1 a2 k
  have ih0 := clapref1_Nearest.mono_l k
  unfold clapref1_Nearest.f
  repeat' first
      | (with_reducible exact ih0 _ _ _ _ _)
      | (with_reducible exact clapref1_Halfway.mono _ _)
      | (with_reducible exact clapref1_times.mono _ _ _)
      | (with_reducible exact LeO.refl _)
      | (with_reducible exact LeO.none _)
      | (with_reducible refine LeO.ite ?_ ?_)
      | (with_reducible refine LeO.bind ?_ (fun _ => ?_))
      | exact ih0 _ _ _ _ _
      | exact clapref1_Halfway.mono _ _
      | exact clapref1_times.mono _ _ _
      | exact LeO.none _
      | refine LeO.ite ?_ ?_
      | refine LeO.bind ?_ (fun _ => ?_)
set_option maxHeartbeats 8000000 in
set_option maxRecDepth 100000 in
theorem clapref1_Nearest.calls (k : Nat) (a0 : ByteArray) (a1 : Bool) (a2 : Int) (r : Bool) (w : World) (h : clapref1_Nearest.f k a0 a1 a2 = some r) :
    Calls Tryd.prog 21 #[.string a0, .bool a1, .int .i64 a2] w fun e w' => e = .returned (.bool r) ∧ Below w.heap.size w w' := by
  have HB := Aside0.mk (Below.refl w.heap.size w)
  have H : ((clapref1_times.f k a0 2).bind fun t133 => ((clapref1_Halfway.f k (Go.bits .and .i64 a2 9223372036854775807)).bind fun t134 => ((clapref1_less.f t134 t133).bind fun t135 => (if t135 = true then (clapref1_Nearest.j0 k a1 (Go.bits .and .i64 a2 9223372036854775807) t133 ((Int.tmod (Go.bits .and .i64 a2 9223372036854775807) 2) == 0) true) else (if t134.toList = t133.toList then (if a1 = true then (clapref1_Nearest.j0 k a1 (Go.bits .and .i64 a2 9223372036854775807) t133 ((Int.tmod (Go.bits .and .i64 a2 9223372036854775807) 2) == 0) true) else (clapref1_Nearest.j0 k a1 (Go.bits .and .i64 a2 9223372036854775807) t133 ((Int.tmod (Go.bits .and .i64 a2 9223372036854775807) 2) == 0) (!((Int.tmod (Go.bits .and .i64 a2 9223372036854775807) 2) == 0)))) else (clapref1_Nearest.j0 k a1 (Go.bits .and .i64 a2 9223372036854775807) t133 ((Int.tmod (Go.bits .and .i64 a2 9223372036854775807) 2) == 0) false)))))) = some r := h
  clear h
  replace H := Option.bind_eq_some_iff.mp H
  obtain ⟨t133, A40, H⟩ := H
  replace H : ((clapref1_Halfway.f k (Go.bits .and .i64 a2 9223372036854775807)).bind fun t134 => ((clapref1_less.f t134 t133).bind fun t135 => (if t135 = true then (clapref1_Nearest.j0 k a1 (Go.bits .and .i64 a2 9223372036854775807) t133 ((Int.tmod (Go.bits .and .i64 a2 9223372036854775807) 2) == 0) true) else (if t134.toList = t133.toList then (if a1 = true then (clapref1_Nearest.j0 k a1 (Go.bits .and .i64 a2 9223372036854775807) t133 ((Int.tmod (Go.bits .and .i64 a2 9223372036854775807) 2) == 0) true) else (clapref1_Nearest.j0 k a1 (Go.bits .and .i64 a2 9223372036854775807) t133 ((Int.tmod (Go.bits .and .i64 a2 9223372036854775807) 2) == 0) (!((Int.tmod (Go.bits .and .i64 a2 9223372036854775807) 2) == 0)))) else (clapref1_Nearest.j0 k a1 (Go.bits .and .i64 a2 9223372036854775807) t133 ((Int.tmod (Go.bits .and .i64 a2 9223372036854775807) 2) == 0) false))))) = some r := H
  have A4 := Aside0.mk A40
  clear A40
  replace H := Option.bind_eq_some_iff.mp H
  obtain ⟨t134, A50, H⟩ := H
  replace H : ((clapref1_less.f t134 t133).bind fun t135 => (if t135 = true then (clapref1_Nearest.j0 k a1 (Go.bits .and .i64 a2 9223372036854775807) t133 ((Int.tmod (Go.bits .and .i64 a2 9223372036854775807) 2) == 0) true) else (if t134.toList = t133.toList then (if a1 = true then (clapref1_Nearest.j0 k a1 (Go.bits .and .i64 a2 9223372036854775807) t133 ((Int.tmod (Go.bits .and .i64 a2 9223372036854775807) 2) == 0) true) else (clapref1_Nearest.j0 k a1 (Go.bits .and .i64 a2 9223372036854775807) t133 ((Int.tmod (Go.bits .and .i64 a2 9223372036854775807) 2) == 0) (!((Int.tmod (Go.bits .and .i64 a2 9223372036854775807) 2) == 0)))) else (clapref1_Nearest.j0 k a1 (Go.bits .and .i64 a2 9223372036854775807) t133 ((Int.tmod (Go.bits .and .i64 a2 9223372036854775807) 2) == 0) false)))) = some r := H
  have A5 := Aside0.mk A50
  clear A50
  have HC6 := Aside0.mk H
  clear H
  go_enter Tryd.func21, Tryd.ntmps21
  go_upto_region 5 with (first | ((with_reducible refine gate_callee (f := 57) rfl ?_); refine goesL_ (some 14) rfl rfl Tryd.func57 (by kernel_rfl) rfl #[.string a0, .int .i64 2] rfl (by (try simp only [List.map_toArray, List.map_cons, List.map_nil]); first | done | rfl | (simp only [List.length_drop, List.length_take]; rfl)) ?_; (with_reducible refine (clapref1_times.calls k a0 2 t133 _ A4.out).mono ?_); rintro e w7 ⟨rfl, hb⟩; refine ⟨_, rfl, ?_⟩; have n0_ := Aside0.mk (below_step (by repeat (first | (with_reducible first | exact HB.out | apply below_alloc | apply pw_below_drewN | apply below_drew1) | exact HB.out)) hb); clear HB; have HB := n0_; clear n0_; (try clear hb); (try clear hb2); (try clear hk); (try clear hi)) | ((with_reducible refine gate_callee (f := 58) rfl ?_); refine goesL_ (some 19) rfl rfl Tryd.func58 (by kernel_rfl) rfl #[.int .i64 (Go.bits .and .i64 a2 9223372036854775807)] rfl (by (try simp only [List.map_toArray, List.map_cons, List.map_nil]); first | done | rfl | (simp only [List.length_drop, List.length_take]; rfl)) ?_; (with_reducible refine (clapref1_Halfway.calls k (Go.bits .and .i64 a2 9223372036854775807) t134 _ A5.out).mono ?_); rintro e w8 ⟨rfl, hb⟩; refine ⟨_, rfl, ?_⟩; have n0_ := Aside0.mk (below_step (by repeat (first | (with_reducible first | exact HB.out | apply below_alloc | apply pw_below_drewN | apply below_drew1) | exact HB.out)) hb); clear HB; have HB := n0_; clear n0_; (try clear hb); (try clear hb2); (try clear hk); (try clear hi)))
  (try simp only [Act.put, List.setIfInBounds_toArray, List.set_cons_zero, List.set_cons_succ])
  go_cut [34] (fun v34 wc => ∃ (kq : Nat) (x34_5 : Bool), v34 = .bool x34_5 ∧ Aside0 (clapref1_Nearest.j0 kq a1 (Go.bits .and .i64 a2 9223372036854775807) t133 ((Int.tmod (Go.bits .and .i64 a2 9223372036854775807) 2) == 0) x34_5 = some r) ∧ Aside0 (kq ≤ k) ∧ Aside0 (Below w.heap.size w wc))
  case first =>
    have H := HC6.out
    clear HC6
    replace H := Option.bind_eq_some_iff.mp H
    obtain ⟨t135, A90, H⟩ := H
    replace H : (if t135 = true then (clapref1_Nearest.j0 k a1 (Go.bits .and .i64 a2 9223372036854775807) t133 ((Int.tmod (Go.bits .and .i64 a2 9223372036854775807) 2) == 0) true) else (if t134.toList = t133.toList then (if a1 = true then (clapref1_Nearest.j0 k a1 (Go.bits .and .i64 a2 9223372036854775807) t133 ((Int.tmod (Go.bits .and .i64 a2 9223372036854775807) 2) == 0) true) else (clapref1_Nearest.j0 k a1 (Go.bits .and .i64 a2 9223372036854775807) t133 ((Int.tmod (Go.bits .and .i64 a2 9223372036854775807) 2) == 0) (!((Int.tmod (Go.bits .and .i64 a2 9223372036854775807) 2) == 0)))) else (clapref1_Nearest.j0 k a1 (Go.bits .and .i64 a2 9223372036854775807) t133 ((Int.tmod (Go.bits .and .i64 a2 9223372036854775807) 2) == 0) false))) = some r := H
    have A9 := Aside0.mk A90
    clear A90
    by_cases c10 : t135 = true
    · subst c10
      have H1 : (clapref1_Nearest.j0 k a1 (Go.bits .and .i64 a2 9223372036854775807) t133 ((Int.tmod (Go.bits .and .i64 a2 9223372036854775807) 2) == 0) true) = some r := by rw [if_pos rfl] at H; exact H
      clear H
      have H := H1
      clear H1
      have H' := Aside0.mk H
      clear H
      go_wp2_with (first | ((with_reducible refine gate_callee (f := 59) rfl ?_); refine goesL_ (some 22) rfl rfl Tryd.func59 (by kernel_rfl) rfl #[.string t134, .string t133] rfl (by (try simp only [List.map_toArray, List.map_cons, List.map_nil]); first | done | rfl | (simp only [List.length_drop, List.length_take]; rfl)) ?_; (with_reducible refine (clapref1_less.calls t134 t133 true _ A9.out).mono ?_); rintro e w' ⟨rfl, ⟨nd, rfl⟩⟩; refine ⟨_, rfl, ?_⟩))
      go_meet
      case rel => exact ⟨_, (true), (by first | rfl | (simp; done) | (simp [*]; done) | (simp only [bytes_bne_nil, bytes_beq_nil]; first | done | (congr 1; done) | (congr 1; grind))), H', ⟨by first | omega | exact Nat.le_refl _⟩, ⟨by repeat (first | (with_reducible first | exact HB.out | apply below_alloc | apply pw_below_drewN | apply below_drew1) | exact HB.out)⟩⟩
    · replace c10 := Bool.eq_false_iff.mpr c10
      subst c10
      have H1 : (if t134.toList = t133.toList then (if a1 = true then (clapref1_Nearest.j0 k a1 (Go.bits .and .i64 a2 9223372036854775807) t133 ((Int.tmod (Go.bits .and .i64 a2 9223372036854775807) 2) == 0) true) else (clapref1_Nearest.j0 k a1 (Go.bits .and .i64 a2 9223372036854775807) t133 ((Int.tmod (Go.bits .and .i64 a2 9223372036854775807) 2) == 0) (!((Int.tmod (Go.bits .and .i64 a2 9223372036854775807) 2) == 0)))) else (clapref1_Nearest.j0 k a1 (Go.bits .and .i64 a2 9223372036854775807) t133 ((Int.tmod (Go.bits .and .i64 a2 9223372036854775807) 2) == 0) false)) = some r := by rw [if_neg (show ¬ (false = true) by decide)] at H; exact H
      clear H
      have H := H1
      clear H1
      by_cases c11 : t134.toList = t133.toList
      · rw [if_pos c11] at H
        have c11b0 : (t134.toList == t133.toList) = true := beq_iff_eq.mpr c11
        have c11b1 : (t134.toList != t133.toList) = false := bne_eq_false_iff_eq.mpr c11
        clear c11
        (first | rw [c11b0] | (simp only [i64_w, i32_w]; rw [c11b0]) | skip)
        by_cases c12 : a1 = true
        · subst c12
          have H1 : (clapref1_Nearest.j0 k true (Go.bits .and .i64 a2 9223372036854775807) t133 ((Int.tmod (Go.bits .and .i64 a2 9223372036854775807) 2) == 0) true) = some r := by rw [if_pos rfl] at H; exact H
          clear H
          have H := H1
          clear H1
          have H' := Aside0.mk H
          clear H
          go_wp2_with (first | ((with_reducible refine gate_callee (f := 59) rfl ?_); refine goesL_ (some 22) rfl rfl Tryd.func59 (by kernel_rfl) rfl #[.string t134, .string t133] rfl (by (try simp only [List.map_toArray, List.map_cons, List.map_nil]); first | done | rfl | (simp only [List.length_drop, List.length_take]; rfl)) ?_; (with_reducible refine (clapref1_less.calls t134 t133 false _ A9.out).mono ?_); rintro e w' ⟨rfl, ⟨nd, rfl⟩⟩; refine ⟨_, rfl, ?_⟩))
          go_meet
          case rel => exact ⟨_, (true), (by first | rfl | (simp; done) | (simp [*]; done) | (simp only [bytes_bne_nil, bytes_beq_nil]; first | done | (congr 1; done) | (congr 1; grind))), H', ⟨by first | omega | exact Nat.le_refl _⟩, ⟨by repeat (first | (with_reducible first | exact HB.out | apply below_alloc | apply pw_below_drewN | apply below_drew1) | exact HB.out)⟩⟩
        · replace c12 := Bool.eq_false_iff.mpr c12
          subst c12
          have H1 : (clapref1_Nearest.j0 k false (Go.bits .and .i64 a2 9223372036854775807) t133 ((Int.tmod (Go.bits .and .i64 a2 9223372036854775807) 2) == 0) (!((Int.tmod (Go.bits .and .i64 a2 9223372036854775807) 2) == 0))) = some r := by rw [if_neg (show ¬ (false = true) by decide)] at H; exact H
          clear H
          have H := H1
          clear H1
          have H' := Aside0.mk H
          clear H
          go_wp2_with (first | ((with_reducible refine gate_callee (f := 59) rfl ?_); refine goesL_ (some 22) rfl rfl Tryd.func59 (by kernel_rfl) rfl #[.string t134, .string t133] rfl (by (try simp only [List.map_toArray, List.map_cons, List.map_nil]); first | done | rfl | (simp only [List.length_drop, List.length_take]; rfl)) ?_; (with_reducible refine (clapref1_less.calls t134 t133 false _ A9.out).mono ?_); rintro e w' ⟨rfl, ⟨nd, rfl⟩⟩; refine ⟨_, rfl, ?_⟩))
          go_meet
          case rel => exact ⟨_, (!((Int.tmod (Go.bits .and .i64 a2 9223372036854775807) 2) == 0)), (by first | rfl | (simp; done) | (simp [*]; done) | (simp only [bytes_bne_nil, bytes_beq_nil]; first | done | (congr 1; done) | (congr 1; grind))), H', ⟨by first | omega | exact Nat.le_refl _⟩, ⟨by repeat (first | (with_reducible first | exact HB.out | apply below_alloc | apply pw_below_drewN | apply below_drew1) | exact HB.out)⟩⟩
      · rw [if_neg c11] at H
        have c11b0 : (t134.toList == t133.toList) = false := beq_eq_false_iff_ne.mpr c11
        have c11b1 : (t134.toList != t133.toList) = true := bne_iff_ne.mpr c11
        (first | rw [c11b0] | (simp only [i64_w, i32_w]; rw [c11b0]) | skip)
        have H' := Aside0.mk H
        clear H
        go_wp2_with (first | ((with_reducible refine gate_callee (f := 59) rfl ?_); refine goesL_ (some 22) rfl rfl Tryd.func59 (by kernel_rfl) rfl #[.string t134, .string t133] rfl (by (try simp only [List.map_toArray, List.map_cons, List.map_nil]); first | done | rfl | (simp only [List.length_drop, List.length_take]; rfl)) ?_; (with_reducible refine (clapref1_less.calls t134 t133 false _ A9.out).mono ?_); rintro e w' ⟨rfl, ⟨nd, rfl⟩⟩; refine ⟨_, rfl, ?_⟩))
        go_meet
        case rel => exact ⟨_, (false), (by first | rfl | (simp; done) | (simp [*]; done) | (simp only [bytes_bne_nil, bytes_beq_nil]; first | done | (congr 1; done) | (congr 1; grind))), H', ⟨by first | omega | exact Nat.le_refl _⟩, ⟨by repeat (first | (with_reducible first | exact HB.out | apply below_alloc | apply pw_below_drewN | apply below_drew1) | exact HB.out)⟩⟩
  case rest =>
    clear HC6
    try clear c1
    try clear c2
    try clear p2
    try clear c5
    try clear c10
    try clear c11
    try clear c11b0
    try clear c11b1
    try clear c12
    obtain ⟨kq, x34_5, rfl, HA, HJ5, HB⟩ := hcut
    cases kq with
    | zero => exact absurd HA.out (by simp [clapref1_Nearest.j0])
    | succ kj5 =>
      have H := HA.out
      clear HA
      simp only [clapref1_Nearest.j0] at H
      by_cases c13 : x34_5 = true
      · subst c13
        have H1 : (some false) = some r := by rw [if_pos rfl] at H; exact H
        clear H
        have H := H1
        clear H1
        obtain rfl := Option.some.inj H
        go_wp2
        go_ret
        exact ⟨by first | rfl | (simp [errW_none, errW_some] <;> rfl) | (simp [*, errW_none, errW_some] <;> rfl), by repeat (first | (with_reducible first | exact HB.out | apply below_alloc | apply pw_below_drewN | apply below_drew1) | exact HB.out)⟩
      · replace c13 := Bool.eq_false_iff.mpr c13
        subst c13
        have H1 : (if (Go.bits .and .i64 a2 9223372036854775807) = 0 then (some true) else ((clapref1_Halfway.f kj5 (wrap64 ((Go.bits .and .i64 a2 9223372036854775807) - 1))).bind fun t136 => ((clapref1_less.f t136 t133).bind fun t137 => (if t137 = true then (some true) else (if t136.toList = t133.toList then (if a1 = true then (some true) else (some ((Int.tmod (Go.bits .and .i64 a2 9223372036854775807) 2) == 0))) else (some false)))))) = some r := by rw [if_neg (show ¬ (false = true) by decide)] at H; exact H
        clear H
        have H := H1
        clear H1
        by_cases c14 : (Go.bits .and .i64 a2 9223372036854775807) = 0
        · rw [if_pos c14] at H
          have c14b0 : ((Go.bits .and .i64 a2 9223372036854775807) == 0) = true := beq_iff_eq.mpr c14
          have c14b1 : ((Go.bits .and .i64 a2 9223372036854775807) != 0) = false := bne_eq_false_iff_eq.mpr c14
          clear c14
          obtain rfl := Option.some.inj H
          go_wp2
          go_ret
          exact ⟨by first | rfl | (simp [errW_none, errW_some] <;> rfl) | (simp [*, errW_none, errW_some] <;> rfl), by repeat (first | (with_reducible first | exact HB.out | apply below_alloc | apply pw_below_drewN | apply below_drew1) | exact HB.out)⟩
        · rw [if_neg c14] at H
          have c14b0 : ((Go.bits .and .i64 a2 9223372036854775807) == 0) = false := beq_eq_false_iff_ne.mpr c14
          have c14b1 : ((Go.bits .and .i64 a2 9223372036854775807) != 0) = true := bne_iff_ne.mpr c14
          replace H := Option.bind_eq_some_iff.mp H
          obtain ⟨t136, A150, H⟩ := H
          replace H : ((clapref1_less.f t136 t133).bind fun t137 => (if t137 = true then (some true) else (if t136.toList = t133.toList then (if a1 = true then (some true) else (some ((Int.tmod (Go.bits .and .i64 a2 9223372036854775807) 2) == 0))) else (some false)))) = some r := H
          have A15 := Aside0.mk A150
          clear A150
          replace H := Option.bind_eq_some_iff.mp H
          obtain ⟨t137, A160, H⟩ := H
          replace H : (if t137 = true then (some true) else (if t136.toList = t133.toList then (if a1 = true then (some true) else (some ((Int.tmod (Go.bits .and .i64 a2 9223372036854775807) 2) == 0))) else (some false))) = some r := H
          have A16 := Aside0.mk A160
          clear A160
          by_cases c17 : t137 = true
          · subst c17
            have H1 : (some true) = some r := by rw [if_pos rfl] at H; exact H
            clear H
            have H := H1
            clear H1
            obtain rfl := Option.some.inj H
            go_wp2_with (first | ((with_reducible refine gate_callee (f := 58) rfl ?_); refine goesL_ (some 39) rfl rfl Tryd.func58 (by kernel_rfl) rfl #[.int .i64 (wrap64 ((Go.bits .and .i64 a2 9223372036854775807) - 1))] rfl (by (try simp only [List.map_toArray, List.map_cons, List.map_nil]); first | done | rfl | (simp only [List.length_drop, List.length_take]; rfl)) ?_; (with_reducible refine (clapref1_Halfway.calls kj5 (wrap64 ((Go.bits .and .i64 a2 9223372036854775807) - 1)) t136 _ A15.out).mono ?_); rintro e w18 ⟨rfl, hb⟩; refine ⟨_, rfl, ?_⟩; have n0_ := Aside0.mk (below_step (by repeat (first | (with_reducible first | exact HB.out | apply below_alloc | apply pw_below_drewN | apply below_drew1) | exact HB.out)) hb); clear HB; have HB := n0_; clear n0_; (try clear hb); (try clear hb2); (try clear hk); (try clear hi)) | ((with_reducible refine gate_callee (f := 59) rfl ?_); refine goesL_ (some 42) rfl rfl Tryd.func59 (by kernel_rfl) rfl #[.string t136, .string t133] rfl (by (try simp only [List.map_toArray, List.map_cons, List.map_nil]); first | done | rfl | (simp only [List.length_drop, List.length_take]; rfl)) ?_; (with_reducible refine (clapref1_less.calls t136 t133 true _ A16.out).mono ?_); rintro e w' ⟨rfl, ⟨nd, rfl⟩⟩; refine ⟨_, rfl, ?_⟩))
            go_ret
            exact ⟨by first | rfl | (simp [errW_none, errW_some] <;> rfl) | (simp [*, errW_none, errW_some] <;> rfl), by repeat (first | (with_reducible first | exact HB.out | apply below_alloc | apply pw_below_drewN | apply below_drew1) | exact HB.out)⟩
          · replace c17 := Bool.eq_false_iff.mpr c17
            subst c17
            have H1 : (if t136.toList = t133.toList then (if a1 = true then (some true) else (some ((Int.tmod (Go.bits .and .i64 a2 9223372036854775807) 2) == 0))) else (some false)) = some r := by rw [if_neg (show ¬ (false = true) by decide)] at H; exact H
            clear H
            have H := H1
            clear H1
            by_cases c19 : t136.toList = t133.toList
            · rw [if_pos c19] at H
              have c19b0 : (t136.toList == t133.toList) = true := beq_iff_eq.mpr c19
              have c19b1 : (t136.toList != t133.toList) = false := bne_eq_false_iff_eq.mpr c19
              clear c19
              by_cases c20 : a1 = true
              · subst c20
                have H1 : (some true) = some r := by rw [if_pos rfl] at H; exact H
                clear H
                have H := H1
                clear H1
                obtain rfl := Option.some.inj H
                go_wp2_with (first | ((with_reducible refine gate_callee (f := 58) rfl ?_); refine goesL_ (some 39) rfl rfl Tryd.func58 (by kernel_rfl) rfl #[.int .i64 (wrap64 ((Go.bits .and .i64 a2 9223372036854775807) - 1))] rfl (by (try simp only [List.map_toArray, List.map_cons, List.map_nil]); first | done | rfl | (simp only [List.length_drop, List.length_take]; rfl)) ?_; (with_reducible refine (clapref1_Halfway.calls kj5 (wrap64 ((Go.bits .and .i64 a2 9223372036854775807) - 1)) t136 _ A15.out).mono ?_); rintro e w21 ⟨rfl, hb⟩; refine ⟨_, rfl, ?_⟩; have n0_ := Aside0.mk (below_step (by repeat (first | (with_reducible first | exact HB.out | apply below_alloc | apply pw_below_drewN | apply below_drew1) | exact HB.out)) hb); clear HB; have HB := n0_; clear n0_; (try clear hb); (try clear hb2); (try clear hk); (try clear hi)) | ((with_reducible refine gate_callee (f := 59) rfl ?_); refine goesL_ (some 42) rfl rfl Tryd.func59 (by kernel_rfl) rfl #[.string t136, .string t133] rfl (by (try simp only [List.map_toArray, List.map_cons, List.map_nil]); first | done | rfl | (simp only [List.length_drop, List.length_take]; rfl)) ?_; (with_reducible refine (clapref1_less.calls t136 t133 false _ A16.out).mono ?_); rintro e w' ⟨rfl, ⟨nd, rfl⟩⟩; refine ⟨_, rfl, ?_⟩))
                go_ret
                exact ⟨by first | rfl | (simp [errW_none, errW_some] <;> rfl) | (simp [*, errW_none, errW_some] <;> rfl), by repeat (first | (with_reducible first | exact HB.out | apply below_alloc | apply pw_below_drewN | apply below_drew1) | exact HB.out)⟩
              · replace c20 := Bool.eq_false_iff.mpr c20
                subst c20
                have H1 : (some ((Int.tmod (Go.bits .and .i64 a2 9223372036854775807) 2) == 0)) = some r := by rw [if_neg (show ¬ (false = true) by decide)] at H; exact H
                clear H
                have H := H1
                clear H1
                obtain rfl := Option.some.inj H
                go_wp2_with (first | ((with_reducible refine gate_callee (f := 58) rfl ?_); refine goesL_ (some 39) rfl rfl Tryd.func58 (by kernel_rfl) rfl #[.int .i64 (wrap64 ((Go.bits .and .i64 a2 9223372036854775807) - 1))] rfl (by (try simp only [List.map_toArray, List.map_cons, List.map_nil]); first | done | rfl | (simp only [List.length_drop, List.length_take]; rfl)) ?_; (with_reducible refine (clapref1_Halfway.calls kj5 (wrap64 ((Go.bits .and .i64 a2 9223372036854775807) - 1)) t136 _ A15.out).mono ?_); rintro e w22 ⟨rfl, hb⟩; refine ⟨_, rfl, ?_⟩; have n0_ := Aside0.mk (below_step (by repeat (first | (with_reducible first | exact HB.out | apply below_alloc | apply pw_below_drewN | apply below_drew1) | exact HB.out)) hb); clear HB; have HB := n0_; clear n0_; (try clear hb); (try clear hb2); (try clear hk); (try clear hi)) | ((with_reducible refine gate_callee (f := 59) rfl ?_); refine goesL_ (some 42) rfl rfl Tryd.func59 (by kernel_rfl) rfl #[.string t136, .string t133] rfl (by (try simp only [List.map_toArray, List.map_cons, List.map_nil]); first | done | rfl | (simp only [List.length_drop, List.length_take]; rfl)) ?_; (with_reducible refine (clapref1_less.calls t136 t133 false _ A16.out).mono ?_); rintro e w' ⟨rfl, ⟨nd, rfl⟩⟩; refine ⟨_, rfl, ?_⟩))
                go_ret
                exact ⟨by first | rfl | (simp [errW_none, errW_some] <;> rfl) | (simp [*, errW_none, errW_some] <;> rfl), by repeat (first | (with_reducible first | exact HB.out | apply below_alloc | apply pw_below_drewN | apply below_drew1) | exact HB.out)⟩
            · rw [if_neg c19] at H
              have c19b0 : (t136.toList == t133.toList) = false := beq_eq_false_iff_ne.mpr c19
              have c19b1 : (t136.toList != t133.toList) = true := bne_iff_ne.mpr c19
              obtain rfl := Option.some.inj H
              go_wp2_with (first | ((with_reducible refine gate_callee (f := 58) rfl ?_); refine goesL_ (some 39) rfl rfl Tryd.func58 (by kernel_rfl) rfl #[.int .i64 (wrap64 ((Go.bits .and .i64 a2 9223372036854775807) - 1))] rfl (by (try simp only [List.map_toArray, List.map_cons, List.map_nil]); first | done | rfl | (simp only [List.length_drop, List.length_take]; rfl)) ?_; (with_reducible refine (clapref1_Halfway.calls kj5 (wrap64 ((Go.bits .and .i64 a2 9223372036854775807) - 1)) t136 _ A15.out).mono ?_); rintro e w23 ⟨rfl, hb⟩; refine ⟨_, rfl, ?_⟩; have n0_ := Aside0.mk (below_step (by repeat (first | (with_reducible first | exact HB.out | apply below_alloc | apply pw_below_drewN | apply below_drew1) | exact HB.out)) hb); clear HB; have HB := n0_; clear n0_; (try clear hb); (try clear hb2); (try clear hk); (try clear hi)) | ((with_reducible refine gate_callee (f := 59) rfl ?_); refine goesL_ (some 42) rfl rfl Tryd.func59 (by kernel_rfl) rfl #[.string t136, .string t133] rfl (by (try simp only [List.map_toArray, List.map_cons, List.map_nil]); first | done | rfl | (simp only [List.length_drop, List.length_take]; rfl)) ?_; (with_reducible refine (clapref1_less.calls t136 t133 false _ A16.out).mono ?_); rintro e w' ⟨rfl, ⟨nd, rfl⟩⟩; refine ⟨_, rfl, ?_⟩))
              go_ret
              exact ⟨by first | rfl | (simp [errW_none, errW_some] <;> rfl) | (simp [*, errW_none, errW_some] <;> rfl), by repeat (first | (with_reducible first | exact HB.out | apply below_alloc | apply pw_below_drewN | apply below_drew1) | exact HB.out)⟩

/-! ### clapref1_TooLarge: function 22 -/
def clapref1_TooLarge.f (k : Nat) (a0 : ByteArray) : Option (Bool) := (clapref1_times.f k a0 2).bind fun t138 => ((clapref1_Halfway.f k 9218868437227405311).bind fun t139 => ((clapref1_less.f t138 t139).bind fun t140 => (some (!t140))))
theorem clapref1_TooLarge.mono : ∀ a0 k, LeO (clapref1_TooLarge.f k a0) (clapref1_TooLarge.f (k + 1) a0) := by
  intro a0 k
  unfold clapref1_TooLarge.f
  repeat' first
      | (with_reducible exact clapref1_Halfway.mono _ _)
      | (with_reducible exact clapref1_times.mono _ _ _)
      | (with_reducible exact LeO.refl _)
      | (with_reducible exact LeO.none _)
      | (with_reducible refine LeO.ite ?_ ?_)
      | (with_reducible refine LeO.bind ?_ (fun _ => ?_))
      | exact clapref1_Halfway.mono _ _
      | exact clapref1_times.mono _ _ _
      | exact LeO.none _
      | refine LeO.ite ?_ ?_
      | refine LeO.bind ?_ (fun _ => ?_)
set_option maxHeartbeats 8000000 in
set_option maxRecDepth 100000 in
theorem clapref1_TooLarge.calls (k : Nat) (a0 : ByteArray) (r : Bool) (w : World) (h : clapref1_TooLarge.f k a0 = some r) :
    Calls Tryd.prog 22 #[.string a0] w fun e w' => e = .returned (.bool r) ∧ Below w.heap.size w w' := by
  have HB := Aside0.mk (Below.refl w.heap.size w)
  have H : ((clapref1_times.f k a0 2).bind fun t138 => ((clapref1_Halfway.f k 9218868437227405311).bind fun t139 => ((clapref1_less.f t138 t139).bind fun t140 => (some (!t140))))) = some r := h
  clear h
  replace H := Option.bind_eq_some_iff.mp H
  obtain ⟨t138, A20, H⟩ := H
  replace H : ((clapref1_Halfway.f k 9218868437227405311).bind fun t139 => ((clapref1_less.f t138 t139).bind fun t140 => (some (!t140)))) = some r := H
  have A2 := Aside0.mk A20
  clear A20
  replace H := Option.bind_eq_some_iff.mp H
  obtain ⟨t139, A30, H⟩ := H
  replace H : ((clapref1_less.f t138 t139).bind fun t140 => (some (!t140))) = some r := H
  have A3 := Aside0.mk A30
  clear A30
  replace H := Option.bind_eq_some_iff.mp H
  obtain ⟨t140, A40, H⟩ := H
  replace H : (some (!t140)) = some r := H
  have A4 := Aside0.mk A40
  clear A40
  obtain rfl := Option.some.inj H
  go_enter Tryd.func22, Tryd.ntmps22
  go_wp2_with (first | ((with_reducible refine gate_callee (f := 57) rfl ?_); refine goesL_ (some 4) rfl rfl Tryd.func57 (by kernel_rfl) rfl #[.string a0, .int .i64 2] rfl (by (try simp only [List.map_toArray, List.map_cons, List.map_nil]); first | done | rfl | (simp only [List.length_drop, List.length_take]; rfl)) ?_; (with_reducible refine (clapref1_times.calls k a0 2 t138 _ A2.out).mono ?_); rintro e w5 ⟨rfl, hb⟩; refine ⟨_, rfl, ?_⟩; have n0_ := Aside0.mk (below_step (by repeat (first | (with_reducible first | exact HB.out | apply below_alloc | apply pw_below_drewN | apply below_drew1) | exact HB.out)) hb); clear HB; have HB := n0_; clear n0_; (try clear hb); (try clear hb2); (try clear hk); (try clear hi)) | ((with_reducible refine gate_callee (f := 58) rfl ?_); refine goesL_ (some 5) rfl rfl Tryd.func58 (by kernel_rfl) rfl #[.int .i64 9218868437227405311] rfl (by (try simp only [List.map_toArray, List.map_cons, List.map_nil]); first | done | rfl | (simp only [List.length_drop, List.length_take]; rfl)) ?_; (with_reducible refine (clapref1_Halfway.calls k 9218868437227405311 t139 _ A3.out).mono ?_); rintro e w6 ⟨rfl, hb⟩; refine ⟨_, rfl, ?_⟩; have n0_ := Aside0.mk (below_step (by repeat (first | (with_reducible first | exact HB.out | apply below_alloc | apply pw_below_drewN | apply below_drew1) | exact HB.out)) hb); clear HB; have HB := n0_; clear n0_; (try clear hb); (try clear hb2); (try clear hk); (try clear hi)) | ((with_reducible refine gate_callee (f := 59) rfl ?_); refine goesL_ (some 6) rfl rfl Tryd.func59 (by kernel_rfl) rfl #[.string t138, .string t139] rfl (by (try simp only [List.map_toArray, List.map_cons, List.map_nil]); first | done | rfl | (simp only [List.length_drop, List.length_take]; rfl)) ?_; (with_reducible refine (clapref1_less.calls t138 t139 t140 _ A4.out).mono ?_); rintro e w' ⟨rfl, ⟨nd, rfl⟩⟩; refine ⟨_, rfl, ?_⟩))
  go_ret
  exact ⟨by first | rfl | (simp [errW_none, errW_some] <;> rfl) | (simp [*, errW_none, errW_some] <;> rfl), by repeat (first | (with_reducible first | exact HB.out | apply below_alloc | apply pw_below_drewN | apply below_drew1) | exact HB.out)⟩

/-! ### claplaw1_FloatMakes: function 5 -/
def claplaw1_FloatMakes.j0 : Nat → Bool → Int → Int → Int → Int → Bool → Option (Bool)
  | 0, _, _, _, _, _, _ => none
  | k + 1, x0, x1, x2, x7, x8, x24 => if x24 = true then ((claplaw1_floats.f k).bind fun t144 => (if t144 = true then (if x7 = 0 then (some (x8 == 1)) else (some false)) else (some false))) else ((clapref1_Scaled.f k x1 (mx (-1075) (mn x2 1100))).bind fun t145 => (if x2 < (-1075) then (if 0 ≤ (mn (wrap64 ((-1075) - x2)) 63) then (if x8 = 0 then (if ((decide (x7 < 0)) == x0) = true then ((clapref1_Sort.f k x7).bind fun t146 => (if t146 ≤ 2 then ((clapref1_Scaled.f k (x1 / 2 ^ (mn (wrap64 ((-1075) - x2)) 63).toNat) (-1075)).bind fun t147 => ((clapref1_Nearest.f k t147 ((Go.bits .and .i64 x1 (wrap64 ((wrap64 (2 ^ (mn (wrap64 ((-1075) - x2)) 63).toNat)) - 1))) != 0) x7).bind fun t148 => (some t148))) else (some false))) else (some false)) else (some false)) else (none)) else ((clapref1_TooLarge.f k t145).bind fun t149 => (if t149 = true then (if x7 = 0 then (some (x8 == 11)) else (some false)) else (if x8 = 0 then (if ((decide (x7 < 0)) == x0) = true then ((clapref1_Sort.f k x7).bind fun t150 => (if t150 ≤ 2 then ((clapref1_Nearest.f k t145 false x7).bind fun t151 => (some t151)) else (some false))) else (some false)) else (some false))))))
def claplaw1_FloatMakes.f (k : Nat) (a0 : Bool) (a1 : Int) (a2 : Int) : Option (Bool) := (float_Make.f k a0 a1 a2).bind fun bt141 => ((claplaw1_floats.f k).bind fun t143 => (if t143 = true then (claplaw1_FloatMakes.j0 k a0 a1 a2 bt141.1 bt141.2 (decide (a1 < 0))) else (claplaw1_FloatMakes.j0 k a0 a1 a2 bt141.1 bt141.2 true)))
theorem claplaw1_FloatMakes.mono_l : ∀ k, (∀ y0 y1 y2 y3 y4 y5, LeO (claplaw1_FloatMakes.j0 k y0 y1 y2 y3 y4 y5) (claplaw1_FloatMakes.j0 (k + 1) y0 y1 y2 y3 y4 y5))
  | 0 => fun _ _ _ _ _ _ r h => by simp [claplaw1_FloatMakes.j0] at h
  | k + 1 => by
    have ih0 := claplaw1_FloatMakes.mono_l k
    · intro y0 y1 y2 y3 y4 y5
      unfold claplaw1_FloatMakes.j0
      repeat' first
      | (with_reducible exact ih0 _ _ _ _ _ _)
      | (with_reducible exact claplaw1_floats.mono _)
      | (with_reducible exact clapref1_Nearest.mono _ _ _ _)
      | (with_reducible exact clapref1_Scaled.mono _ _ _)
      | (with_reducible exact clapref1_Sort.mono _ _)
      | (with_reducible exact clapref1_TooLarge.mono _ _)
      | (with_reducible exact float_Make.mono _ _ _ _)
      | (with_reducible exact LeO.refl _)
      | (with_reducible exact LeO.none _)
      | (with_reducible refine LeO.ite ?_ ?_)
      | (with_reducible refine LeO.bind ?_ (fun _ => ?_))
      | exact ih0 _ _ _ _ _ _
      | exact claplaw1_floats.mono _
      | exact clapref1_Nearest.mono _ _ _ _
      | exact clapref1_Scaled.mono _ _ _
      | exact clapref1_Sort.mono _ _
      | exact clapref1_TooLarge.mono _ _
      | exact float_Make.mono _ _ _ _
      | exact LeO.none _
      | refine LeO.ite ?_ ?_
      | refine LeO.bind ?_ (fun _ => ?_)
theorem claplaw1_FloatMakes.mono : ∀ a0 a1 a2 k, LeO (claplaw1_FloatMakes.f k a0 a1 a2) (claplaw1_FloatMakes.f (k + 1) a0 a1 a2) := by
  intro a0 a1 a2 k
  have ih0 := claplaw1_FloatMakes.mono_l k
  unfold claplaw1_FloatMakes.f
  repeat' first
      | (with_reducible exact ih0 _ _ _ _ _ _)
      | (with_reducible exact claplaw1_floats.mono _)
      | (with_reducible exact clapref1_Nearest.mono _ _ _ _)
      | (with_reducible exact clapref1_Scaled.mono _ _ _)
      | (with_reducible exact clapref1_Sort.mono _ _)
      | (with_reducible exact clapref1_TooLarge.mono _ _)
      | (with_reducible exact float_Make.mono _ _ _ _)
      | (with_reducible exact LeO.refl _)
      | (with_reducible exact LeO.none _)
      | (with_reducible refine LeO.ite ?_ ?_)
      | (with_reducible refine LeO.bind ?_ (fun _ => ?_))
      | exact ih0 _ _ _ _ _ _
      | exact claplaw1_floats.mono _
      | exact clapref1_Nearest.mono _ _ _ _
      | exact clapref1_Scaled.mono _ _ _
      | exact clapref1_Sort.mono _ _
      | exact clapref1_TooLarge.mono _ _
      | exact float_Make.mono _ _ _ _
      | exact LeO.none _
      | refine LeO.ite ?_ ?_
      | refine LeO.bind ?_ (fun _ => ?_)
set_option maxHeartbeats 8000000 in
set_option maxRecDepth 100000 in
theorem claplaw1_FloatMakes.calls (k : Nat) (a0 : Bool) (a1 : Int) (a2 : Int) (r : Bool) (w : World) (h : claplaw1_FloatMakes.f k a0 a1 a2 = some r) :
    Calls Tryd.prog 5 #[.bool a0, .int .i64 a1, .int .i64 a2] w fun e w' => e = .returned (.bool r) ∧ Below w.heap.size w w' := by
  have HB := Aside0.mk (Below.refl w.heap.size w)
  have H : ((float_Make.f k a0 a1 a2).bind fun bt141 => ((claplaw1_floats.f k).bind fun t143 => (if t143 = true then (claplaw1_FloatMakes.j0 k a0 a1 a2 bt141.1 bt141.2 (decide (a1 < 0))) else (claplaw1_FloatMakes.j0 k a0 a1 a2 bt141.1 bt141.2 true)))) = some r := h
  clear h
  replace H := Option.bind_eq_some_iff.mp H
  obtain ⟨⟨t141, t142⟩, A40, H⟩ := H
  replace H : ((claplaw1_floats.f k).bind fun t143 => (if t143 = true then (claplaw1_FloatMakes.j0 k a0 a1 a2 t141 t142 (decide (a1 < 0))) else (claplaw1_FloatMakes.j0 k a0 a1 a2 t141 t142 true))) = some r := H
  have A4 := Aside0.mk A40
  clear A40
  have HC5 := Aside0.mk H
  clear H
  go_enter Tryd.func5, Tryd.ntmps5
  go_upto_region 2 with (first | ((with_reducible refine gate_callee (f := 17) rfl ?_); refine goesL_ (some 16) rfl rfl Tryd.func17 (by kernel_rfl) rfl #[.bool a0, .int .i64 a1, .int .i64 a2] rfl (by (try simp only [List.map_toArray, List.map_cons, List.map_nil]); first | done | rfl | (simp only [List.length_drop, List.length_take]; rfl)) ?_; (with_reducible refine (float_Make.calls k a0 a1 a2 t141 t142 _ A4.out).mono ?_); rintro e w6 ⟨rfl, hb⟩; refine ⟨_, rfl, ?_⟩; have n0_ := Aside0.mk (below_step (by repeat (first | (with_reducible first | exact HB.out | apply below_alloc | apply pw_below_drewN | apply below_drew1) | exact HB.out)) hb); clear HB; have HB := n0_; clear n0_; (try clear hb); (try clear hb2); (try clear hk); (try clear hi)))
  (try simp only [Act.put, List.setIfInBounds_toArray, List.set_cons_zero, List.set_cons_succ])
  go_cut [24] (fun v24 wc => ∃ (kq : Nat) (x24_4 : Bool), v24 = .bool x24_4 ∧ Aside0 (claplaw1_FloatMakes.j0 kq a0 a1 a2 t141 t142 x24_4 = some r) ∧ Aside0 (kq ≤ k) ∧ Aside0 (Below w.heap.size w wc))
  case first =>
    have H := HC5.out
    clear HC5
    replace H := Option.bind_eq_some_iff.mp H
    obtain ⟨t143, A70, H⟩ := H
    replace H : (if t143 = true then (claplaw1_FloatMakes.j0 k a0 a1 a2 t141 t142 (decide (a1 < 0))) else (claplaw1_FloatMakes.j0 k a0 a1 a2 t141 t142 true)) = some r := H
    have A7 := Aside0.mk A70
    clear A70
    by_cases c8 : t143 = true
    · subst c8
      have H1 : (claplaw1_FloatMakes.j0 k a0 a1 a2 t141 t142 (decide (a1 < 0))) = some r := by rw [if_pos rfl] at H; exact H
      clear H
      have H := H1
      clear H1
      have H' := Aside0.mk H
      clear H
      go_wp2_with (first | ((with_reducible refine gate_callee (f := 18) rfl ?_); refine goesL_ (some 19) rfl rfl Tryd.func18 (by kernel_rfl) rfl #[] rfl (by (try simp only [List.map_toArray, List.map_cons, List.map_nil]); first | done | rfl | (simp only [List.length_drop, List.length_take]; rfl)) ?_; (with_reducible refine (claplaw1_floats.calls k  true _ A7.out).mono ?_); rintro e w9 ⟨rfl, hb⟩; refine ⟨_, rfl, ?_⟩; have n0_ := Aside0.mk (below_step (by repeat (first | (with_reducible first | exact HB.out | apply below_alloc | apply pw_below_drewN | apply below_drew1) | exact HB.out)) hb); clear HB; have HB := n0_; clear n0_; (try clear hb); (try clear hb2); (try clear hk); (try clear hi)))
      go_meet
      case rel => exact ⟨_, (decide (a1 < 0)), (by first | rfl | (simp; done) | (simp [*]; done) | (simp only [bytes_bne_nil, bytes_beq_nil]; first | done | (congr 1; done) | (congr 1; grind))), H', ⟨by first | omega | exact Nat.le_refl _⟩, ⟨by repeat (first | (with_reducible first | exact HB.out | apply below_alloc | apply pw_below_drewN | apply below_drew1) | exact HB.out)⟩⟩
    · replace c8 := Bool.eq_false_iff.mpr c8
      subst c8
      have H1 : (claplaw1_FloatMakes.j0 k a0 a1 a2 t141 t142 true) = some r := by rw [if_neg (show ¬ (false = true) by decide)] at H; exact H
      clear H
      have H := H1
      clear H1
      have H' := Aside0.mk H
      clear H
      go_wp2_with (first | ((with_reducible refine gate_callee (f := 18) rfl ?_); refine goesL_ (some 19) rfl rfl Tryd.func18 (by kernel_rfl) rfl #[] rfl (by (try simp only [List.map_toArray, List.map_cons, List.map_nil]); first | done | rfl | (simp only [List.length_drop, List.length_take]; rfl)) ?_; (with_reducible refine (claplaw1_floats.calls k  false _ A7.out).mono ?_); rintro e w10 ⟨rfl, hb⟩; refine ⟨_, rfl, ?_⟩; have n0_ := Aside0.mk (below_step (by repeat (first | (with_reducible first | exact HB.out | apply below_alloc | apply pw_below_drewN | apply below_drew1) | exact HB.out)) hb); clear HB; have HB := n0_; clear n0_; (try clear hb); (try clear hb2); (try clear hk); (try clear hi)))
      go_meet
      case rel => exact ⟨_, (true), (by first | rfl | (simp; done) | (simp [*]; done) | (simp only [bytes_bne_nil, bytes_beq_nil]; first | done | (congr 1; done) | (congr 1; grind))), H', ⟨by first | omega | exact Nat.le_refl _⟩, ⟨by repeat (first | (with_reducible first | exact HB.out | apply below_alloc | apply pw_below_drewN | apply below_drew1) | exact HB.out)⟩⟩
  case rest =>
    clear HC5
    try clear c1
    try clear p2
    try clear c5
    try clear c8
    obtain ⟨kq, x24_4, rfl, HA, HJ4, HB⟩ := hcut
    cases kq with
    | zero => exact absurd HA.out (by simp [claplaw1_FloatMakes.j0])
    | succ kj4 =>
      have H := HA.out
      clear HA
      simp only [claplaw1_FloatMakes.j0] at H
      by_cases c11 : x24_4 = true
      · subst c11
        have H1 : ((claplaw1_floats.f kj4).bind fun t144 => (if t144 = true then (if t141 = 0 then (some (t142 == 1)) else (some false)) else (some false))) = some r := by rw [if_pos rfl] at H; exact H
        clear H
        have H := H1
        clear H1
        replace H := Option.bind_eq_some_iff.mp H
        obtain ⟨t144, A120, H⟩ := H
        replace H : (if t144 = true then (if t141 = 0 then (some (t142 == 1)) else (some false)) else (some false)) = some r := H
        have A12 := Aside0.mk A120
        clear A120
        by_cases c13 : t144 = true
        · subst c13
          have H1 : (if t141 = 0 then (some (t142 == 1)) else (some false)) = some r := by rw [if_pos rfl] at H; exact H
          clear H
          have H := H1
          clear H1
          by_cases c14 : t141 = 0
          · rw [if_pos c14] at H
            have c14b0 : (t141 == 0) = true := beq_iff_eq.mpr c14
            have c14b1 : (t141 != 0) = false := bne_eq_false_iff_eq.mpr c14
            clear c14
            obtain rfl := Option.some.inj H
            go_wp2_with (first | ((with_reducible refine gate_callee (f := 18) rfl ?_); refine goesL_ (some 25) rfl rfl Tryd.func18 (by kernel_rfl) rfl #[] rfl (by (try simp only [List.map_toArray, List.map_cons, List.map_nil]); first | done | rfl | (simp only [List.length_drop, List.length_take]; rfl)) ?_; (with_reducible refine (claplaw1_floats.calls kj4  true _ A12.out).mono ?_); rintro e w15 ⟨rfl, hb⟩; refine ⟨_, rfl, ?_⟩; have n0_ := Aside0.mk (below_step (by repeat (first | (with_reducible first | exact HB.out | apply below_alloc | apply pw_below_drewN | apply below_drew1) | exact HB.out)) hb); clear HB; have HB := n0_; clear n0_; (try clear hb); (try clear hb2); (try clear hk); (try clear hi)))
            go_ret
            exact ⟨by first | rfl | (simp [errW_none, errW_some] <;> rfl) | (simp [*, errW_none, errW_some] <;> rfl), by repeat (first | (with_reducible first | exact HB.out | apply below_alloc | apply pw_below_drewN | apply below_drew1) | exact HB.out)⟩
          · rw [if_neg c14] at H
            have c14b0 : (t141 == 0) = false := beq_eq_false_iff_ne.mpr c14
            have c14b1 : (t141 != 0) = true := bne_iff_ne.mpr c14
            obtain rfl := Option.some.inj H
            go_wp2_with (first | ((with_reducible refine gate_callee (f := 18) rfl ?_); refine goesL_ (some 25) rfl rfl Tryd.func18 (by kernel_rfl) rfl #[] rfl (by (try simp only [List.map_toArray, List.map_cons, List.map_nil]); first | done | rfl | (simp only [List.length_drop, List.length_take]; rfl)) ?_; (with_reducible refine (claplaw1_floats.calls kj4  true _ A12.out).mono ?_); rintro e w16 ⟨rfl, hb⟩; refine ⟨_, rfl, ?_⟩; have n0_ := Aside0.mk (below_step (by repeat (first | (with_reducible first | exact HB.out | apply below_alloc | apply pw_below_drewN | apply below_drew1) | exact HB.out)) hb); clear HB; have HB := n0_; clear n0_; (try clear hb); (try clear hb2); (try clear hk); (try clear hi)))
            go_ret
            exact ⟨by first | rfl | (simp [errW_none, errW_some] <;> rfl) | (simp [*, errW_none, errW_some] <;> rfl), by repeat (first | (with_reducible first | exact HB.out | apply below_alloc | apply pw_below_drewN | apply below_drew1) | exact HB.out)⟩
        · replace c13 := Bool.eq_false_iff.mpr c13
          subst c13
          have H1 : (some false) = some r := by rw [if_neg (show ¬ (false = true) by decide)] at H; exact H
          clear H
          have H := H1
          clear H1
          obtain rfl := Option.some.inj H
          go_wp2_with (first | ((with_reducible refine gate_callee (f := 18) rfl ?_); refine goesL_ (some 25) rfl rfl Tryd.func18 (by kernel_rfl) rfl #[] rfl (by (try simp only [List.map_toArray, List.map_cons, List.map_nil]); first | done | rfl | (simp only [List.length_drop, List.length_take]; rfl)) ?_; (with_reducible refine (claplaw1_floats.calls kj4  false _ A12.out).mono ?_); rintro e w17 ⟨rfl, hb⟩; refine ⟨_, rfl, ?_⟩; have n0_ := Aside0.mk (below_step (by repeat (first | (with_reducible first | exact HB.out | apply below_alloc | apply pw_below_drewN | apply below_drew1) | exact HB.out)) hb); clear HB; have HB := n0_; clear n0_; (try clear hb); (try clear hb2); (try clear hk); (try clear hi)))
          go_ret
          exact ⟨by first | rfl | (simp [errW_none, errW_some] <;> rfl) | (simp [*, errW_none, errW_some] <;> rfl), by repeat (first | (with_reducible first | exact HB.out | apply below_alloc | apply pw_below_drewN | apply below_drew1) | exact HB.out)⟩
      · replace c11 := Bool.eq_false_iff.mpr c11
        subst c11
        have H1 : ((clapref1_Scaled.f kj4 a1 (mx (-1075) (mn a2 1100))).bind fun t145 => (if a2 < (-1075) then (if 0 ≤ (mn (wrap64 ((-1075) - a2)) 63) then (if t142 = 0 then (if ((decide (t141 < 0)) == a0) = true then ((clapref1_Sort.f kj4 t141).bind fun t146 => (if t146 ≤ 2 then ((clapref1_Scaled.f kj4 (a1 / 2 ^ (mn (wrap64 ((-1075) - a2)) 63).toNat) (-1075)).bind fun t147 => ((clapref1_Nearest.f kj4 t147 ((Go.bits .and .i64 a1 (wrap64 ((wrap64 (2 ^ (mn (wrap64 ((-1075) - a2)) 63).toNat)) - 1))) != 0) t141).bind fun t148 => (some t148))) else (some false))) else (some false)) else (some false)) else (none)) else ((clapref1_TooLarge.f kj4 t145).bind fun t149 => (if t149 = true then (if t141 = 0 then (some (t142 == 11)) else (some false)) else (if t142 = 0 then (if ((decide (t141 < 0)) == a0) = true then ((clapref1_Sort.f kj4 t141).bind fun t150 => (if t150 ≤ 2 then ((clapref1_Nearest.f kj4 t145 false t141).bind fun t151 => (some t151)) else (some false))) else (some false)) else (some false)))))) = some r := by rw [if_neg (show ¬ (false = true) by decide)] at H; exact H
        clear H
        have H := H1
        clear H1
        obtain ⟨ji18, hji18⟩ : ∃ j_ : Int, (mn a2 1100) = j_ := ⟨_, rfl⟩
        replace H : ((clapref1_Scaled.f kj4 a1 (mx (-1075) (ji18))).bind fun t145 => (if a2 < (-1075) then (if 0 ≤ (mn (wrap64 ((-1075) - a2)) 63) then (if t142 = 0 then (if ((decide (t141 < 0)) == a0) = true then ((clapref1_Sort.f kj4 t141).bind fun t146 => (if t146 ≤ 2 then ((clapref1_Scaled.f kj4 (a1 / 2 ^ (mn (wrap64 ((-1075) - a2)) 63).toNat) (-1075)).bind fun t147 => ((clapref1_Nearest.f kj4 t147 ((Go.bits .and .i64 a1 (wrap64 ((wrap64 (2 ^ (mn (wrap64 ((-1075) - a2)) 63).toNat)) - 1))) != 0) t141).bind fun t148 => (some t148))) else (some false))) else (some false)) else (some false)) else (none)) else ((clapref1_TooLarge.f kj4 t145).bind fun t149 => (if t149 = true then (if t141 = 0 then (some (t142 == 11)) else (some false)) else (if t142 = 0 then (if ((decide (t141 < 0)) == a0) = true then ((clapref1_Sort.f kj4 t141).bind fun t150 => (if t150 ≤ 2 then ((clapref1_Nearest.f kj4 t145 false t141).bind fun t151 => (some t151)) else (some false))) else (some false)) else (some false)))))) = some r := by first | (rw [hji18] at H; exact H) | (simp only [hji18] at H ⊢; exact H)
        have hji18_ : (if 1100 < a2 then 1100 else a2) = ji18 := hji18
        obtain ⟨ji19, hji19⟩ : ∃ j_ : Int, (mx (-1075) (ji18)) = j_ := ⟨_, rfl⟩
        replace H : ((clapref1_Scaled.f kj4 a1 (ji19)).bind fun t145 => (if a2 < (-1075) then (if 0 ≤ (mn (wrap64 ((-1075) - a2)) 63) then (if t142 = 0 then (if ((decide (t141 < 0)) == a0) = true then ((clapref1_Sort.f kj4 t141).bind fun t146 => (if t146 ≤ 2 then ((clapref1_Scaled.f kj4 (a1 / 2 ^ (mn (wrap64 ((-1075) - a2)) 63).toNat) (-1075)).bind fun t147 => ((clapref1_Nearest.f kj4 t147 ((Go.bits .and .i64 a1 (wrap64 ((wrap64 (2 ^ (mn (wrap64 ((-1075) - a2)) 63).toNat)) - 1))) != 0) t141).bind fun t148 => (some t148))) else (some false))) else (some false)) else (some false)) else (none)) else ((clapref1_TooLarge.f kj4 t145).bind fun t149 => (if t149 = true then (if t141 = 0 then (some (t142 == 11)) else (some false)) else (if t142 = 0 then (if ((decide (t141 < 0)) == a0) = true then ((clapref1_Sort.f kj4 t141).bind fun t150 => (if t150 ≤ 2 then ((clapref1_Nearest.f kj4 t145 false t141).bind fun t151 => (some t151)) else (some false))) else (some false)) else (some false)))))) = some r := by first | (rw [hji19] at H; exact H) | (simp only [hji19] at H ⊢; exact H)
        have hji19_ : (if (-1075) < (ji18) then (ji18) else (-1075)) = ji19 := hji19
        replace H := Option.bind_eq_some_iff.mp H
        obtain ⟨t145, A200, H⟩ := H
        replace H : (if a2 < (-1075) then (if 0 ≤ (mn (wrap64 ((-1075) - a2)) 63) then (if t142 = 0 then (if ((decide (t141 < 0)) == a0) = true then ((clapref1_Sort.f kj4 t141).bind fun t146 => (if t146 ≤ 2 then ((clapref1_Scaled.f kj4 (a1 / 2 ^ (mn (wrap64 ((-1075) - a2)) 63).toNat) (-1075)).bind fun t147 => ((clapref1_Nearest.f kj4 t147 ((Go.bits .and .i64 a1 (wrap64 ((wrap64 (2 ^ (mn (wrap64 ((-1075) - a2)) 63).toNat)) - 1))) != 0) t141).bind fun t148 => (some t148))) else (some false))) else (some false)) else (some false)) else (none)) else ((clapref1_TooLarge.f kj4 t145).bind fun t149 => (if t149 = true then (if t141 = 0 then (some (t142 == 11)) else (some false)) else (if t142 = 0 then (if ((decide (t141 < 0)) == a0) = true then ((clapref1_Sort.f kj4 t141).bind fun t150 => (if t150 ≤ 2 then ((clapref1_Nearest.f kj4 t145 false t141).bind fun t151 => (some t151)) else (some false))) else (some false)) else (some false))))) = some r := H
        have A20 := Aside0.mk A200
        clear A200
        by_cases c21 : a2 < (-1075)
        · rw [if_pos c21] at H
          have c21b0 : decide (a2 < (-1075)) = true := decide_eq_true c21
          clear c21
          obtain ⟨ji22, hji22⟩ : ∃ j_ : Int, (mn (wrap64 ((-1075) - a2)) 63) = j_ := ⟨_, rfl⟩
          replace H : (if 0 ≤ (ji22) then (if t142 = 0 then (if ((decide (t141 < 0)) == a0) = true then ((clapref1_Sort.f kj4 t141).bind fun t146 => (if t146 ≤ 2 then ((clapref1_Scaled.f kj4 (a1 / 2 ^ (ji22).toNat) (-1075)).bind fun t147 => ((clapref1_Nearest.f kj4 t147 ((Go.bits .and .i64 a1 (wrap64 ((wrap64 (2 ^ (ji22).toNat)) - 1))) != 0) t141).bind fun t148 => (some t148))) else (some false))) else (some false)) else (some false)) else (none)) = some r := by first | (rw [hji22] at H; exact H) | (simp only [hji22] at H ⊢; exact H)
          (try rw [hji22] at A20)
          have hji22_ : (if 63 < (wrap64 ((-1075) - a2)) then 63 else (wrap64 ((-1075) - a2))) = ji22 := hji22
          by_cases c23 : 0 ≤ (ji22)
          · rw [if_pos c23] at H
            have c23b0 := eq_true c23
            have c23b1 : decide (0 ≤ (ji22)) = true := decide_eq_true c23
            clear c23
            by_cases c24 : t142 = 0
            · rw [if_pos c24] at H
              have c24b0 : (t142 == 0) = true := beq_iff_eq.mpr c24
              have c24b1 : (t142 != 0) = false := bne_eq_false_iff_eq.mpr c24
              clear c24
              by_cases c25 : ((decide (t141 < 0)) == a0) = true
              · rw [if_pos c25] at H
                have c25b0 : ((decide (t141 < 0)) == a0) = true := c25
                (try (have c25b1 : decide ((decide (t141 < 0)) = a0) = true := by simpa using c25))
                (try (have c25b2 : ((decide (t141 < 0)) == a0) = true := by simpa using c25))
                clear c25
                replace H := Option.bind_eq_some_iff.mp H
                obtain ⟨t146, A260, H⟩ := H
                replace H : (if t146 ≤ 2 then ((clapref1_Scaled.f kj4 (a1 / 2 ^ (ji22).toNat) (-1075)).bind fun t147 => ((clapref1_Nearest.f kj4 t147 ((Go.bits .and .i64 a1 (wrap64 ((wrap64 (2 ^ (ji22).toNat)) - 1))) != 0) t141).bind fun t148 => (some t148))) else (some false)) = some r := H
                have A26 := Aside0.mk A260
                clear A260
                by_cases c27 : t146 ≤ 2
                · rw [if_pos c27] at H
                  have c27b0 : decide (t146 ≤ 2) = true := decide_eq_true c27
                  clear c27
                  have c28b0 := eq_true (of_decide_eq_true (by first | (with_reducible assumption) | assumption) : 0 ≤ (ji22))
                  replace H := Option.bind_eq_some_iff.mp H
                  obtain ⟨t147, A290, H⟩ := H
                  replace H : ((clapref1_Nearest.f kj4 t147 ((Go.bits .and .i64 a1 (wrap64 ((wrap64 (2 ^ (ji22).toNat)) - 1))) != 0) t141).bind fun t148 => (some t148)) = some r := H
                  have A29 := Aside0.mk A290
                  clear A290
                  replace H := Option.bind_eq_some_iff.mp H
                  obtain ⟨t148, A300, H⟩ := H
                  replace H : (some t148) = some r := H
                  have A30 := Aside0.mk A300
                  clear A300
                  obtain rfl := Option.some.inj H
                  have hmn_ : min ji22.toNat 64 = ji22.toNat := Nat.min_eq_left (by omega)
                  go_wp2_with (first | ((with_reducible refine gate_callee (f := 19) rfl ?_); refine goesL_ (some 38) rfl rfl Tryd.func19 (by kernel_rfl) rfl #[.int .i64 a1, .int .i64 ji19] rfl (by (try simp only [List.map_toArray, List.map_cons, List.map_nil]); first | done | (simp only [hji19]; rfl) | rfl | (simp only [List.length_drop, List.length_take]; rfl)) ?_; (with_reducible refine (clapref1_Scaled.calls kj4 a1 ji19 t145 _ A20.out).mono ?_); rintro e w31 ⟨rfl, hb⟩; refine ⟨_, rfl, ?_⟩; have n0_ := Aside0.mk (below_step (by repeat (first | (with_reducible first | exact HB.out | apply below_alloc | apply pw_below_drewN | apply below_drew1) | exact HB.out)) hb); clear HB; have HB := n0_; clear n0_; (try clear hb); (try clear hb2); (try clear hk); (try clear hi)) | (go_at_call 20; (with_reducible refine (clapref1_Sort.calls kj4 t141 t146 _ A26.out).mono ?_); rintro e w' ⟨rfl, ⟨nd, rfl⟩⟩) | (go_at_call 19; (with_reducible refine (clapref1_Scaled.calls kj4 (a1 / 2 ^ (ji22).toNat) (-1075) t147 _ A29.out).mono ?_); rintro e w32 ⟨rfl, hb⟩; have n0_ := Aside0.mk (below_step (by repeat (first | (with_reducible first | exact HB.out | apply below_alloc | apply pw_below_drewN | apply below_drew1) | exact HB.out)) hb); clear HB; have HB := n0_; clear n0_; (try clear hb); (try clear hb2); (try clear hk); (try clear hi)) | (go_at_call 21; (with_reducible refine (clapref1_Nearest.calls kj4 t147 ((Go.bits .and .i64 a1 (wrap64 ((wrap64 (2 ^ (ji22).toNat)) - 1))) != 0) t141 t148 _ A30.out).mono ?_); rintro e w33 ⟨rfl, hb⟩; have n0_ := Aside0.mk (below_step (by repeat (first | (with_reducible first | exact HB.out | apply below_alloc | apply pw_below_drewN | apply below_drew1) | exact HB.out)) hb); clear HB; have HB := n0_; clear n0_; (try clear hb); (try clear hb2); (try clear hk); (try clear hi)))
                  go_ret
                  exact ⟨by first | rfl | (simp [errW_none, errW_some] <;> rfl) | (simp only [← hji18, ← hji19, ← hji22]; first | rfl | (simp [errW_none, errW_some] <;> rfl)) | (simp [*, errW_none, errW_some] <;> rfl), by repeat (first | (with_reducible first | exact HB.out | apply below_alloc | apply pw_below_drewN | apply below_drew1) | exact HB.out)⟩
                · rw [if_neg c27] at H
                  have c27b0 : decide (t146 ≤ 2) = false := decide_eq_false c27
                  clear c27
                  obtain rfl := Option.some.inj H
                  go_wp2_with (first | ((with_reducible refine gate_callee (f := 19) rfl ?_); refine goesL_ (some 38) rfl rfl Tryd.func19 (by kernel_rfl) rfl #[.int .i64 a1, .int .i64 ji19] rfl (by (try simp only [List.map_toArray, List.map_cons, List.map_nil]); first | done | (simp only [hji19]; rfl) | rfl | (simp only [List.length_drop, List.length_take]; rfl)) ?_; (with_reducible refine (clapref1_Scaled.calls kj4 a1 ji19 t145 _ A20.out).mono ?_); rintro e w34 ⟨rfl, hb⟩; refine ⟨_, rfl, ?_⟩; have n0_ := Aside0.mk (below_step (by repeat (first | (with_reducible first | exact HB.out | apply below_alloc | apply pw_below_drewN | apply below_drew1) | exact HB.out)) hb); clear HB; have HB := n0_; clear n0_; (try clear hb); (try clear hb2); (try clear hk); (try clear hi)) | (go_at_call 20; (with_reducible refine (clapref1_Sort.calls kj4 t141 t146 _ A26.out).mono ?_); rintro e w' ⟨rfl, ⟨nd, rfl⟩⟩))
                  go_ret
                  exact ⟨by first | rfl | (simp [errW_none, errW_some] <;> rfl) | (simp only [← hji18, ← hji19, ← hji22]; first | rfl | (simp [errW_none, errW_some] <;> rfl)) | (simp [*, errW_none, errW_some] <;> rfl), by repeat (first | (with_reducible first | exact HB.out | apply below_alloc | apply pw_below_drewN | apply below_drew1) | exact HB.out)⟩
              · rw [if_neg c25] at H
                have c25b0 : ((decide (t141 < 0)) == a0) = false := by simpa using c25
                (try (have c25b1 : decide ((decide (t141 < 0)) = a0) = false := by simpa using c25))
                (try (have c25b2 : ((decide (t141 < 0)) == a0) = false := by simpa using c25))
                (try (have c25b3 : ¬ ((decide (t141 < 0)) = a0) := by simpa using c25))
                clear c25
                obtain rfl := Option.some.inj H
                go_wp2_with (first | ((with_reducible refine gate_callee (f := 19) rfl ?_); refine goesL_ (some 38) rfl rfl Tryd.func19 (by kernel_rfl) rfl #[.int .i64 a1, .int .i64 ji19] rfl (by (try simp only [List.map_toArray, List.map_cons, List.map_nil]); first | done | (simp only [hji19]; rfl) | rfl | (simp only [List.length_drop, List.length_take]; rfl)) ?_; (with_reducible refine (clapref1_Scaled.calls kj4 a1 ji19 t145 _ A20.out).mono ?_); rintro e w35 ⟨rfl, hb⟩; refine ⟨_, rfl, ?_⟩; have n0_ := Aside0.mk (below_step (by repeat (first | (with_reducible first | exact HB.out | apply below_alloc | apply pw_below_drewN | apply below_drew1) | exact HB.out)) hb); clear HB; have HB := n0_; clear n0_; (try clear hb); (try clear hb2); (try clear hk); (try clear hi)))
                go_ret
                exact ⟨by first | rfl | (simp [errW_none, errW_some] <;> rfl) | (simp only [← hji18, ← hji19, ← hji22]; first | rfl | (simp [errW_none, errW_some] <;> rfl)) | (simp [*, errW_none, errW_some] <;> rfl), by repeat (first | (with_reducible first | exact HB.out | apply below_alloc | apply pw_below_drewN | apply below_drew1) | exact HB.out)⟩
            · rw [if_neg c24] at H
              have c24b0 : (t142 == 0) = false := beq_eq_false_iff_ne.mpr c24
              have c24b1 : (t142 != 0) = true := bne_iff_ne.mpr c24
              obtain rfl := Option.some.inj H
              go_wp2_with (first | ((with_reducible refine gate_callee (f := 19) rfl ?_); refine goesL_ (some 38) rfl rfl Tryd.func19 (by kernel_rfl) rfl #[.int .i64 a1, .int .i64 ji19] rfl (by (try simp only [List.map_toArray, List.map_cons, List.map_nil]); first | done | (simp only [hji19]; rfl) | rfl | (simp only [List.length_drop, List.length_take]; rfl)) ?_; (with_reducible refine (clapref1_Scaled.calls kj4 a1 ji19 t145 _ A20.out).mono ?_); rintro e w36 ⟨rfl, hb⟩; refine ⟨_, rfl, ?_⟩; have n0_ := Aside0.mk (below_step (by repeat (first | (with_reducible first | exact HB.out | apply below_alloc | apply pw_below_drewN | apply below_drew1) | exact HB.out)) hb); clear HB; have HB := n0_; clear n0_; (try clear hb); (try clear hb2); (try clear hk); (try clear hi)))
              go_ret
              exact ⟨by first | rfl | (simp [errW_none, errW_some] <;> rfl) | (simp only [← hji18, ← hji19, ← hji22]; first | rfl | (simp [errW_none, errW_some] <;> rfl)) | (simp [*, errW_none, errW_some] <;> rfl), by repeat (first | (with_reducible first | exact HB.out | apply below_alloc | apply pw_below_drewN | apply below_drew1) | exact HB.out)⟩
          · rw [if_neg c23] at H
            exact absurd H (by simp)
        · rw [if_neg c21] at H
          have c21b0 : decide (a2 < (-1075)) = false := decide_eq_false c21
          clear c21
          replace H := Option.bind_eq_some_iff.mp H
          obtain ⟨t149, A370, H⟩ := H
          replace H : (if t149 = true then (if t141 = 0 then (some (t142 == 11)) else (some false)) else (if t142 = 0 then (if ((decide (t141 < 0)) == a0) = true then ((clapref1_Sort.f kj4 t141).bind fun t150 => (if t150 ≤ 2 then ((clapref1_Nearest.f kj4 t145 false t141).bind fun t151 => (some t151)) else (some false))) else (some false)) else (some false))) = some r := H
          have A37 := Aside0.mk A370
          clear A370
          by_cases c38 : t149 = true
          · subst c38
            have H1 : (if t141 = 0 then (some (t142 == 11)) else (some false)) = some r := by rw [if_pos rfl] at H; exact H
            clear H
            have H := H1
            clear H1
            by_cases c39 : t141 = 0
            · rw [if_pos c39] at H
              have c39b0 : (t141 == 0) = true := beq_iff_eq.mpr c39
              have c39b1 : (t141 != 0) = false := bne_eq_false_iff_eq.mpr c39
              clear c39
              obtain rfl := Option.some.inj H
              go_wp2_with (first | ((with_reducible refine gate_callee (f := 19) rfl ?_); refine goesL_ (some 38) rfl rfl Tryd.func19 (by kernel_rfl) rfl #[.int .i64 a1, .int .i64 ji19] rfl (by (try simp only [List.map_toArray, List.map_cons, List.map_nil]); first | done | (simp only [hji19]; rfl) | rfl | (simp only [List.length_drop, List.length_take]; rfl)) ?_; (with_reducible refine (clapref1_Scaled.calls kj4 a1 ji19 t145 _ A20.out).mono ?_); rintro e w40 ⟨rfl, hb⟩; refine ⟨_, rfl, ?_⟩; have n0_ := Aside0.mk (below_step (by repeat (first | (with_reducible first | exact HB.out | apply below_alloc | apply pw_below_drewN | apply below_drew1) | exact HB.out)) hb); clear HB; have HB := n0_; clear n0_; (try clear hb); (try clear hb2); (try clear hk); (try clear hi)) | ((with_reducible refine gate_callee (f := 22) rfl ?_); refine goesL_ (some 73) rfl rfl Tryd.func22 (by kernel_rfl) rfl #[.string t145] rfl (by (try simp only [List.map_toArray, List.map_cons, List.map_nil]); first | done | rfl | (simp only [List.length_drop, List.length_take]; rfl)) ?_; (with_reducible refine (clapref1_TooLarge.calls kj4 t145 true _ A37.out).mono ?_); rintro e w41 ⟨rfl, hb⟩; refine ⟨_, rfl, ?_⟩; have n0_ := Aside0.mk (below_step (by repeat (first | (with_reducible first | exact HB.out | apply below_alloc | apply pw_below_drewN | apply below_drew1) | exact HB.out)) hb); clear HB; have HB := n0_; clear n0_; (try clear hb); (try clear hb2); (try clear hk); (try clear hi)))
              go_ret
              exact ⟨by first | rfl | (simp [errW_none, errW_some] <;> rfl) | (simp only [← hji18, ← hji19]; first | rfl | (simp [errW_none, errW_some] <;> rfl)) | (simp [*, errW_none, errW_some] <;> rfl), by repeat (first | (with_reducible first | exact HB.out | apply below_alloc | apply pw_below_drewN | apply below_drew1) | exact HB.out)⟩
            · rw [if_neg c39] at H
              have c39b0 : (t141 == 0) = false := beq_eq_false_iff_ne.mpr c39
              have c39b1 : (t141 != 0) = true := bne_iff_ne.mpr c39
              obtain rfl := Option.some.inj H
              go_wp2_with (first | ((with_reducible refine gate_callee (f := 19) rfl ?_); refine goesL_ (some 38) rfl rfl Tryd.func19 (by kernel_rfl) rfl #[.int .i64 a1, .int .i64 ji19] rfl (by (try simp only [List.map_toArray, List.map_cons, List.map_nil]); first | done | (simp only [hji19]; rfl) | rfl | (simp only [List.length_drop, List.length_take]; rfl)) ?_; (with_reducible refine (clapref1_Scaled.calls kj4 a1 ji19 t145 _ A20.out).mono ?_); rintro e w42 ⟨rfl, hb⟩; refine ⟨_, rfl, ?_⟩; have n0_ := Aside0.mk (below_step (by repeat (first | (with_reducible first | exact HB.out | apply below_alloc | apply pw_below_drewN | apply below_drew1) | exact HB.out)) hb); clear HB; have HB := n0_; clear n0_; (try clear hb); (try clear hb2); (try clear hk); (try clear hi)) | ((with_reducible refine gate_callee (f := 22) rfl ?_); refine goesL_ (some 73) rfl rfl Tryd.func22 (by kernel_rfl) rfl #[.string t145] rfl (by (try simp only [List.map_toArray, List.map_cons, List.map_nil]); first | done | rfl | (simp only [List.length_drop, List.length_take]; rfl)) ?_; (with_reducible refine (clapref1_TooLarge.calls kj4 t145 true _ A37.out).mono ?_); rintro e w43 ⟨rfl, hb⟩; refine ⟨_, rfl, ?_⟩; have n0_ := Aside0.mk (below_step (by repeat (first | (with_reducible first | exact HB.out | apply below_alloc | apply pw_below_drewN | apply below_drew1) | exact HB.out)) hb); clear HB; have HB := n0_; clear n0_; (try clear hb); (try clear hb2); (try clear hk); (try clear hi)))
              go_ret
              exact ⟨by first | rfl | (simp [errW_none, errW_some] <;> rfl) | (simp only [← hji18, ← hji19]; first | rfl | (simp [errW_none, errW_some] <;> rfl)) | (simp [*, errW_none, errW_some] <;> rfl), by repeat (first | (with_reducible first | exact HB.out | apply below_alloc | apply pw_below_drewN | apply below_drew1) | exact HB.out)⟩
          · replace c38 := Bool.eq_false_iff.mpr c38
            subst c38
            have H1 : (if t142 = 0 then (if ((decide (t141 < 0)) == a0) = true then ((clapref1_Sort.f kj4 t141).bind fun t150 => (if t150 ≤ 2 then ((clapref1_Nearest.f kj4 t145 false t141).bind fun t151 => (some t151)) else (some false))) else (some false)) else (some false)) = some r := by rw [if_neg (show ¬ (false = true) by decide)] at H; exact H
            clear H
            have H := H1
            clear H1
            by_cases c44 : t142 = 0
            · rw [if_pos c44] at H
              have c44b0 : (t142 == 0) = true := beq_iff_eq.mpr c44
              have c44b1 : (t142 != 0) = false := bne_eq_false_iff_eq.mpr c44
              clear c44
              by_cases c45 : ((decide (t141 < 0)) == a0) = true
              · rw [if_pos c45] at H
                have c45b0 : ((decide (t141 < 0)) == a0) = true := c45
                (try (have c45b1 : decide ((decide (t141 < 0)) = a0) = true := by simpa using c45))
                (try (have c45b2 : ((decide (t141 < 0)) == a0) = true := by simpa using c45))
                clear c45
                replace H := Option.bind_eq_some_iff.mp H
                obtain ⟨t150, A460, H⟩ := H
                replace H : (if t150 ≤ 2 then ((clapref1_Nearest.f kj4 t145 false t141).bind fun t151 => (some t151)) else (some false)) = some r := H
                have A46 := Aside0.mk A460
                clear A460
                by_cases c47 : t150 ≤ 2
                · rw [if_pos c47] at H
                  have c47b0 : decide (t150 ≤ 2) = true := decide_eq_true c47
                  clear c47
                  replace H := Option.bind_eq_some_iff.mp H
                  obtain ⟨t151, A480, H⟩ := H
                  replace H : (some t151) = some r := H
                  have A48 := Aside0.mk A480
                  clear A480
                  obtain rfl := Option.some.inj H
                  go_wp2_with (first | ((with_reducible refine gate_callee (f := 19) rfl ?_); refine goesL_ (some 38) rfl rfl Tryd.func19 (by kernel_rfl) rfl #[.int .i64 a1, .int .i64 ji19] rfl (by (try simp only [List.map_toArray, List.map_cons, List.map_nil]); first | done | (simp only [hji19]; rfl) | rfl | (simp only [List.length_drop, List.length_take]; rfl)) ?_; (with_reducible refine (clapref1_Scaled.calls kj4 a1 ji19 t145 _ A20.out).mono ?_); rintro e w49 ⟨rfl, hb⟩; refine ⟨_, rfl, ?_⟩; have n0_ := Aside0.mk (below_step (by repeat (first | (with_reducible first | exact HB.out | apply below_alloc | apply pw_below_drewN | apply below_drew1) | exact HB.out)) hb); clear HB; have HB := n0_; clear n0_; (try clear hb); (try clear hb2); (try clear hk); (try clear hi)) | ((with_reducible refine gate_callee (f := 22) rfl ?_); refine goesL_ (some 73) rfl rfl Tryd.func22 (by kernel_rfl) rfl #[.string t145] rfl (by (try simp only [List.map_toArray, List.map_cons, List.map_nil]); first | done | rfl | (simp only [List.length_drop, List.length_take]; rfl)) ?_; (with_reducible refine (clapref1_TooLarge.calls kj4 t145 false _ A37.out).mono ?_); rintro e w50 ⟨rfl, hb⟩; refine ⟨_, rfl, ?_⟩; have n0_ := Aside0.mk (below_step (by repeat (first | (with_reducible first | exact HB.out | apply below_alloc | apply pw_below_drewN | apply below_drew1) | exact HB.out)) hb); clear HB; have HB := n0_; clear n0_; (try clear hb); (try clear hb2); (try clear hk); (try clear hi)) | (go_at_call 20; (with_reducible refine (clapref1_Sort.calls kj4 t141 t150 _ A46.out).mono ?_); rintro e w' ⟨rfl, ⟨nd, rfl⟩⟩) | (go_at_call 21; (with_reducible refine (clapref1_Nearest.calls kj4 t145 false t141 t151 _ A48.out).mono ?_); rintro e w51 ⟨rfl, hb⟩; have n0_ := Aside0.mk (below_step (by repeat (first | (with_reducible first | exact HB.out | apply below_alloc | apply pw_below_drewN | apply below_drew1) | exact HB.out)) hb); clear HB; have HB := n0_; clear n0_; (try clear hb); (try clear hb2); (try clear hk); (try clear hi)))
                  go_ret
                  exact ⟨by first | rfl | (simp [errW_none, errW_some] <;> rfl) | (simp only [← hji18, ← hji19]; first | rfl | (simp [errW_none, errW_some] <;> rfl)) | (simp [*, errW_none, errW_some] <;> rfl), by repeat (first | (with_reducible first | exact HB.out | apply below_alloc | apply pw_below_drewN | apply below_drew1) | exact HB.out)⟩
                · rw [if_neg c47] at H
                  have c47b0 : decide (t150 ≤ 2) = false := decide_eq_false c47
                  clear c47
                  obtain rfl := Option.some.inj H
                  go_wp2_with (first | ((with_reducible refine gate_callee (f := 19) rfl ?_); refine goesL_ (some 38) rfl rfl Tryd.func19 (by kernel_rfl) rfl #[.int .i64 a1, .int .i64 ji19] rfl (by (try simp only [List.map_toArray, List.map_cons, List.map_nil]); first | done | (simp only [hji19]; rfl) | rfl | (simp only [List.length_drop, List.length_take]; rfl)) ?_; (with_reducible refine (clapref1_Scaled.calls kj4 a1 ji19 t145 _ A20.out).mono ?_); rintro e w52 ⟨rfl, hb⟩; refine ⟨_, rfl, ?_⟩; have n0_ := Aside0.mk (below_step (by repeat (first | (with_reducible first | exact HB.out | apply below_alloc | apply pw_below_drewN | apply below_drew1) | exact HB.out)) hb); clear HB; have HB := n0_; clear n0_; (try clear hb); (try clear hb2); (try clear hk); (try clear hi)) | ((with_reducible refine gate_callee (f := 22) rfl ?_); refine goesL_ (some 73) rfl rfl Tryd.func22 (by kernel_rfl) rfl #[.string t145] rfl (by (try simp only [List.map_toArray, List.map_cons, List.map_nil]); first | done | rfl | (simp only [List.length_drop, List.length_take]; rfl)) ?_; (with_reducible refine (clapref1_TooLarge.calls kj4 t145 false _ A37.out).mono ?_); rintro e w53 ⟨rfl, hb⟩; refine ⟨_, rfl, ?_⟩; have n0_ := Aside0.mk (below_step (by repeat (first | (with_reducible first | exact HB.out | apply below_alloc | apply pw_below_drewN | apply below_drew1) | exact HB.out)) hb); clear HB; have HB := n0_; clear n0_; (try clear hb); (try clear hb2); (try clear hk); (try clear hi)) | (go_at_call 20; (with_reducible refine (clapref1_Sort.calls kj4 t141 t150 _ A46.out).mono ?_); rintro e w' ⟨rfl, ⟨nd, rfl⟩⟩))
                  go_ret
                  exact ⟨by first | rfl | (simp [errW_none, errW_some] <;> rfl) | (simp only [← hji18, ← hji19]; first | rfl | (simp [errW_none, errW_some] <;> rfl)) | (simp [*, errW_none, errW_some] <;> rfl), by repeat (first | (with_reducible first | exact HB.out | apply below_alloc | apply pw_below_drewN | apply below_drew1) | exact HB.out)⟩
              · rw [if_neg c45] at H
                have c45b0 : ((decide (t141 < 0)) == a0) = false := by simpa using c45
                (try (have c45b1 : decide ((decide (t141 < 0)) = a0) = false := by simpa using c45))
                (try (have c45b2 : ((decide (t141 < 0)) == a0) = false := by simpa using c45))
                (try (have c45b3 : ¬ ((decide (t141 < 0)) = a0) := by simpa using c45))
                clear c45
                obtain rfl := Option.some.inj H
                go_wp2_with (first | ((with_reducible refine gate_callee (f := 19) rfl ?_); refine goesL_ (some 38) rfl rfl Tryd.func19 (by kernel_rfl) rfl #[.int .i64 a1, .int .i64 ji19] rfl (by (try simp only [List.map_toArray, List.map_cons, List.map_nil]); first | done | (simp only [hji19]; rfl) | rfl | (simp only [List.length_drop, List.length_take]; rfl)) ?_; (with_reducible refine (clapref1_Scaled.calls kj4 a1 ji19 t145 _ A20.out).mono ?_); rintro e w54 ⟨rfl, hb⟩; refine ⟨_, rfl, ?_⟩; have n0_ := Aside0.mk (below_step (by repeat (first | (with_reducible first | exact HB.out | apply below_alloc | apply pw_below_drewN | apply below_drew1) | exact HB.out)) hb); clear HB; have HB := n0_; clear n0_; (try clear hb); (try clear hb2); (try clear hk); (try clear hi)) | ((with_reducible refine gate_callee (f := 22) rfl ?_); refine goesL_ (some 73) rfl rfl Tryd.func22 (by kernel_rfl) rfl #[.string t145] rfl (by (try simp only [List.map_toArray, List.map_cons, List.map_nil]); first | done | rfl | (simp only [List.length_drop, List.length_take]; rfl)) ?_; (with_reducible refine (clapref1_TooLarge.calls kj4 t145 false _ A37.out).mono ?_); rintro e w55 ⟨rfl, hb⟩; refine ⟨_, rfl, ?_⟩; have n0_ := Aside0.mk (below_step (by repeat (first | (with_reducible first | exact HB.out | apply below_alloc | apply pw_below_drewN | apply below_drew1) | exact HB.out)) hb); clear HB; have HB := n0_; clear n0_; (try clear hb); (try clear hb2); (try clear hk); (try clear hi)))
                go_ret
                exact ⟨by first | rfl | (simp [errW_none, errW_some] <;> rfl) | (simp only [← hji18, ← hji19]; first | rfl | (simp [errW_none, errW_some] <;> rfl)) | (simp [*, errW_none, errW_some] <;> rfl), by repeat (first | (with_reducible first | exact HB.out | apply below_alloc | apply pw_below_drewN | apply below_drew1) | exact HB.out)⟩
            · rw [if_neg c44] at H
              have c44b0 : (t142 == 0) = false := beq_eq_false_iff_ne.mpr c44
              have c44b1 : (t142 != 0) = true := bne_iff_ne.mpr c44
              obtain rfl := Option.some.inj H
              go_wp2_with (first | ((with_reducible refine gate_callee (f := 19) rfl ?_); refine goesL_ (some 38) rfl rfl Tryd.func19 (by kernel_rfl) rfl #[.int .i64 a1, .int .i64 ji19] rfl (by (try simp only [List.map_toArray, List.map_cons, List.map_nil]); first | done | (simp only [hji19]; rfl) | rfl | (simp only [List.length_drop, List.length_take]; rfl)) ?_; (with_reducible refine (clapref1_Scaled.calls kj4 a1 ji19 t145 _ A20.out).mono ?_); rintro e w56 ⟨rfl, hb⟩; refine ⟨_, rfl, ?_⟩; have n0_ := Aside0.mk (below_step (by repeat (first | (with_reducible first | exact HB.out | apply below_alloc | apply pw_below_drewN | apply below_drew1) | exact HB.out)) hb); clear HB; have HB := n0_; clear n0_; (try clear hb); (try clear hb2); (try clear hk); (try clear hi)) | ((with_reducible refine gate_callee (f := 22) rfl ?_); refine goesL_ (some 73) rfl rfl Tryd.func22 (by kernel_rfl) rfl #[.string t145] rfl (by (try simp only [List.map_toArray, List.map_cons, List.map_nil]); first | done | rfl | (simp only [List.length_drop, List.length_take]; rfl)) ?_; (with_reducible refine (clapref1_TooLarge.calls kj4 t145 false _ A37.out).mono ?_); rintro e w57 ⟨rfl, hb⟩; refine ⟨_, rfl, ?_⟩; have n0_ := Aside0.mk (below_step (by repeat (first | (with_reducible first | exact HB.out | apply below_alloc | apply pw_below_drewN | apply below_drew1) | exact HB.out)) hb); clear HB; have HB := n0_; clear n0_; (try clear hb); (try clear hb2); (try clear hk); (try clear hi)))
              go_ret
              exact ⟨by first | rfl | (simp [errW_none, errW_some] <;> rfl) | (simp only [← hji18, ← hji19]; first | rfl | (simp [errW_none, errW_some] <;> rfl)) | (simp [*, errW_none, errW_some] <;> rfl), by repeat (first | (with_reducible first | exact HB.out | apply below_alloc | apply pw_below_drewN | apply below_drew1) | exact HB.out)⟩

/-- THE ONE PURE STATEMENT of claplaw1_FloatMakes: yours. -/
def claplaw1_FloatMakes.Pure : Prop := ∀ (a0 : Bool) (a1 : Int) (a2 : Int), (Lit.int .i64 a1).wf = true → (Lit.int .i64 a2).wf = true → ∃ k, claplaw1_FloatMakes.f k a0 a1 a2 = some true
theorem claplaw1_FloatMakes.walk (P : claplaw1_FloatMakes.Pure) (a0 : Bool) (a1 : Int) (a2 : Int) (w : World) (w1 : (Lit.int .i64 a1).wf = true) (w2 : (Lit.int .i64 a2).wf = true) :
    Calls Tryd.prog 5 #[.bool a0, .int .i64 a1, .int .i64 a2] w fun e w' => e = .returned (.bool true) ∧ Below w.heap.size w w' := by
  obtain ⟨k, h⟩ := P a0 a1 a2 w1 w2
  refine (claplaw1_FloatMakes.calls k a0 a1 a2 true w h).mono ?_
  rintro e w' ⟨rfl, hd⟩
  exact ⟨rfl, hd⟩

end Go.Proofs.YtnbdmmepdmmbmaaDoor.PFm
