/- Parts of the contract of value.Cmp (over cmp.Or, cmp.Compare, strings.Compare and slices.CompareFunc with a closure; recursive), in the print's form. No statement is proved here. -/
import Derived.Test.YtilffmhmgoaejaaCmpPrim
import Derived.Test.YtilffmhmgoaejaaPlugStr
import Derived.Test.YtilffmhmgoaejaaPlugKeys
namespace Go.Proofs.Ytilffmhmgoaejaa.PVal
open Go.RowKit Go.Proofs.YtilffmhmgoaejaaW.PrintWords Go.Proofs.YtilffmhmgoaejaaW.PrintLast Go.Proofs.Ytilffmhmgoaejaa.Plug
set_option linter.unusedVariables false
set_option linter.unusedSimpArgs false
def or2 (a b : Int) : Int := if a = 0 then b else a
def cmpI (x y : Int) : Int := if x < y then -1 else if x > y then 1 else 0
def cmpB (s t : ByteArray) : Int := Lib.compareBytes (lb s) (lb t)
def ordI (n : Int) : Int := if n < 0 then wrap64 (-1 - Go.bits .and .i64 n 9223372036854775807) else n
def ordK (k n : Int) : Int := if k = 3 then ordI n else n
mutual
def cmpV : S52g S63 → S52g S63 → Int
  | ⟨k, n, s, fs⟩, b => or2 (or2 (cmpI k b.f0) (or2 (cmpI (ordK k n) (ordK k b.f1)) (cmpB s b.f2))) (cmpFs fs b.f3)
def cmpF : S63 → S63 → Int
  | ⟨s, v⟩, g => or2 (cmpB s g.f0) (cmpV v g.f1)
def cmpFs : List S63 → List S63 → Int
  | [], [] => 0
  | [], _ :: _ => -1
  | _ :: _, [] => 1
  | f :: t, g :: u => or2 (cmpF f g) (cmpFs t u)
end
theorem cmpV_eq (a b : S52g S63) : cmpV a b = or2 (or2 (cmpI a.f0 b.f0) (or2 (cmpI (ordK a.f0 a.f1) (ordK a.f0 b.f1)) (cmpB a.f2 b.f2))) (cmpFs a.f3 b.f3) := by cases a; rfl
theorem cmpF_eq (f g : S63) : cmpF f g = or2 (cmpB f.f0 g.f0) (cmpV f.f1 g.f1) := by cases f; rfl
theorem order_c (n : Int) (w : World) : Calls Try.prog 91 #[.int .i64 n] w fun e w' => e = .returned (.int .i64 (ordI n)) ∧ Drawn0 w w' :=
  value_order.calls n (ordI n) w (by unfold value_order.f ordI; split <;> rfl)
theorem cmpI_c (x y : Int) (w : World) : Calls Try.prog 93 #[.int .i64 x, .int .i64 y] w fun e w' => e = .returned (.int .i64 (cmpI x y)) ∧ Drawn0 w w' :=
  cmp_Compare_int.calls x y (cmpI x y) w (by
    unfold cmp_Compare_int.f cmpI
    simp only [cmp_isNaN_int.f, Option.bind_some, bne_self_eq_false, Bool.false_eq_true, if_false]
    split
    · rfl
    · split <;> rfl)
theorem cmpB_c (x y : ByteArray) (w : World) : Calls Try.prog 39 #[.string x, .string y] w fun e w' => e = .returned (.int .i64 (cmpB x y)) ∧ Drawn0 w w' :=
  strings_Compare.calls x y (cmpB x y) w rfl
theorem or2_0 (a : Int) : or2 a 0 = a := by unfold or2; split <;> omega
theorem or3_f (x y z : Int) : ∃ k, cmp_Or_int.f k [x, y, z] = some (or2 x (or2 y z)) := by
  have e3 : (([x, y, z] : List Int).length : Int) = 3 := rfl
  have r0 : rd [x, y, z] 0 = x := rfl
  have r1 : rd [x, y, z] 1 = y := rfl
  have r2 : rd [x, y, z] 2 = z := rfl
  have w0 : wrap64 (0 + 1) = 1 := wrap_eq (by omega) (by omega)
  have w1 : wrap64 (1 + 1) = 2 := wrap_eq (by omega) (by omega)
  have w2 : wrap64 (2 + 1) = 3 := wrap_eq (by omega) (by omega)
  refine ⟨4, ?_⟩
  unfold cmp_Or_int.f or2
  simp only [cmp_Or_int.l0, e3, r0, r1, r2, w0, w1, w2]
  by_cases hx : x = 0
  · by_cases hy : y = 0
    · by_cases hz : z = 0
      · simp [hx, hy, hz]
      · simp [hx, hy, hz]
    · simp [hx, hy]
  · simp [hx]
theorem or3_c (g : Nat) (x y z : Int) (W : World) (h : W.heap[g]? = some (.cells #[.int .i64 x, .int .i64 y, .int .i64 z] 3 (0, 0))) : Calls Try.prog 92 #[.slice (some ⟨g, 0, none⟩) 3 3] W fun e w' => e = .returned (.int .i64 (or2 x (or2 y z))) ∧ Drawn0 W w' := by
  obtain ⟨k, hk⟩ := or3_f x y z
  refine cmp_Or_int.calls k (some ⟨g, 0, none⟩) 3 [x, y, z] _ W ?_ (Nat.le_refl 3) hk
  refine Kd.C_of_reads (d := (0 : Int)) (h1 := fun _ => rfl) ⟨rfl, (show (3 : Nat) ≤ 9223372036854775807 by omega), fun _ => ⟨_, rfl, fun j hj => ?_⟩⟩
  have hj' : j < 3 := hj
  rcases (show j = 0 ∨ j = 1 ∨ j = 2 by omega) with rfl | rfl | rfl
  · exact (blk_cell h 0).trans rfl
  · exact (blk_cell h 1).trans rfl
  · exact (blk_cell h 2).trans rfl
theorem isNaN_s (x : Int) (w : World) : Calls Try.prog 107 #[.int .i64 x] w fun e w' => e = .returned (.bool false) ∧ w' = w := by
  go_enter Try.func107, Try.ntmps107
  go_wp2
  go_ret
  exact ⟨by simp, rfl⟩
theorem cmpI_s (x y : Int) (w : World) : Calls Try.prog 93 #[.int .i64 x, .int .i64 y] w fun e w' => e = .returned (.int .i64 (cmpI x y)) ∧ w' = w := by
  unfold cmpI
  go_enter Try.func93, Try.ntmps93
  go_wp2_with (go_at_call 107; refine (isNaN_s _ _).mono ?_; rintro e w' ⟨rfl, rfl⟩)
  all_goals (go_ret; refine ⟨?_, rfl⟩; refine ret_int ?_; first | omega | (split <;> first | omega | (split <;> omega)))
theorem cmpB_s (x y : ByteArray) (w : World) : Calls Try.prog 39 #[.string x, .string y] w fun e w' => e = .returned (.int .i64 (cmpB x y)) ∧ w' = w := Try.strings_Compare x y w
theorem or2_f (x y : Int) : ∃ k, cmp_Or_int.f k [x, y] = some (or2 x y) := by
  have e3 : (([x, y] : List Int).length : Int) = 2 := rfl
  have r0 : rd [x, y] 0 = x := rfl
  have r1 : rd [x, y] 1 = y := rfl
  have w0 : wrap64 (0 + 1) = 1 := wrap_eq (by omega) (by omega)
  have w1 : wrap64 (1 + 1) = 2 := wrap_eq (by omega) (by omega)
  refine ⟨3, ?_⟩
  unfold cmp_Or_int.f or2
  simp only [cmp_Or_int.l0, e3, r0, r1, w0, w1]
  by_cases hx : x = 0
  · by_cases hy : y = 0
    · simp [hx, hy]
    · simp [hx, hy]
  · simp [hx]
theorem or2_c (g : Nat) (x y : Int) (W : World) (h : W.heap[g]? = some (.cells #[.int .i64 x, .int .i64 y] 3 (0, 0))) : Calls Try.prog 92 #[.slice (some ⟨g, 0, none⟩) 2 2] W fun e w' => e = .returned (.int .i64 (or2 x y)) ∧ Drawn0 W w' := by
  obtain ⟨k, hk⟩ := or2_f x y
  refine cmp_Or_int.calls k (some ⟨g, 0, none⟩) 2 [x, y] _ W ?_ (Nat.le_refl 2) hk
  refine Kd.C_of_reads (d := (0 : Int)) (h1 := fun _ => rfl) ⟨rfl, (show (2 : Nat) ≤ 9223372036854775807 by omega), fun _ => ⟨_, rfl, fun j hj => ?_⟩⟩
  have hj' : j < 2 := hj
  rcases (show j = 0 ∨ j = 1 by omega) with rfl | rfl
  · exact (blk_cell h 0).trans rfl
  · exact (blk_cell h 1).trans rfl
/-- Cmp's contract at two values. -/
def CmpAt (x y : S52g S63) : Prop := ∀ (A : Option Addr) (c : Nat) (B : Option Addr) (d : Nat) (w : World), Kd.C k63 w A x.f3.length x.f3 → x.f3.length ≤ c → Kd.C k63 w B y.f3.length y.f3 → y.f3.length ≤ d →
  Calls Try.prog 53 #[.agg #[.int .i64 x.f0, .int .i64 x.f1, .string x.f2, .slice A x.f3.length c], .agg #[.int .i64 y.f0, .int .i64 y.f1, .string y.f2, .slice B y.f3.length d]] w fun e w' => e = .returned (.int .i64 (cmpV x y)) ∧ Below w.heap.size w w'
set_option maxHeartbeats 8000000 in
set_option maxRecDepth 1000000 in
theorem clo_c (f g : S63) (A B : Option Addr) (c d : Nat) (w : World) (hC : Kd.C k63 w A f.f1.f3.length f.f1.f3) (hc : f.f1.f3.length ≤ c) (hD : Kd.C k63 w B g.f1.f3.length g.f1.f3) (hd : g.f1.f3.length ≤ d) (IH : Hid (CmpAt f.f1 g.f1)) :
    Calls Try.prog 95 #[.agg #[.string f.f0, .int .i64 f.f1.f0, .int .i64 f.f1.f1, .string f.f1.f2, .slice A f.f1.f3.length c], .agg #[.string g.f0, .int .i64 g.f1.f0, .int .i64 g.f1.f1, .string g.f1.f2, .slice B g.f1.f3.length d]] w fun e w' => e = .returned (.int .i64 (cmpF f g)) ∧ Below w.heap.size w w' := by
  have hu52 := Try.underlying52
  have hu63 := Try.underlying63
  have HC := Lib.hid hC
  have HCC := Lib.hid hc
  have HD := Lib.hid hD
  have HDD := Lib.hid hd
  clear hC hc hD hd
  go_enter Try.func95, Try.ntmps95
  go_wp2_with fail
  obtain ⟨gb, hgb⟩ : ∃ gb, gb = w.heap.size := ⟨_, rfl⟩
  obtain ⟨W, hw2⟩ : ∃ w2, w2 = (w.alloc (.cells #[.string f.f0, .int .i64 f.f1.f0, .int .i64 f.f1.f1, .string f.f1.f2, .slice A f.f1.f3.length c] 63)).alloc (.cells #[.string g.f0, .int .i64 g.f1.f0, .int .i64 g.f1.f1, .string g.f1.f2, .slice B g.f1.f3.length d] 63) := ⟨_, rfl⟩
  rw [← hgb, ← hw2]
  have blkA : W.heap[gb]? = some (.cells #[.string f.f0, .int .i64 f.f1.f0, .int .i64 f.f1.f1, .string f.f1.f2, .slice A f.f1.f3.length c] 63 (0, 0)) := by rw [hw2, hgb]; exact (Below.heap_alloc _ _ _ (by simp)).trans (heap_alloc_new w _)
  have blkB : W.heap[gb + 1]? = some (.cells #[.string g.f0, .int .i64 g.f1.f0, .int .i64 g.f1.f1, .string g.f1.f2, .slice B g.f1.f3.length d] 63 (0, 0)) := by
    have := heap_alloc_new (w.alloc (.cells #[.string f.f0, .int .i64 f.f1.f0, .int .i64 f.f1.f1, .string f.f1.f2, .slice A f.f1.f3.length c] 63)) (.cells #[.string g.f0, .int .i64 g.f1.f0, .int .i64 g.f1.f1, .string g.f1.f2, .slice B g.f1.f3.length d] 63)
    rw [hw2, hgb]; simpa using this
  have HB := Lib.hid (show Below w.heap.size w W by rw [hw2]; exact blw_alloc (blw_alloc (Below.refl _ _) _) _)
  clear hgb hw2
  have a0 := (blk_cell blkA 0).trans rfl
  have a1 := (blk_cell blkA 1).trans rfl
  have a2 := (blk_cell blkA 2).trans rfl
  have a3 := (blk_cell blkA 3).trans rfl
  have a4 := (blk_cell blkA 4).trans rfl
  have b0 := (blk_cell blkB 0).trans rfl
  have b1 := (blk_cell blkB 1).trans rfl
  have b2 := (blk_cell blkB 2).trans rfl
  have b3 := (blk_cell blkB 3).trans rfl
  have b4 := (blk_cell blkB 4).trans rfl
  clear blkA blkB
  refine wp_region_still_tail 9 (by kernel_rfl) (by kernel_rfl) ?_
  simp only [List.take_succ_cons, List.take_zero, List.drop_succ_cons, List.drop_zero]
  repeat (first | still_step | still_call (cmpB_s _ _ _))
  try refine wpStill_nil ?_
  change wpList _ _ _ _ _ W.drew
  have HB := Lib.hid (blw_drew HB.out)
  generalize W.drew = W1 at *
  clear a0 a1 a2 a3 a4 b0 b1 b2 b3 b4
  go_wp2_with (first | (go_at_call 53; refine (IH.out A c B d _ (Kd.C_below HC.out HB.out) HCC.out (Kd.C_below HD.out HB.out) HDD.out).mono ?_; rintro e w3 ⟨rfl, hb3⟩; have HB3 := Lib.hid (HB.out.trans (hb3.mono HB.out.size)); clear hb3) | (go_at_call 92; refine (or2_c _ _ _ _ (heap_alloc_new _ _)).mono ?_; rintro e w4 ⟨rfl, ⟨nd, rfl⟩⟩))
  go_ret
  exact ⟨by rw [cmpF_eq]; try rfl, blw_drewN (blw_alloc HB3.out _) nd⟩
structure CSw (w : World) (gb : Nat) (oA oB : Obj) (W : World) : Prop where
  bel : Below w.heap.size w W
  bA : W.heap[gb]? = some oA
  bB : W.heap[gb + 1]? = some oB
theorem CSw.drewN {w W : World} {gb : Nat} {oA oB : Obj} (h : CSw w gb oA oB W) (n : Nat) : CSw w gb oA oB (W.drewN n) := ⟨blw_drewN h.bel n, h.bA, h.bB⟩
theorem CSw.drew {w W : World} {gb : Nat} {oA oB : Obj} (h : CSw w gb oA oB W) : CSw w gb oA oB W.drew := ⟨blw_drew h.bel, h.bA, h.bB⟩
theorem CSw.then_ {w W W1 : World} {gb : Nat} {oA oB : Obj} (h : CSw w gb oA oB W) (k : Below W.heap.size W W1) : CSw w gb oA oB W1 :=
  ⟨h.bel.trans (k.mono h.bel.size), (k.block gb (blk_lt h.bA)).trans h.bA, (k.block (gb + 1) (blk_lt h.bB)).trans h.bB⟩
end Go.Proofs.Ytilffmhmgoaejaa.PVal
