/- Contracts of what the fact typed runs, at its own arguments: 3 and 7 against the Ints from 1 to 5. No statement is proved here. -/
import Derived.Test.YtaalehglichejaaDoorAid
import Derived.Test.YtaalehglichejaaDoorShelf
import Derived.Test.YtaalehglichejaaDoorPTyx0
namespace Go.Proofs.YtaalehglichejaaDoor
open Go.RowKit Go.Proofs.YtaalehglichejaaDoorW.PrintWords Go.Proofs.YtaalehglichejaaDoorW.PrintLast
set_option linter.unusedVariables false
set_option linter.unusedSimpArgs false
def T0 : Value := .agg #[.int .i64 2, .string ⟨#[]⟩, .int .i64 1, .int .i64 5, .string ⟨#[]⟩, .slice none 0 0]
def V0 (n : Int) : Value := .agg #[.int .i64 2, .int .i64 n, .string ⟨#[]⟩, .slice none 0 0]
def S0 : Value := .slice none 0 0
theorem kept {w1 w2 : World} (hb : Below w1.heap.size w1 w2) (b o : Nat) (v : Value) (h : w1.cell? ⟨b, o, none⟩ = some v) : w2.cell? ⟨b, o, none⟩ = some v := pw_cell_below hb h
theorem keptF {w1 w2 : World} (hb : Below w1.heap.size w1 w2) (b o : Nat) (hlt : b < w1.heap.size) (h : w1.frozen? ⟨b, o, none⟩ = false) : w2.frozen? ⟨b, o, none⟩ = false := (hb.frozen (p := ⟨b, o, none⟩) hlt).trans h
/-- The call returns v, and what was there stays. -/
def Ret (v : Value) (w : World) (e : Ending) (w' : World) : Prop := e = .returned v ∧ Below w.heap.size w w' 
set_option maxHeartbeats 2000000 in
set_option maxRecDepth 100000 in
theorem size0 (w : World) : Calls Tryd.prog 33 #[T0] w (Ret (.int .i64 1) w) := by
  have HB := Lib.hid (Below.refl w.heap.size w)
  have hu := Tryd.underlying24
  have hu2 := Tryd.underlying42
  unfold T0
  go_enter Tryd.func33, Tryd.ntmps33
  go_wp2_with fail
  refine wp_loop_rounds 1 ?_
  rw [rounds_succ]
  go_wp2_with fail
  go_ret
  exact ⟨by first | rfl | (simp [*]; done) | (simp [*] <;> rfl), (by repeat (first | exact HB.out | apply blw_alloc | apply blw_drewN | apply blw_drew | (refine Below.setCell ?_ ?_ _; rotate_left; (first | exact Nat.le_refl _ | (simp; done) | (simp; omega)))))⟩

set_option maxHeartbeats 2000000 in
set_option maxRecDepth 100000 in
theorem deep0 (w : World) : Calls Tryd.prog 34 #[T0] w (Ret (.int .i64 1) w) := by
  have HB := Lib.hid (Below.refl w.heap.size w)
  have hu := Tryd.underlying24
  have hu2 := Tryd.underlying42
  unfold T0
  go_enter Tryd.func34, Tryd.ntmps34
  go_wp2_with fail
  refine wp_loop_rounds 1 ?_
  rw [rounds_succ]
  go_wp2_with fail
  go_ret
  exact ⟨by first | rfl | (simp [*]; done) | (simp [*] <;> rfl), (by repeat (first | exact HB.out | apply blw_alloc | apply blw_drewN | apply blw_drew | (refine Below.setCell ?_ ?_ _; rotate_left; (first | exact Nat.le_refl _ | (simp; done) | (simp; omega)))))⟩

set_option maxHeartbeats 2000000 in
set_option maxRecDepth 100000 in
theorem bounds0 (w : World) : Calls Tryd.prog 63 #[.int .i64 2] w (Ret (.tuple #[.int .i64 (-9007199254740992), .int .i64 9007199254740992]) w) := by
  have HB := Lib.hid (Below.refl w.heap.size w)
  have hu := Tryd.underlying24
  have hu2 := Tryd.underlying42
  go_enter Tryd.func63, Tryd.ntmps63
  go_wp2_with fail
  go_ret2
  exact ⟨by first | rfl | (simp [*]; done) | (simp [*] <;> rfl), (by repeat (first | exact HB.out | apply blw_alloc | apply blw_drewN | apply blw_drew | (refine Below.setCell ?_ ?_ _; rotate_left; (first | exact Nat.le_refl _ | (simp; done) | (simp; omega)))))⟩

set_option maxHeartbeats 2000000 in
set_option maxRecDepth 100000 in
theorem unused0 (w : World) : Calls Tryd.prog 64 #[T0] w (Ret (.bool false) w) := by
  have HB := Lib.hid (Below.refl w.heap.size w)
  have hu := Tryd.underlying24
  have hu2 := Tryd.underlying42
  unfold T0
  go_enter Tryd.func64, Tryd.ntmps64
  go_wp2_with fail
  go_ret
  exact ⟨by first | rfl | (simp [*]; done) | (simp [*] <;> rfl), (by repeat (first | exact HB.out | apply blw_alloc | apply blw_drewN | apply blw_drew | (refine Below.setCell ?_ ?_ _; rotate_left; (first | exact Nat.le_refl _ | (simp; done) | (simp; omega)))))⟩

set_option maxHeartbeats 2000000 in
set_option maxRecDepth 100000 in
theorem parts0 (w : World) : Calls Tryd.prog 66 #[T0] w (Ret (.int .i64 0) w) := by
  have HB := Lib.hid (Below.refl w.heap.size w)
  have hu := Tryd.underlying24
  have hu2 := Tryd.underlying42
  unfold T0
  go_enter Tryd.func66, Tryd.ntmps66
  go_wp2_with fail
  go_ret
  exact ⟨by first | rfl | (simp [*]; done) | (simp [*] <;> rfl), (by repeat (first | exact HB.out | apply blw_alloc | apply blw_drewN | apply blw_drew | (refine Below.setCell ?_ ?_ _; rotate_left; (first | exact Nat.le_refl _ | (simp; done) | (simp; omega)))))⟩

set_option maxHeartbeats 2000000 in
set_option maxRecDepth 100000 in
theorem own0 (w : World) : Calls Tryd.prog 52 #[S0, T0] w (Ret (.int .i64 0) w) := by
  have HB := Lib.hid (Below.refl w.heap.size w)
  have hu := Tryd.underlying24
  have hu2 := Tryd.underlying42
  unfold S0 T0
  go_enter Tryd.func52, Tryd.ntmps52
  go_wp2_with (first | (go_at_call 63; refine (bounds0 _).mono ?_; rintro e w1 ⟨rfl, hb⟩; have z0 := Nat.lt_of_lt_of_le (n := w.heap.size) (by first | assumption | (simp; done) | (simp; omega)) hb.size; have c00 := kept hb w.heap.size 0 (.int .i64 2) (by first | assumption | (simp [*]; done) | (go_simp; done)); have c01 := kept hb w.heap.size 1 (.string ⟨#[]⟩) (by first | assumption | (simp [*]; done) | (go_simp; done)); have c02 := kept hb w.heap.size 2 (.int .i64 1) (by first | assumption | (simp [*]; done) | (go_simp; done)); have c03 := kept hb w.heap.size 3 (.int .i64 5) (by first | assumption | (simp [*]; done) | (go_simp; done)); have c04 := kept hb w.heap.size 4 (.string ⟨#[]⟩) (by first | assumption | (simp [*]; done) | (go_simp; done)); have c05 := kept hb w.heap.size 5 (.slice none 0 0) (by first | assumption | (simp [*]; done) | (go_simp; done)); have f00 := keptF hb w.heap.size 0 (by first | assumption | (simp; done) | (simp; omega)) (by first | assumption | (simp [*]; done) | (go_simp; done)); have f01 := keptF hb w.heap.size 1 (by first | assumption | (simp; done) | (simp; omega)) (by first | assumption | (simp [*]; done) | (go_simp; done)); have f02 := keptF hb w.heap.size 2 (by first | assumption | (simp; done) | (simp; omega)) (by first | assumption | (simp [*]; done) | (go_simp; done)); have f03 := keptF hb w.heap.size 3 (by first | assumption | (simp; done) | (simp; omega)) (by first | assumption | (simp [*]; done) | (go_simp; done)); have f04 := keptF hb w.heap.size 4 (by first | assumption | (simp; done) | (simp; omega)) (by first | assumption | (simp [*]; done) | (go_simp; done)); have f05 := keptF hb w.heap.size 5 (by first | assumption | (simp; done) | (simp; omega)) (by first | assumption | (simp [*]; done) | (go_simp; done)); have n0 := Lib.hid (blw_then (by repeat (first | exact HB.out | apply blw_alloc | apply blw_drewN | apply blw_drew | (refine Below.setCell ?_ ?_ _; rotate_left; (first | exact Nat.le_refl _ | (simp; done) | (simp; omega))))) hb); clear HB hb; have HB := n0; clear n0) | (go_at_call 64; refine (unused0 _).mono ?_; rintro e w2 ⟨rfl, hb⟩; have z0 := Nat.lt_of_lt_of_le (n := w.heap.size) (by first | assumption | (simp; done) | (simp; omega)) hb.size; have c00 := kept hb w.heap.size 0 (.int .i64 2) (by first | assumption | (simp [*]; done) | (go_simp; done)); have c01 := kept hb w.heap.size 1 (.string ⟨#[]⟩) (by first | assumption | (simp [*]; done) | (go_simp; done)); have c02 := kept hb w.heap.size 2 (.int .i64 1) (by first | assumption | (simp [*]; done) | (go_simp; done)); have c03 := kept hb w.heap.size 3 (.int .i64 5) (by first | assumption | (simp [*]; done) | (go_simp; done)); have c04 := kept hb w.heap.size 4 (.string ⟨#[]⟩) (by first | assumption | (simp [*]; done) | (go_simp; done)); have c05 := kept hb w.heap.size 5 (.slice none 0 0) (by first | assumption | (simp [*]; done) | (go_simp; done)); have f00 := keptF hb w.heap.size 0 (by first | assumption | (simp; done) | (simp; omega)) (by first | assumption | (simp [*]; done) | (go_simp; done)); have f01 := keptF hb w.heap.size 1 (by first | assumption | (simp; done) | (simp; omega)) (by first | assumption | (simp [*]; done) | (go_simp; done)); have f02 := keptF hb w.heap.size 2 (by first | assumption | (simp; done) | (simp; omega)) (by first | assumption | (simp [*]; done) | (go_simp; done)); have f03 := keptF hb w.heap.size 3 (by first | assumption | (simp; done) | (simp; omega)) (by first | assumption | (simp [*]; done) | (go_simp; done)); have f04 := keptF hb w.heap.size 4 (by first | assumption | (simp; done) | (simp; omega)) (by first | assumption | (simp [*]; done) | (go_simp; done)); have f05 := keptF hb w.heap.size 5 (by first | assumption | (simp; done) | (simp; omega)) (by first | assumption | (simp [*]; done) | (go_simp; done)); have n0 := Lib.hid (blw_then (by repeat (first | exact HB.out | apply blw_alloc | apply blw_drewN | apply blw_drew | (refine Below.setCell ?_ ?_ _; rotate_left; (first | exact Nat.le_refl _ | (simp; done) | (simp; omega))))) hb); clear HB hb; have HB := n0; clear n0) | (go_at_call 66; refine (parts0 _).mono ?_; rintro e w3 ⟨rfl, hb⟩; have z0 := Nat.lt_of_lt_of_le (n := w.heap.size) (by first | assumption | (simp; done) | (simp; omega)) hb.size; have c00 := kept hb w.heap.size 0 (.int .i64 2) (by first | assumption | (simp [*]; done) | (go_simp; done)); have c01 := kept hb w.heap.size 1 (.string ⟨#[]⟩) (by first | assumption | (simp [*]; done) | (go_simp; done)); have c02 := kept hb w.heap.size 2 (.int .i64 1) (by first | assumption | (simp [*]; done) | (go_simp; done)); have c03 := kept hb w.heap.size 3 (.int .i64 5) (by first | assumption | (simp [*]; done) | (go_simp; done)); have c04 := kept hb w.heap.size 4 (.string ⟨#[]⟩) (by first | assumption | (simp [*]; done) | (go_simp; done)); have c05 := kept hb w.heap.size 5 (.slice none 0 0) (by first | assumption | (simp [*]; done) | (go_simp; done)); have f00 := keptF hb w.heap.size 0 (by first | assumption | (simp; done) | (simp; omega)) (by first | assumption | (simp [*]; done) | (go_simp; done)); have f01 := keptF hb w.heap.size 1 (by first | assumption | (simp; done) | (simp; omega)) (by first | assumption | (simp [*]; done) | (go_simp; done)); have f02 := keptF hb w.heap.size 2 (by first | assumption | (simp; done) | (simp; omega)) (by first | assumption | (simp [*]; done) | (go_simp; done)); have f03 := keptF hb w.heap.size 3 (by first | assumption | (simp; done) | (simp; omega)) (by first | assumption | (simp [*]; done) | (go_simp; done)); have f04 := keptF hb w.heap.size 4 (by first | assumption | (simp; done) | (simp; omega)) (by first | assumption | (simp [*]; done) | (go_simp; done)); have f05 := keptF hb w.heap.size 5 (by first | assumption | (simp; done) | (simp; omega)) (by first | assumption | (simp [*]; done) | (go_simp; done)); have n0 := Lib.hid (blw_then (by repeat (first | exact HB.out | apply blw_alloc | apply blw_drewN | apply blw_drew | (refine Below.setCell ?_ ?_ _; rotate_left; (first | exact Nat.le_refl _ | (simp; done) | (simp; omega))))) hb); clear HB hb; have HB := n0; clear n0))
  go_ret
  exact ⟨by first | rfl | (simp [*]; done) | (simp [*] <;> rfl), (by repeat (first | exact HB.out | apply blw_alloc | apply blw_drewN | apply blw_drew | (refine Below.setCell ?_ ?_ _; rotate_left; (first | exact Nat.le_refl _ | (simp; done) | (simp; omega)))))⟩

set_option maxHeartbeats 2000000 in
set_option maxRecDepth 100000 in
theorem node0 (w : World) : Calls Tryd.prog 35 #[S0, T0] w (Ret (.int .i64 0) w) := by
  have HB := Lib.hid (Below.refl w.heap.size w)
  have hu := Tryd.underlying24
  have hu2 := Tryd.underlying42
  unfold S0 T0
  go_enter Tryd.func35, Tryd.ntmps35
  go_wp2_with (first | (go_at_call 52; refine (own0 _).mono ?_; rintro e w1 ⟨rfl, hb⟩; have z0 := Nat.lt_of_lt_of_le (n := w.heap.size) (by first | assumption | (simp; done) | (simp; omega)) hb.size; have c00 := kept hb w.heap.size 0 (.int .i64 2) (by first | assumption | (simp [*]; done) | (go_simp; done)); have c01 := kept hb w.heap.size 1 (.string ⟨#[]⟩) (by first | assumption | (simp [*]; done) | (go_simp; done)); have c02 := kept hb w.heap.size 2 (.int .i64 1) (by first | assumption | (simp [*]; done) | (go_simp; done)); have c03 := kept hb w.heap.size 3 (.int .i64 5) (by first | assumption | (simp [*]; done) | (go_simp; done)); have c04 := kept hb w.heap.size 4 (.string ⟨#[]⟩) (by first | assumption | (simp [*]; done) | (go_simp; done)); have c05 := kept hb w.heap.size 5 (.slice none 0 0) (by first | assumption | (simp [*]; done) | (go_simp; done)); have f00 := keptF hb w.heap.size 0 (by first | assumption | (simp; done) | (simp; omega)) (by first | assumption | (simp [*]; done) | (go_simp; done)); have f01 := keptF hb w.heap.size 1 (by first | assumption | (simp; done) | (simp; omega)) (by first | assumption | (simp [*]; done) | (go_simp; done)); have f02 := keptF hb w.heap.size 2 (by first | assumption | (simp; done) | (simp; omega)) (by first | assumption | (simp [*]; done) | (go_simp; done)); have f03 := keptF hb w.heap.size 3 (by first | assumption | (simp; done) | (simp; omega)) (by first | assumption | (simp [*]; done) | (go_simp; done)); have f04 := keptF hb w.heap.size 4 (by first | assumption | (simp; done) | (simp; omega)) (by first | assumption | (simp [*]; done) | (go_simp; done)); have f05 := keptF hb w.heap.size 5 (by first | assumption | (simp; done) | (simp; omega)) (by first | assumption | (simp [*]; done) | (go_simp; done)); have n0 := Lib.hid (blw_then (by repeat (first | exact HB.out | apply blw_alloc | apply blw_drewN | apply blw_drew | (refine Below.setCell ?_ ?_ _; rotate_left; (first | exact Nat.le_refl _ | (simp; done) | (simp; omega))))) hb); clear HB hb; have HB := n0; clear n0))
  refine wp_loop_rounds 1 ?_
  rw [rounds_succ]
  go_wp2_with (first | (go_at_call 52; refine (own0 _).mono ?_; rintro e w1 ⟨rfl, hb⟩; have z0 := Nat.lt_of_lt_of_le (n := w.heap.size) (by first | assumption | (simp; done) | (simp; omega)) hb.size; have c00 := kept hb w.heap.size 0 (.int .i64 2) (by first | assumption | (simp [*]; done) | (go_simp; done)); have c01 := kept hb w.heap.size 1 (.string ⟨#[]⟩) (by first | assumption | (simp [*]; done) | (go_simp; done)); have c02 := kept hb w.heap.size 2 (.int .i64 1) (by first | assumption | (simp [*]; done) | (go_simp; done)); have c03 := kept hb w.heap.size 3 (.int .i64 5) (by first | assumption | (simp [*]; done) | (go_simp; done)); have c04 := kept hb w.heap.size 4 (.string ⟨#[]⟩) (by first | assumption | (simp [*]; done) | (go_simp; done)); have c05 := kept hb w.heap.size 5 (.slice none 0 0) (by first | assumption | (simp [*]; done) | (go_simp; done)); have f00 := keptF hb w.heap.size 0 (by first | assumption | (simp; done) | (simp; omega)) (by first | assumption | (simp [*]; done) | (go_simp; done)); have f01 := keptF hb w.heap.size 1 (by first | assumption | (simp; done) | (simp; omega)) (by first | assumption | (simp [*]; done) | (go_simp; done)); have f02 := keptF hb w.heap.size 2 (by first | assumption | (simp; done) | (simp; omega)) (by first | assumption | (simp [*]; done) | (go_simp; done)); have f03 := keptF hb w.heap.size 3 (by first | assumption | (simp; done) | (simp; omega)) (by first | assumption | (simp [*]; done) | (go_simp; done)); have f04 := keptF hb w.heap.size 4 (by first | assumption | (simp; done) | (simp; omega)) (by first | assumption | (simp [*]; done) | (go_simp; done)); have f05 := keptF hb w.heap.size 5 (by first | assumption | (simp; done) | (simp; omega)) (by first | assumption | (simp [*]; done) | (go_simp; done)); have n0 := Lib.hid (blw_then (by repeat (first | exact HB.out | apply blw_alloc | apply blw_drewN | apply blw_drew | (refine Below.setCell ?_ ?_ _; rotate_left; (first | exact Nat.le_refl _ | (simp; done) | (simp; omega))))) hb); clear HB hb; have HB := n0; clear n0))
  go_ret
  exact ⟨by first | rfl | (simp [*]; done) | (simp [*] <;> rfl), (by repeat (first | exact HB.out | apply blw_alloc | apply blw_drewN | apply blw_drew | (refine Below.setCell ?_ ?_ _; rotate_left; (first | exact Nat.le_refl _ | (simp; done) | (simp; omega)))))⟩

set_option maxHeartbeats 2000000 in
set_option maxRecDepth 100000 in
theorem right0 (w : World) : Calls Tryd.prog 24 #[S0, T0] w (Ret (.int .i64 0) w) := by
  have HB := Lib.hid (Below.refl w.heap.size w)
  have hu := Tryd.underlying24
  have hu2 := Tryd.underlying42
  unfold S0 T0
  go_enter Tryd.func24, Tryd.ntmps24
  go_wp2_with (first | (go_at_call 33; refine (size0 _).mono ?_; rintro e w1 ⟨rfl, hb⟩; have z0 := Nat.lt_of_lt_of_le (n := w.heap.size) (by first | assumption | (simp; done) | (simp; omega)) hb.size; have c00 := kept hb w.heap.size 0 (.int .i64 2) (by first | assumption | (simp [*]; done) | (go_simp; done)); have c01 := kept hb w.heap.size 1 (.string ⟨#[]⟩) (by first | assumption | (simp [*]; done) | (go_simp; done)); have c02 := kept hb w.heap.size 2 (.int .i64 1) (by first | assumption | (simp [*]; done) | (go_simp; done)); have c03 := kept hb w.heap.size 3 (.int .i64 5) (by first | assumption | (simp [*]; done) | (go_simp; done)); have c04 := kept hb w.heap.size 4 (.string ⟨#[]⟩) (by first | assumption | (simp [*]; done) | (go_simp; done)); have c05 := kept hb w.heap.size 5 (.slice none 0 0) (by first | assumption | (simp [*]; done) | (go_simp; done)); have f00 := keptF hb w.heap.size 0 (by first | assumption | (simp; done) | (simp; omega)) (by first | assumption | (simp [*]; done) | (go_simp; done)); have f01 := keptF hb w.heap.size 1 (by first | assumption | (simp; done) | (simp; omega)) (by first | assumption | (simp [*]; done) | (go_simp; done)); have f02 := keptF hb w.heap.size 2 (by first | assumption | (simp; done) | (simp; omega)) (by first | assumption | (simp [*]; done) | (go_simp; done)); have f03 := keptF hb w.heap.size 3 (by first | assumption | (simp; done) | (simp; omega)) (by first | assumption | (simp [*]; done) | (go_simp; done)); have f04 := keptF hb w.heap.size 4 (by first | assumption | (simp; done) | (simp; omega)) (by first | assumption | (simp [*]; done) | (go_simp; done)); have f05 := keptF hb w.heap.size 5 (by first | assumption | (simp; done) | (simp; omega)) (by first | assumption | (simp [*]; done) | (go_simp; done)); have n0 := Lib.hid (blw_then (by repeat (first | exact HB.out | apply blw_alloc | apply blw_drewN | apply blw_drew | (refine Below.setCell ?_ ?_ _; rotate_left; (first | exact Nat.le_refl _ | (simp; done) | (simp; omega))))) hb); clear HB hb; have HB := n0; clear n0) | (go_at_call 34; refine (deep0 _).mono ?_; rintro e w2 ⟨rfl, hb⟩; have z0 := Nat.lt_of_lt_of_le (n := w.heap.size) (by first | assumption | (simp; done) | (simp; omega)) hb.size; have c00 := kept hb w.heap.size 0 (.int .i64 2) (by first | assumption | (simp [*]; done) | (go_simp; done)); have c01 := kept hb w.heap.size 1 (.string ⟨#[]⟩) (by first | assumption | (simp [*]; done) | (go_simp; done)); have c02 := kept hb w.heap.size 2 (.int .i64 1) (by first | assumption | (simp [*]; done) | (go_simp; done)); have c03 := kept hb w.heap.size 3 (.int .i64 5) (by first | assumption | (simp [*]; done) | (go_simp; done)); have c04 := kept hb w.heap.size 4 (.string ⟨#[]⟩) (by first | assumption | (simp [*]; done) | (go_simp; done)); have c05 := kept hb w.heap.size 5 (.slice none 0 0) (by first | assumption | (simp [*]; done) | (go_simp; done)); have f00 := keptF hb w.heap.size 0 (by first | assumption | (simp; done) | (simp; omega)) (by first | assumption | (simp [*]; done) | (go_simp; done)); have f01 := keptF hb w.heap.size 1 (by first | assumption | (simp; done) | (simp; omega)) (by first | assumption | (simp [*]; done) | (go_simp; done)); have f02 := keptF hb w.heap.size 2 (by first | assumption | (simp; done) | (simp; omega)) (by first | assumption | (simp [*]; done) | (go_simp; done)); have f03 := keptF hb w.heap.size 3 (by first | assumption | (simp; done) | (simp; omega)) (by first | assumption | (simp [*]; done) | (go_simp; done)); have f04 := keptF hb w.heap.size 4 (by first | assumption | (simp; done) | (simp; omega)) (by first | assumption | (simp [*]; done) | (go_simp; done)); have f05 := keptF hb w.heap.size 5 (by first | assumption | (simp; done) | (simp; omega)) (by first | assumption | (simp [*]; done) | (go_simp; done)); have n0 := Lib.hid (blw_then (by repeat (first | exact HB.out | apply blw_alloc | apply blw_drewN | apply blw_drew | (refine Below.setCell ?_ ?_ _; rotate_left; (first | exact Nat.le_refl _ | (simp; done) | (simp; omega))))) hb); clear HB hb; have HB := n0; clear n0) | (go_at_call 35; refine (node0 _).mono ?_; rintro e w3 ⟨rfl, hb⟩; have z0 := Nat.lt_of_lt_of_le (n := w.heap.size) (by first | assumption | (simp; done) | (simp; omega)) hb.size; have c00 := kept hb w.heap.size 0 (.int .i64 2) (by first | assumption | (simp [*]; done) | (go_simp; done)); have c01 := kept hb w.heap.size 1 (.string ⟨#[]⟩) (by first | assumption | (simp [*]; done) | (go_simp; done)); have c02 := kept hb w.heap.size 2 (.int .i64 1) (by first | assumption | (simp [*]; done) | (go_simp; done)); have c03 := kept hb w.heap.size 3 (.int .i64 5) (by first | assumption | (simp [*]; done) | (go_simp; done)); have c04 := kept hb w.heap.size 4 (.string ⟨#[]⟩) (by first | assumption | (simp [*]; done) | (go_simp; done)); have c05 := kept hb w.heap.size 5 (.slice none 0 0) (by first | assumption | (simp [*]; done) | (go_simp; done)); have f00 := keptF hb w.heap.size 0 (by first | assumption | (simp; done) | (simp; omega)) (by first | assumption | (simp [*]; done) | (go_simp; done)); have f01 := keptF hb w.heap.size 1 (by first | assumption | (simp; done) | (simp; omega)) (by first | assumption | (simp [*]; done) | (go_simp; done)); have f02 := keptF hb w.heap.size 2 (by first | assumption | (simp; done) | (simp; omega)) (by first | assumption | (simp [*]; done) | (go_simp; done)); have f03 := keptF hb w.heap.size 3 (by first | assumption | (simp; done) | (simp; omega)) (by first | assumption | (simp [*]; done) | (go_simp; done)); have f04 := keptF hb w.heap.size 4 (by first | assumption | (simp; done) | (simp; omega)) (by first | assumption | (simp [*]; done) | (go_simp; done)); have f05 := keptF hb w.heap.size 5 (by first | assumption | (simp; done) | (simp; omega)) (by first | assumption | (simp [*]; done) | (go_simp; done)); have n0 := Lib.hid (blw_then (by repeat (first | exact HB.out | apply blw_alloc | apply blw_drewN | apply blw_drew | (refine Below.setCell ?_ ?_ _; rotate_left; (first | exact Nat.le_refl _ | (simp; done) | (simp; omega))))) hb); clear HB hb; have HB := n0; clear n0))
  go_ret
  exact ⟨by first | rfl | (simp [*]; done) | (simp [*] <;> rfl), (by repeat (first | exact HB.out | apply blw_alloc | apply blw_drewN | apply blw_drew | (refine Below.setCell ?_ ?_ _; rotate_left; (first | exact Nat.le_refl _ | (simp; done) | (simp; omega)))))⟩

set_option maxHeartbeats 2000000 in
set_option maxRecDepth 100000 in
theorem check0 (w : World) : Calls Tryd.prog 23 #[S0] w (Ret (.int .i64 0) w) := by
  have HB := Lib.hid (Below.refl w.heap.size w)
  have hu := Tryd.underlying24
  have hu2 := Tryd.underlying42
  unfold S0
  go_enter Tryd.func23, Tryd.ntmps23
  go_wp2_with fail
  refine wp_loop_rounds 1 ?_
  rw [rounds_succ]
  go_wp2_with fail
  refine wp_loop_rounds 1 ?_
  rw [rounds_succ]
  go_wp2_with fail
  refine wp_loop_rounds 1 ?_
  rw [rounds_succ]
  go_wp2_with fail
  go_ret
  exact ⟨by first | rfl | (simp [*]; done) | (simp [*] <;> rfl), (by repeat (first | exact HB.out | apply blw_alloc | apply blw_drewN | apply blw_drew | (refine Below.setCell ?_ ?_ _; rotate_left; (first | exact Nat.le_refl _ | (simp; done) | (simp; omega)))))⟩

set_option maxHeartbeats 2000000 in
set_option maxRecDepth 100000 in
theorem Right0 (w : World) : Calls Tryd.prog 18 #[S0, T0] w (Ret (.int .i64 0) w) := by
  have HB := Lib.hid (Below.refl w.heap.size w)
  have hu := Tryd.underlying24
  have hu2 := Tryd.underlying42
  unfold S0 T0
  go_enter Tryd.func18, Tryd.ntmps18
  go_wp2_with (first | (go_at_call 23; refine (check0 _).mono ?_; rintro e w1 ⟨rfl, hb⟩; have z0 := Nat.lt_of_lt_of_le (n := w.heap.size) (by first | assumption | (simp; done) | (simp; omega)) hb.size; have c00 := kept hb w.heap.size 0 (.int .i64 2) (by first | assumption | (simp [*]; done) | (go_simp; done)); have c01 := kept hb w.heap.size 1 (.string ⟨#[]⟩) (by first | assumption | (simp [*]; done) | (go_simp; done)); have c02 := kept hb w.heap.size 2 (.int .i64 1) (by first | assumption | (simp [*]; done) | (go_simp; done)); have c03 := kept hb w.heap.size 3 (.int .i64 5) (by first | assumption | (simp [*]; done) | (go_simp; done)); have c04 := kept hb w.heap.size 4 (.string ⟨#[]⟩) (by first | assumption | (simp [*]; done) | (go_simp; done)); have c05 := kept hb w.heap.size 5 (.slice none 0 0) (by first | assumption | (simp [*]; done) | (go_simp; done)); have f00 := keptF hb w.heap.size 0 (by first | assumption | (simp; done) | (simp; omega)) (by first | assumption | (simp [*]; done) | (go_simp; done)); have f01 := keptF hb w.heap.size 1 (by first | assumption | (simp; done) | (simp; omega)) (by first | assumption | (simp [*]; done) | (go_simp; done)); have f02 := keptF hb w.heap.size 2 (by first | assumption | (simp; done) | (simp; omega)) (by first | assumption | (simp [*]; done) | (go_simp; done)); have f03 := keptF hb w.heap.size 3 (by first | assumption | (simp; done) | (simp; omega)) (by first | assumption | (simp [*]; done) | (go_simp; done)); have f04 := keptF hb w.heap.size 4 (by first | assumption | (simp; done) | (simp; omega)) (by first | assumption | (simp [*]; done) | (go_simp; done)); have f05 := keptF hb w.heap.size 5 (by first | assumption | (simp; done) | (simp; omega)) (by first | assumption | (simp [*]; done) | (go_simp; done)); have n0 := Lib.hid (blw_then (by repeat (first | exact HB.out | apply blw_alloc | apply blw_drewN | apply blw_drew | (refine Below.setCell ?_ ?_ _; rotate_left; (first | exact Nat.le_refl _ | (simp; done) | (simp; omega))))) hb); clear HB hb; have HB := n0; clear n0) | (go_at_call 24; refine (right0 _).mono ?_; rintro e w2 ⟨rfl, hb⟩; have z0 := Nat.lt_of_lt_of_le (n := w.heap.size) (by first | assumption | (simp; done) | (simp; omega)) hb.size; have c00 := kept hb w.heap.size 0 (.int .i64 2) (by first | assumption | (simp [*]; done) | (go_simp; done)); have c01 := kept hb w.heap.size 1 (.string ⟨#[]⟩) (by first | assumption | (simp [*]; done) | (go_simp; done)); have c02 := kept hb w.heap.size 2 (.int .i64 1) (by first | assumption | (simp [*]; done) | (go_simp; done)); have c03 := kept hb w.heap.size 3 (.int .i64 5) (by first | assumption | (simp [*]; done) | (go_simp; done)); have c04 := kept hb w.heap.size 4 (.string ⟨#[]⟩) (by first | assumption | (simp [*]; done) | (go_simp; done)); have c05 := kept hb w.heap.size 5 (.slice none 0 0) (by first | assumption | (simp [*]; done) | (go_simp; done)); have f00 := keptF hb w.heap.size 0 (by first | assumption | (simp; done) | (simp; omega)) (by first | assumption | (simp [*]; done) | (go_simp; done)); have f01 := keptF hb w.heap.size 1 (by first | assumption | (simp; done) | (simp; omega)) (by first | assumption | (simp [*]; done) | (go_simp; done)); have f02 := keptF hb w.heap.size 2 (by first | assumption | (simp; done) | (simp; omega)) (by first | assumption | (simp [*]; done) | (go_simp; done)); have f03 := keptF hb w.heap.size 3 (by first | assumption | (simp; done) | (simp; omega)) (by first | assumption | (simp [*]; done) | (go_simp; done)); have f04 := keptF hb w.heap.size 4 (by first | assumption | (simp; done) | (simp; omega)) (by first | assumption | (simp [*]; done) | (go_simp; done)); have f05 := keptF hb w.heap.size 5 (by first | assumption | (simp; done) | (simp; omega)) (by first | assumption | (simp [*]; done) | (go_simp; done)); have n0 := Lib.hid (blw_then (by repeat (first | exact HB.out | apply blw_alloc | apply blw_drewN | apply blw_drew | (refine Below.setCell ?_ ?_ _; rotate_left; (first | exact Nat.le_refl _ | (simp; done) | (simp; omega))))) hb); clear HB hb; have HB := n0; clear n0))
  go_ret
  exact ⟨by first | rfl | (simp [*]; done) | (simp [*] <;> rfl), (by repeat (first | exact HB.out | apply blw_alloc | apply blw_drewN | apply blw_drew | (refine Below.setCell ?_ ?_ _; rotate_left; (first | exact Nat.le_refl _ | (simp; done) | (simp; omega)))))⟩

set_option maxHeartbeats 2000000 in
set_option maxRecDepth 100000 in
theorem vsize0 (n : Int) (w : World) : Calls Tryd.prog 25 #[V0 n] w (Ret (.int .i64 1) w) := by
  have HB := Lib.hid (Below.refl w.heap.size w)
  have hu := Tryd.underlying24
  have hu2 := Tryd.underlying42
  unfold V0
  go_enter Tryd.func25, Tryd.ntmps25
  go_wp2_with fail
  refine wp_loop_rounds 1 ?_
  rw [rounds_succ]
  go_wp2_with fail
  go_ret
  exact ⟨by first | rfl | (simp [*]; done) | (simp [*] <;> rfl), (by repeat (first | exact HB.out | apply blw_alloc | apply blw_drewN | apply blw_drew | (refine Below.setCell ?_ ?_ _; rotate_left; (first | exact Nat.le_refl _ | (simp; done) | (simp; omega)))))⟩

set_option maxHeartbeats 2000000 in
set_option maxRecDepth 100000 in
theorem vdeep0 (n : Int) (w : World) : Calls Tryd.prog 26 #[V0 n] w (Ret (.int .i64 1) w) := by
  have HB := Lib.hid (Below.refl w.heap.size w)
  have hu := Tryd.underlying24
  have hu2 := Tryd.underlying42
  unfold V0
  go_enter Tryd.func26, Tryd.ntmps26
  go_wp2_with fail
  refine wp_loop_rounds 1 ?_
  rw [rounds_succ]
  go_wp2_with fail
  go_ret
  exact ⟨by first | rfl | (simp [*]; done) | (simp [*] <;> rfl), (by repeat (first | exact HB.out | apply blw_alloc | apply blw_drewN | apply blw_drew | (refine Below.setCell ?_ ?_ _; rotate_left; (first | exact Nat.le_refl _ | (simp; done) | (simp; omega)))))⟩

set_option maxHeartbeats 2000000 in
set_option maxRecDepth 100000 in
theorem vscalar0 (w : World) : Calls Tryd.prog 53 #[.int .i64 2] w (Ret (.bool true) w) := by
  have HB := Lib.hid (Below.refl w.heap.size w)
  have hu := Tryd.underlying24
  have hu2 := Tryd.underlying42
  go_enter Tryd.func53, Tryd.ntmps53
  go_wp2_with fail
  go_ret
  exact ⟨by first | rfl | (simp [*]; done) | (simp [*] <;> rfl), (by repeat (first | exact HB.out | apply blw_alloc | apply blw_drewN | apply blw_drew | (refine Below.setCell ?_ ?_ _; rotate_left; (first | exact Nat.le_refl _ | (simp; done) | (simp; omega)))))⟩

set_option maxHeartbeats 2000000 in
set_option maxRecDepth 100000 in
theorem vunused0 (n : Int) (w : World) : Calls Tryd.prog 36 #[V0 n] w (Ret (.bool false) w) := by
  have HB := Lib.hid (Below.refl w.heap.size w)
  have hu := Tryd.underlying24
  have hu2 := Tryd.underlying42
  unfold V0
  go_enter Tryd.func36, Tryd.ntmps36
  go_wp2_with (first | (go_at_call 53; refine (vscalar0 _).mono ?_; rintro e w1 ⟨rfl, hb⟩; have z0 := Nat.lt_of_lt_of_le (n := w.heap.size) (by first | assumption | (simp; done) | (simp; omega)) hb.size; have c00 := kept hb w.heap.size 0 (.int .i64 2) (by first | assumption | (simp [*]; done) | (go_simp; done)); have c01 := kept hb w.heap.size 1 (.int .i64 n) (by first | assumption | (simp [*]; done) | (go_simp; done)); have c02 := kept hb w.heap.size 2 (.string ⟨#[]⟩) (by first | assumption | (simp [*]; done) | (go_simp; done)); have c03 := kept hb w.heap.size 3 (.slice none 0 0) (by first | assumption | (simp [*]; done) | (go_simp; done)); have f00 := keptF hb w.heap.size 0 (by first | assumption | (simp; done) | (simp; omega)) (by first | assumption | (simp [*]; done) | (go_simp; done)); have f01 := keptF hb w.heap.size 1 (by first | assumption | (simp; done) | (simp; omega)) (by first | assumption | (simp [*]; done) | (go_simp; done)); have f02 := keptF hb w.heap.size 2 (by first | assumption | (simp; done) | (simp; omega)) (by first | assumption | (simp [*]; done) | (go_simp; done)); have f03 := keptF hb w.heap.size 3 (by first | assumption | (simp; done) | (simp; omega)) (by first | assumption | (simp [*]; done) | (go_simp; done)); have n0 := Lib.hid (blw_then (by repeat (first | exact HB.out | apply blw_alloc | apply blw_drewN | apply blw_drew | (refine Below.setCell ?_ ?_ _; rotate_left; (first | exact Nat.le_refl _ | (simp; done) | (simp; omega))))) hb); clear HB hb; have HB := n0; clear n0))
  go_ret
  exact ⟨by first | rfl | (simp [*]; done) | (simp [*] <;> rfl), (by repeat (first | exact HB.out | apply blw_alloc | apply blw_drewN | apply blw_drew | (refine Below.setCell ?_ ?_ _; rotate_left; (first | exact Nat.le_refl _ | (simp; done) | (simp; omega)))))⟩

set_option maxHeartbeats 2000000 in
set_option maxRecDepth 100000 in
theorem vnumber0 (n : Int) (w : World) (h0 : -9007199254740992 ≤ n) (h1 : n ≤ 9007199254740992) : Calls Tryd.prog 37 #[V0 n] w (Ret (.bool true) w) := by
  have HB := Lib.hid (Below.refl w.heap.size w)
  have hu := Tryd.underlying24
  have hu2 := Tryd.underlying42
  unfold V0
  have d1 : decide (-9007199254740992 ≤ n) = true := decide_eq_true h0
  have d2 : decide (n ≤ 9007199254740992) = true := decide_eq_true h1
  go_enter Tryd.func37, Tryd.ntmps37
  go_wp2_with fail
  go_ret
  exact ⟨by first | rfl | (simp [*]; done) | (simp [*] <;> rfl), (by repeat (first | exact HB.out | apply blw_alloc | apply blw_drewN | apply blw_drew | (refine Below.setCell ?_ ?_ _; rotate_left; (first | exact Nat.le_refl _ | (simp; done) | (simp; omega)))))⟩

set_option maxHeartbeats 2000000 in
set_option maxRecDepth 100000 in
theorem vfields0 (n : Int) (w : World) : Calls Tryd.prog 38 #[V0 n] w (Ret (.int .i64 0) w) := by
  have HB := Lib.hid (Below.refl w.heap.size w)
  have hu := Tryd.underlying24
  have hu2 := Tryd.underlying42
  unfold V0
  go_enter Tryd.func38, Tryd.ntmps38
  go_wp2_with fail
  go_ret
  exact ⟨by first | rfl | (simp [*]; done) | (simp [*] <;> rfl), (by repeat (first | exact HB.out | apply blw_alloc | apply blw_drewN | apply blw_drew | (refine Below.setCell ?_ ?_ _; rotate_left; (first | exact Nat.le_refl _ | (simp; done) | (simp; omega)))))⟩

set_option maxHeartbeats 2000000 in
set_option maxRecDepth 100000 in
theorem vnode0 (n : Int) (w : World) (h0 : -9007199254740992 ≤ n) (h1 : n ≤ 9007199254740992) : Calls Tryd.prog 27 #[V0 n, .bool true] w (Ret (.int .i64 0) w) := by
  have HB := Lib.hid (Below.refl w.heap.size w)
  have hu := Tryd.underlying24
  have hu2 := Tryd.underlying42
  unfold V0
  go_enter Tryd.func27, Tryd.ntmps27
  go_wp2_with (first | (go_at_call 36; refine (vunused0 n _).mono ?_; rintro e w1 ⟨rfl, hb⟩; have z0 := Nat.lt_of_lt_of_le (n := w.heap.size) (by first | assumption | (simp; done) | (simp; omega)) hb.size; have c00 := kept hb w.heap.size 0 (.int .i64 2) (by first | assumption | (simp [*]; done) | (go_simp; done)); have c01 := kept hb w.heap.size 1 (.int .i64 n) (by first | assumption | (simp [*]; done) | (go_simp; done)); have c02 := kept hb w.heap.size 2 (.string ⟨#[]⟩) (by first | assumption | (simp [*]; done) | (go_simp; done)); have c03 := kept hb w.heap.size 3 (.slice none 0 0) (by first | assumption | (simp [*]; done) | (go_simp; done)); have f00 := keptF hb w.heap.size 0 (by first | assumption | (simp; done) | (simp; omega)) (by first | assumption | (simp [*]; done) | (go_simp; done)); have f01 := keptF hb w.heap.size 1 (by first | assumption | (simp; done) | (simp; omega)) (by first | assumption | (simp [*]; done) | (go_simp; done)); have f02 := keptF hb w.heap.size 2 (by first | assumption | (simp; done) | (simp; omega)) (by first | assumption | (simp [*]; done) | (go_simp; done)); have f03 := keptF hb w.heap.size 3 (by first | assumption | (simp; done) | (simp; omega)) (by first | assumption | (simp [*]; done) | (go_simp; done)); have n0 := Lib.hid (blw_then (by repeat (first | exact HB.out | apply blw_alloc | apply blw_drewN | apply blw_drew | (refine Below.setCell ?_ ?_ _; rotate_left; (first | exact Nat.le_refl _ | (simp; done) | (simp; omega))))) hb); clear HB hb; have HB := n0; clear n0) | (go_at_call 37; refine (vnumber0 n _ h0 h1).mono ?_; rintro e w2 ⟨rfl, hb⟩; have z0 := Nat.lt_of_lt_of_le (n := w.heap.size) (by first | assumption | (simp; done) | (simp; omega)) hb.size; have c00 := kept hb w.heap.size 0 (.int .i64 2) (by first | assumption | (simp [*]; done) | (go_simp; done)); have c01 := kept hb w.heap.size 1 (.int .i64 n) (by first | assumption | (simp [*]; done) | (go_simp; done)); have c02 := kept hb w.heap.size 2 (.string ⟨#[]⟩) (by first | assumption | (simp [*]; done) | (go_simp; done)); have c03 := kept hb w.heap.size 3 (.slice none 0 0) (by first | assumption | (simp [*]; done) | (go_simp; done)); have f00 := keptF hb w.heap.size 0 (by first | assumption | (simp; done) | (simp; omega)) (by first | assumption | (simp [*]; done) | (go_simp; done)); have f01 := keptF hb w.heap.size 1 (by first | assumption | (simp; done) | (simp; omega)) (by first | assumption | (simp [*]; done) | (go_simp; done)); have f02 := keptF hb w.heap.size 2 (by first | assumption | (simp; done) | (simp; omega)) (by first | assumption | (simp [*]; done) | (go_simp; done)); have f03 := keptF hb w.heap.size 3 (by first | assumption | (simp; done) | (simp; omega)) (by first | assumption | (simp [*]; done) | (go_simp; done)); have n0 := Lib.hid (blw_then (by repeat (first | exact HB.out | apply blw_alloc | apply blw_drewN | apply blw_drew | (refine Below.setCell ?_ ?_ _; rotate_left; (first | exact Nat.le_refl _ | (simp; done) | (simp; omega))))) hb); clear HB hb; have HB := n0; clear n0) | (go_at_call 38; refine (vfields0 n _).mono ?_; rintro e w3 ⟨rfl, hb⟩; have z0 := Nat.lt_of_lt_of_le (n := w.heap.size) (by first | assumption | (simp; done) | (simp; omega)) hb.size; have c00 := kept hb w.heap.size 0 (.int .i64 2) (by first | assumption | (simp [*]; done) | (go_simp; done)); have c01 := kept hb w.heap.size 1 (.int .i64 n) (by first | assumption | (simp [*]; done) | (go_simp; done)); have c02 := kept hb w.heap.size 2 (.string ⟨#[]⟩) (by first | assumption | (simp [*]; done) | (go_simp; done)); have c03 := kept hb w.heap.size 3 (.slice none 0 0) (by first | assumption | (simp [*]; done) | (go_simp; done)); have f00 := keptF hb w.heap.size 0 (by first | assumption | (simp; done) | (simp; omega)) (by first | assumption | (simp [*]; done) | (go_simp; done)); have f01 := keptF hb w.heap.size 1 (by first | assumption | (simp; done) | (simp; omega)) (by first | assumption | (simp [*]; done) | (go_simp; done)); have f02 := keptF hb w.heap.size 2 (by first | assumption | (simp; done) | (simp; omega)) (by first | assumption | (simp [*]; done) | (go_simp; done)); have f03 := keptF hb w.heap.size 3 (by first | assumption | (simp; done) | (simp; omega)) (by first | assumption | (simp [*]; done) | (go_simp; done)); have n0 := Lib.hid (blw_then (by repeat (first | exact HB.out | apply blw_alloc | apply blw_drewN | apply blw_drew | (refine Below.setCell ?_ ?_ _; rotate_left; (first | exact Nat.le_refl _ | (simp; done) | (simp; omega))))) hb); clear HB hb; have HB := n0; clear n0))
  refine wp_loop_rounds 1 ?_
  rw [rounds_succ]
  go_wp2_with (first | (go_at_call 36; refine (vunused0 n _).mono ?_; rintro e w1 ⟨rfl, hb⟩; have z0 := Nat.lt_of_lt_of_le (n := w.heap.size) (by first | assumption | (simp; done) | (simp; omega)) hb.size; have c00 := kept hb w.heap.size 0 (.int .i64 2) (by first | assumption | (simp [*]; done) | (go_simp; done)); have c01 := kept hb w.heap.size 1 (.int .i64 n) (by first | assumption | (simp [*]; done) | (go_simp; done)); have c02 := kept hb w.heap.size 2 (.string ⟨#[]⟩) (by first | assumption | (simp [*]; done) | (go_simp; done)); have c03 := kept hb w.heap.size 3 (.slice none 0 0) (by first | assumption | (simp [*]; done) | (go_simp; done)); have f00 := keptF hb w.heap.size 0 (by first | assumption | (simp; done) | (simp; omega)) (by first | assumption | (simp [*]; done) | (go_simp; done)); have f01 := keptF hb w.heap.size 1 (by first | assumption | (simp; done) | (simp; omega)) (by first | assumption | (simp [*]; done) | (go_simp; done)); have f02 := keptF hb w.heap.size 2 (by first | assumption | (simp; done) | (simp; omega)) (by first | assumption | (simp [*]; done) | (go_simp; done)); have f03 := keptF hb w.heap.size 3 (by first | assumption | (simp; done) | (simp; omega)) (by first | assumption | (simp [*]; done) | (go_simp; done)); have n0 := Lib.hid (blw_then (by repeat (first | exact HB.out | apply blw_alloc | apply blw_drewN | apply blw_drew | (refine Below.setCell ?_ ?_ _; rotate_left; (first | exact Nat.le_refl _ | (simp; done) | (simp; omega))))) hb); clear HB hb; have HB := n0; clear n0) | (go_at_call 37; refine (vnumber0 n _ h0 h1).mono ?_; rintro e w2 ⟨rfl, hb⟩; have z0 := Nat.lt_of_lt_of_le (n := w.heap.size) (by first | assumption | (simp; done) | (simp; omega)) hb.size; have c00 := kept hb w.heap.size 0 (.int .i64 2) (by first | assumption | (simp [*]; done) | (go_simp; done)); have c01 := kept hb w.heap.size 1 (.int .i64 n) (by first | assumption | (simp [*]; done) | (go_simp; done)); have c02 := kept hb w.heap.size 2 (.string ⟨#[]⟩) (by first | assumption | (simp [*]; done) | (go_simp; done)); have c03 := kept hb w.heap.size 3 (.slice none 0 0) (by first | assumption | (simp [*]; done) | (go_simp; done)); have f00 := keptF hb w.heap.size 0 (by first | assumption | (simp; done) | (simp; omega)) (by first | assumption | (simp [*]; done) | (go_simp; done)); have f01 := keptF hb w.heap.size 1 (by first | assumption | (simp; done) | (simp; omega)) (by first | assumption | (simp [*]; done) | (go_simp; done)); have f02 := keptF hb w.heap.size 2 (by first | assumption | (simp; done) | (simp; omega)) (by first | assumption | (simp [*]; done) | (go_simp; done)); have f03 := keptF hb w.heap.size 3 (by first | assumption | (simp; done) | (simp; omega)) (by first | assumption | (simp [*]; done) | (go_simp; done)); have n0 := Lib.hid (blw_then (by repeat (first | exact HB.out | apply blw_alloc | apply blw_drewN | apply blw_drew | (refine Below.setCell ?_ ?_ _; rotate_left; (first | exact Nat.le_refl _ | (simp; done) | (simp; omega))))) hb); clear HB hb; have HB := n0; clear n0) | (go_at_call 38; refine (vfields0 n _).mono ?_; rintro e w3 ⟨rfl, hb⟩; have z0 := Nat.lt_of_lt_of_le (n := w.heap.size) (by first | assumption | (simp; done) | (simp; omega)) hb.size; have c00 := kept hb w.heap.size 0 (.int .i64 2) (by first | assumption | (simp [*]; done) | (go_simp; done)); have c01 := kept hb w.heap.size 1 (.int .i64 n) (by first | assumption | (simp [*]; done) | (go_simp; done)); have c02 := kept hb w.heap.size 2 (.string ⟨#[]⟩) (by first | assumption | (simp [*]; done) | (go_simp; done)); have c03 := kept hb w.heap.size 3 (.slice none 0 0) (by first | assumption | (simp [*]; done) | (go_simp; done)); have f00 := keptF hb w.heap.size 0 (by first | assumption | (simp; done) | (simp; omega)) (by first | assumption | (simp [*]; done) | (go_simp; done)); have f01 := keptF hb w.heap.size 1 (by first | assumption | (simp; done) | (simp; omega)) (by first | assumption | (simp [*]; done) | (go_simp; done)); have f02 := keptF hb w.heap.size 2 (by first | assumption | (simp; done) | (simp; omega)) (by first | assumption | (simp [*]; done) | (go_simp; done)); have f03 := keptF hb w.heap.size 3 (by first | assumption | (simp; done) | (simp; omega)) (by first | assumption | (simp [*]; done) | (go_simp; done)); have n0 := Lib.hid (blw_then (by repeat (first | exact HB.out | apply blw_alloc | apply blw_drewN | apply blw_drew | (refine Below.setCell ?_ ?_ _; rotate_left; (first | exact Nat.le_refl _ | (simp; done) | (simp; omega))))) hb); clear HB hb; have HB := n0; clear n0))
  go_ret
  exact ⟨by first | rfl | (simp [*]; done) | (simp [*] <;> rfl), (by repeat (first | exact HB.out | apply blw_alloc | apply blw_drewN | apply blw_drew | (refine Below.setCell ?_ ?_ _; rotate_left; (first | exact Nat.le_refl _ | (simp; done) | (simp; omega)))))⟩

set_option maxHeartbeats 2000000 in
set_option maxRecDepth 100000 in
theorem vcheck0 (n : Int) (w : World) (h0 : -9007199254740992 ≤ n) (h1 : n ≤ 9007199254740992) : Calls Tryd.prog 19 #[V0 n] w (Ret (.int .i64 0) w) := by
  have HB := Lib.hid (Below.refl w.heap.size w)
  have hu := Tryd.underlying24
  have hu2 := Tryd.underlying42
  unfold V0
  go_enter Tryd.func19, Tryd.ntmps19
  go_wp2_with (first | (go_at_call 25; refine (vsize0 n _).mono ?_; rintro e w1 ⟨rfl, hb⟩; have z0 := Nat.lt_of_lt_of_le (n := w.heap.size) (by first | assumption | (simp; done) | (simp; omega)) hb.size; have c00 := kept hb w.heap.size 0 (.int .i64 2) (by first | assumption | (simp [*]; done) | (go_simp; done)); have c01 := kept hb w.heap.size 1 (.int .i64 n) (by first | assumption | (simp [*]; done) | (go_simp; done)); have c02 := kept hb w.heap.size 2 (.string ⟨#[]⟩) (by first | assumption | (simp [*]; done) | (go_simp; done)); have c03 := kept hb w.heap.size 3 (.slice none 0 0) (by first | assumption | (simp [*]; done) | (go_simp; done)); have f00 := keptF hb w.heap.size 0 (by first | assumption | (simp; done) | (simp; omega)) (by first | assumption | (simp [*]; done) | (go_simp; done)); have f01 := keptF hb w.heap.size 1 (by first | assumption | (simp; done) | (simp; omega)) (by first | assumption | (simp [*]; done) | (go_simp; done)); have f02 := keptF hb w.heap.size 2 (by first | assumption | (simp; done) | (simp; omega)) (by first | assumption | (simp [*]; done) | (go_simp; done)); have f03 := keptF hb w.heap.size 3 (by first | assumption | (simp; done) | (simp; omega)) (by first | assumption | (simp [*]; done) | (go_simp; done)); have n0 := Lib.hid (blw_then (by repeat (first | exact HB.out | apply blw_alloc | apply blw_drewN | apply blw_drew | (refine Below.setCell ?_ ?_ _; rotate_left; (first | exact Nat.le_refl _ | (simp; done) | (simp; omega))))) hb); clear HB hb; have HB := n0; clear n0) | (go_at_call 26; refine (vdeep0 n _).mono ?_; rintro e w2 ⟨rfl, hb⟩; have z0 := Nat.lt_of_lt_of_le (n := w.heap.size) (by first | assumption | (simp; done) | (simp; omega)) hb.size; have c00 := kept hb w.heap.size 0 (.int .i64 2) (by first | assumption | (simp [*]; done) | (go_simp; done)); have c01 := kept hb w.heap.size 1 (.int .i64 n) (by first | assumption | (simp [*]; done) | (go_simp; done)); have c02 := kept hb w.heap.size 2 (.string ⟨#[]⟩) (by first | assumption | (simp [*]; done) | (go_simp; done)); have c03 := kept hb w.heap.size 3 (.slice none 0 0) (by first | assumption | (simp [*]; done) | (go_simp; done)); have f00 := keptF hb w.heap.size 0 (by first | assumption | (simp; done) | (simp; omega)) (by first | assumption | (simp [*]; done) | (go_simp; done)); have f01 := keptF hb w.heap.size 1 (by first | assumption | (simp; done) | (simp; omega)) (by first | assumption | (simp [*]; done) | (go_simp; done)); have f02 := keptF hb w.heap.size 2 (by first | assumption | (simp; done) | (simp; omega)) (by first | assumption | (simp [*]; done) | (go_simp; done)); have f03 := keptF hb w.heap.size 3 (by first | assumption | (simp; done) | (simp; omega)) (by first | assumption | (simp [*]; done) | (go_simp; done)); have n0 := Lib.hid (blw_then (by repeat (first | exact HB.out | apply blw_alloc | apply blw_drewN | apply blw_drew | (refine Below.setCell ?_ ?_ _; rotate_left; (first | exact Nat.le_refl _ | (simp; done) | (simp; omega))))) hb); clear HB hb; have HB := n0; clear n0) | (go_at_call 27; refine (vnode0 n _ h0 h1).mono ?_; rintro e w3 ⟨rfl, hb⟩; have z0 := Nat.lt_of_lt_of_le (n := w.heap.size) (by first | assumption | (simp; done) | (simp; omega)) hb.size; have c00 := kept hb w.heap.size 0 (.int .i64 2) (by first | assumption | (simp [*]; done) | (go_simp; done)); have c01 := kept hb w.heap.size 1 (.int .i64 n) (by first | assumption | (simp [*]; done) | (go_simp; done)); have c02 := kept hb w.heap.size 2 (.string ⟨#[]⟩) (by first | assumption | (simp [*]; done) | (go_simp; done)); have c03 := kept hb w.heap.size 3 (.slice none 0 0) (by first | assumption | (simp [*]; done) | (go_simp; done)); have f00 := keptF hb w.heap.size 0 (by first | assumption | (simp; done) | (simp; omega)) (by first | assumption | (simp [*]; done) | (go_simp; done)); have f01 := keptF hb w.heap.size 1 (by first | assumption | (simp; done) | (simp; omega)) (by first | assumption | (simp [*]; done) | (go_simp; done)); have f02 := keptF hb w.heap.size 2 (by first | assumption | (simp; done) | (simp; omega)) (by first | assumption | (simp [*]; done) | (go_simp; done)); have f03 := keptF hb w.heap.size 3 (by first | assumption | (simp; done) | (simp; omega)) (by first | assumption | (simp [*]; done) | (go_simp; done)); have n0 := Lib.hid (blw_then (by repeat (first | exact HB.out | apply blw_alloc | apply blw_drewN | apply blw_drew | (refine Below.setCell ?_ ?_ _; rotate_left; (first | exact Nat.le_refl _ | (simp; done) | (simp; omega))))) hb); clear HB hb; have HB := n0; clear n0))
  go_ret
  exact ⟨by first | rfl | (simp [*]; done) | (simp [*] <;> rfl), (by repeat (first | exact HB.out | apply blw_alloc | apply blw_drewN | apply blw_drew | (refine Below.setCell ?_ ?_ _; rotate_left; (first | exact Nat.le_refl _ | (simp; done) | (simp; omega)))))⟩

set_option maxHeartbeats 2000000 in
set_option maxRecDepth 100000 in
theorem resolve0 (w : World) : Calls Tryd.prog 28 #[S0, T0] w (Ret (.tuple #[.agg #[.int .i64 2, .string ⟨#[]⟩, .int .i64 1, .int .i64 5, .string ⟨#[]⟩, .slice none 0 0], .int .i64 0]) w) := by
  have HB := Lib.hid (Below.refl w.heap.size w)
  have hu := Tryd.underlying24
  have hu2 := Tryd.underlying42
  unfold S0 T0
  go_enter Tryd.func28, Tryd.ntmps28
  go_wp2_with fail
  refine wp_loop_rounds 1 ?_
  rw [rounds_succ]
  go_wp2_with fail
  exact bodyPost_ret (v := .tuple #[.agg #[.int .i64 2, .string ⟨#[]⟩, .int .i64 1, .int .i64 5, .string ⟨#[]⟩, .slice none 0 0], .int .i64 0]) (by simp [results, Tryd.results28, go_sem, hu]) rfl ⟨rfl, (by repeat (first | exact HB.out | apply blw_alloc | apply blw_drewN | apply blw_drew | (refine Below.setCell ?_ ?_ _; rotate_left; (first | exact Nat.le_refl _ | (simp; done) | (simp; omega)))))⟩

set_option maxHeartbeats 2000000 in
set_option maxRecDepth 100000 in
theorem fits3 (w : World) : Calls Tryd.prog 29 #[T0, V0 3] w (Ret (.bool true) w) := by
  have HB := Lib.hid (Below.refl w.heap.size w)
  have hu := Tryd.underlying24
  have hu2 := Tryd.underlying42
  unfold T0 V0
  go_enter Tryd.func29, Tryd.ntmps29
  go_wp2_with fail
  go_ret
  exact ⟨by first | rfl | (simp [*]; done) | (simp [*] <;> rfl), (by repeat (first | exact HB.out | apply blw_alloc | apply blw_drewN | apply blw_drew | (refine Below.setCell ?_ ?_ _; rotate_left; (first | exact Nat.le_refl _ | (simp; done) | (simp; omega)))))⟩

set_option maxHeartbeats 2000000 in
set_option maxRecDepth 100000 in
theorem fits7 (w : World) : Calls Tryd.prog 29 #[T0, V0 7] w (Ret (.bool false) w) := by
  have HB := Lib.hid (Below.refl w.heap.size w)
  have hu := Tryd.underlying24
  have hu2 := Tryd.underlying42
  unfold T0 V0
  go_enter Tryd.func29, Tryd.ntmps29
  go_wp2_with fail
  go_ret
  exact ⟨by first | rfl | (simp [*]; done) | (simp [*] <;> rfl), (by repeat (first | exact HB.out | apply blw_alloc | apply blw_drewN | apply blw_drew | (refine Below.setCell ?_ ?_ _; rotate_left; (first | exact Nat.le_refl _ | (simp; done) | (simp; omega)))))⟩

theorem reverse0 (w : World) : Calls Tryd.prog 21 #[.slice none 0 0] w (Ret (.tuple #[]) w) := by
  refine (Tryd.slices_Reverse_string_empty none 0 w).mono ?_
  rintro e w1 ⟨rfl, rfl⟩
  exact ⟨rfl, Below.refl _ _⟩

set_option maxHeartbeats 2000000 in
set_option maxRecDepth 100000 in
theorem has3 (w : World) : Calls Tryd.prog 20 #[S0, T0, V0 3] w (Ret (.tuple #[.slice none 0 0, .bool true]) w) := by
  have hu := Tryd.underlying24
  have hu2 := Tryd.underlying42
  unfold S0 T0 V0
  go_enter Tryd.func20, Tryd.ntmps20
  go_wp2_with fail
  obtain ⟨gb, hgb⟩ : ∃ gb, gb = w.heap.size := ⟨_, rfl⟩
  obtain ⟨w2, hw2⟩ : ∃ w2, w2 = (w.alloc (.cells #[.int .i64 2, .string ⟨#[]⟩, .int .i64 1, .int .i64 5, .string ⟨#[]⟩, .slice none 0 0] 24)).alloc (.cells #[.int .i64 2, .int .i64 3, .string ⟨#[]⟩, .slice none 0 0] 42) := ⟨_, rfl⟩
  rw [← hgb, ← hw2]
  have HB2 := Lib.hid (show Below gb w w2 by rw [hw2, hgb]; exact blw_alloc (blw_alloc (Below.refl _ _) _) _)
  have hz2 : w2.heap.size = gb + 2 := by rw [hw2, hgb]; simp
  have blkT : w2.heap[gb]? = some (.cells #[.int .i64 2, .string ⟨#[]⟩, .int .i64 1, .int .i64 5, .string ⟨#[]⟩, .slice none 0 0] 24 (0, 0)) := by rw [hw2, hgb]; exact (Below.heap_alloc _ _ _ (by simp)).trans (heap_alloc_new w _)
  have blkV : w2.heap[gb + 1]? = some (.cells #[.int .i64 2, .int .i64 3, .string ⟨#[]⟩, .slice none 0 0] 42 (0, 0)) := by
    have := heap_alloc_new (w.alloc (.cells #[.int .i64 2, .string ⟨#[]⟩, .int .i64 1, .int .i64 5, .string ⟨#[]⟩, .slice none 0 0] 24)) (.cells #[.int .i64 2, .int .i64 3, .string ⟨#[]⟩, .slice none 0 0] 42)
    rw [hw2, hgb]; simpa using this
  have HGB := Lib.hid hgb
  clear hw2 hgb
  go_at_call 28
  refine (resolve0 _).mono ?_
  rintro e w3 ⟨rfl, hb⟩
  have blkT3 := (hb.block gb (by omega)).trans blkT
  have blkV3 := (hb.block (gb + 1) (by omega)).trans blkV
  have HB3 := Lib.hid (show Below gb w w3 from HB2.out.trans (hb.mono (by omega)))
  clear blkT blkV hb hz2
  have c0 := (blk_cell blkT3 0).trans rfl
  have f0 := blk_frozen blkT3 0
  have c1 := (blk_cell blkT3 1).trans rfl
  have f1 := blk_frozen blkT3 1
  have c2 := (blk_cell blkT3 2).trans rfl
  have f2 := blk_frozen blkT3 2
  have c3 := (blk_cell blkT3 3).trans rfl
  have f3 := blk_frozen blkT3 3
  have c4 := (blk_cell blkT3 4).trans rfl
  have f4 := blk_frozen blkT3 4
  have c5 := (blk_cell blkT3 5).trans rfl
  have f5 := blk_frozen blkT3 5
  go_upto_region 2 with (fail)
  obtain ⟨w4, hw4⟩ : ∃ w4, w4 = ((((((w3.setCell ⟨gb, 0, none⟩ (.int .i64 2)).setCell ⟨gb, 1, none⟩ (.string ⟨#[]⟩)).setCell ⟨gb, 2, none⟩ (.int .i64 1)).setCell ⟨gb, 3, none⟩ (.int .i64 5)).setCell ⟨gb, 4, none⟩ (.string ⟨#[]⟩)).setCell ⟨gb, 5, none⟩ (.slice none 0 0)) := ⟨_, rfl⟩
  rw [← hw4]
  have blkT4 : w4.heap[gb]? = some (.cells #[.int .i64 2, .string ⟨#[]⟩, .int .i64 1, .int .i64 5, .string ⟨#[]⟩, .slice none 0 0] 24 (0, 0)) := by rw [hw4]; exact (blk_set (blk_set (blk_set (blk_set (blk_set (blk_set blkT3 0 _) 1 _) 2 _) 3 _) 4 _) 5 _).trans rfl
  have blkV4 : w4.heap[gb + 1]? = some (.cells #[.int .i64 2, .int .i64 3, .string ⟨#[]⟩, .slice none 0 0] 42 (0, 0)) := by rw [hw4]; exact (blk_far (blk_far (blk_far (blk_far (blk_far (blk_far blkV3 (by show gb + 1 ≠ gb; omega) _) (by show gb + 1 ≠ gb; omega) _) (by show gb + 1 ≠ gb; omega) _) (by show gb + 1 ≠ gb; omega) _) (by show gb + 1 ≠ gb; omega) _) (by show gb + 1 ≠ gb; omega) _)
  have HB4 := Lib.hid (show Below gb w w4 by rw [hw4]; exact ((((((HB3.out.setCell (p := ⟨gb, 0, none⟩) (Nat.le_refl _) _).setCell (p := ⟨gb, 1, none⟩) (Nat.le_refl _) _).setCell (p := ⟨gb, 2, none⟩) (Nat.le_refl _) _).setCell (p := ⟨gb, 3, none⟩) (Nat.le_refl _) _).setCell (p := ⟨gb, 4, none⟩) (Nat.le_refl _) _).setCell (p := ⟨gb, 5, none⟩) (Nat.le_refl _) _))
  clear hw4 blkT3 blkV3 c0 c1 c2 c3 c4 c5 f0 f1 f2 f3 f4 f5
  have c0 := (blk_cell blkT4 0).trans rfl
  have c1 := (blk_cell blkT4 1).trans rfl
  have c2 := (blk_cell blkT4 2).trans rfl
  have c3 := (blk_cell blkT4 3).trans rfl
  have c4 := (blk_cell blkT4 4).trans rfl
  have c5 := (blk_cell blkT4 5).trans rfl
  have d0 := (blk_cell blkV4 0).trans rfl
  have d1 := (blk_cell blkV4 1).trans rfl
  have d2 := (blk_cell blkV4 2).trans rfl
  have d3 := (blk_cell blkV4 3).trans rfl
  go_wp2_with fail
  go_at_call 29
  refine (fits3 _).mono ?_
  rintro e w5 ⟨rfl, hb⟩
  have blkV5 := (hb.block (gb + 1) (blk_lt blkV4)).trans blkV4
  have hlt := blk_lt blkV4
  have HB5 := Lib.hid (show Below gb w w5 from HB4.out.trans (hb.mono (by omega)))
  clear blkT4 blkV4 hb c0 c1 c2 c3 c4 c5 d0 d1 d2 d3 hlt
  have d0 := (blk_cell blkV5 0).trans rfl
  have d1 := (blk_cell blkV5 1).trans rfl
  have d2 := (blk_cell blkV5 2).trans rfl
  have d3 := (blk_cell blkV5 3).trans rfl
  go_wp2_with fail
  refine wp_loop_rounds 1 ?_
  rw [rounds_succ]
  go_wp2_with fail
  go_ret2
  exact ⟨rfl, HGB.out ▸ HB5.out⟩

set_option maxHeartbeats 2000000 in
set_option maxRecDepth 100000 in
theorem Has3 (w : World) : Calls Tryd.prog 12 #[S0, T0, V0 3] w (Ret (.tuple #[.bool true, .slice none 0 0, .int .i64 0]) w) := by
  have HB := Lib.hid (Below.refl w.heap.size w)
  have hu := Tryd.underlying24
  have hu2 := Tryd.underlying42
  unfold S0 T0 V0
  go_enter Tryd.func12, Tryd.ntmps12
  go_wp2_with (first | (go_at_call 18; refine (Right0 _).mono ?_; rintro e w1 ⟨rfl, hb⟩; have z0 := Nat.lt_of_lt_of_le (n := w.heap.size) (by first | assumption | (simp; done) | (simp; omega)) hb.size; have c00 := kept hb w.heap.size 0 (.int .i64 2) (by first | assumption | (simp [*]; done) | (go_simp; done)); have c01 := kept hb w.heap.size 1 (.string ⟨#[]⟩) (by first | assumption | (simp [*]; done) | (go_simp; done)); have c02 := kept hb w.heap.size 2 (.int .i64 1) (by first | assumption | (simp [*]; done) | (go_simp; done)); have c03 := kept hb w.heap.size 3 (.int .i64 5) (by first | assumption | (simp [*]; done) | (go_simp; done)); have c04 := kept hb w.heap.size 4 (.string ⟨#[]⟩) (by first | assumption | (simp [*]; done) | (go_simp; done)); have c05 := kept hb w.heap.size 5 (.slice none 0 0) (by first | assumption | (simp [*]; done) | (go_simp; done)); have f00 := keptF hb w.heap.size 0 (by first | assumption | (simp; done) | (simp; omega)) (by first | assumption | (simp [*]; done) | (go_simp; done)); have f01 := keptF hb w.heap.size 1 (by first | assumption | (simp; done) | (simp; omega)) (by first | assumption | (simp [*]; done) | (go_simp; done)); have f02 := keptF hb w.heap.size 2 (by first | assumption | (simp; done) | (simp; omega)) (by first | assumption | (simp [*]; done) | (go_simp; done)); have f03 := keptF hb w.heap.size 3 (by first | assumption | (simp; done) | (simp; omega)) (by first | assumption | (simp [*]; done) | (go_simp; done)); have f04 := keptF hb w.heap.size 4 (by first | assumption | (simp; done) | (simp; omega)) (by first | assumption | (simp [*]; done) | (go_simp; done)); have f05 := keptF hb w.heap.size 5 (by first | assumption | (simp; done) | (simp; omega)) (by first | assumption | (simp [*]; done) | (go_simp; done)); have z1 := Nat.lt_of_lt_of_le (n := (w.heap.size + 1)) (by first | assumption | (simp; done) | (simp; omega)) hb.size; have c10 := kept hb (w.heap.size + 1) 0 (.int .i64 2) (by first | assumption | (simp [*]; done) | (go_simp; done)); have c11 := kept hb (w.heap.size + 1) 1 (.int .i64 3) (by first | assumption | (simp [*]; done) | (go_simp; done)); have c12 := kept hb (w.heap.size + 1) 2 (.string ⟨#[]⟩) (by first | assumption | (simp [*]; done) | (go_simp; done)); have c13 := kept hb (w.heap.size + 1) 3 (.slice none 0 0) (by first | assumption | (simp [*]; done) | (go_simp; done)); have f10 := keptF hb (w.heap.size + 1) 0 (by first | assumption | (simp; done) | (simp; omega)) (by first | assumption | (simp [*]; done) | (go_simp; done)); have f11 := keptF hb (w.heap.size + 1) 1 (by first | assumption | (simp; done) | (simp; omega)) (by first | assumption | (simp [*]; done) | (go_simp; done)); have f12 := keptF hb (w.heap.size + 1) 2 (by first | assumption | (simp; done) | (simp; omega)) (by first | assumption | (simp [*]; done) | (go_simp; done)); have f13 := keptF hb (w.heap.size + 1) 3 (by first | assumption | (simp; done) | (simp; omega)) (by first | assumption | (simp [*]; done) | (go_simp; done)); have n0 := Lib.hid (blw_then (by repeat (first | exact HB.out | apply blw_alloc | apply blw_drewN | apply blw_drew | (refine Below.setCell ?_ ?_ _; rotate_left; (first | exact Nat.le_refl _ | (simp; done) | (simp; omega))))) hb); clear HB hb; have HB := n0; clear n0) | (go_at_call 19; refine (vcheck0 3 _ (by decide) (by decide)).mono ?_; rintro e w2 ⟨rfl, hb⟩; have z0 := Nat.lt_of_lt_of_le (n := w.heap.size) (by first | assumption | (simp; done) | (simp; omega)) hb.size; have c00 := kept hb w.heap.size 0 (.int .i64 2) (by first | assumption | (simp [*]; done) | (go_simp; done)); have c01 := kept hb w.heap.size 1 (.string ⟨#[]⟩) (by first | assumption | (simp [*]; done) | (go_simp; done)); have c02 := kept hb w.heap.size 2 (.int .i64 1) (by first | assumption | (simp [*]; done) | (go_simp; done)); have c03 := kept hb w.heap.size 3 (.int .i64 5) (by first | assumption | (simp [*]; done) | (go_simp; done)); have c04 := kept hb w.heap.size 4 (.string ⟨#[]⟩) (by first | assumption | (simp [*]; done) | (go_simp; done)); have c05 := kept hb w.heap.size 5 (.slice none 0 0) (by first | assumption | (simp [*]; done) | (go_simp; done)); have f00 := keptF hb w.heap.size 0 (by first | assumption | (simp; done) | (simp; omega)) (by first | assumption | (simp [*]; done) | (go_simp; done)); have f01 := keptF hb w.heap.size 1 (by first | assumption | (simp; done) | (simp; omega)) (by first | assumption | (simp [*]; done) | (go_simp; done)); have f02 := keptF hb w.heap.size 2 (by first | assumption | (simp; done) | (simp; omega)) (by first | assumption | (simp [*]; done) | (go_simp; done)); have f03 := keptF hb w.heap.size 3 (by first | assumption | (simp; done) | (simp; omega)) (by first | assumption | (simp [*]; done) | (go_simp; done)); have f04 := keptF hb w.heap.size 4 (by first | assumption | (simp; done) | (simp; omega)) (by first | assumption | (simp [*]; done) | (go_simp; done)); have f05 := keptF hb w.heap.size 5 (by first | assumption | (simp; done) | (simp; omega)) (by first | assumption | (simp [*]; done) | (go_simp; done)); have z1 := Nat.lt_of_lt_of_le (n := (w.heap.size + 1)) (by first | assumption | (simp; done) | (simp; omega)) hb.size; have c10 := kept hb (w.heap.size + 1) 0 (.int .i64 2) (by first | assumption | (simp [*]; done) | (go_simp; done)); have c11 := kept hb (w.heap.size + 1) 1 (.int .i64 3) (by first | assumption | (simp [*]; done) | (go_simp; done)); have c12 := kept hb (w.heap.size + 1) 2 (.string ⟨#[]⟩) (by first | assumption | (simp [*]; done) | (go_simp; done)); have c13 := kept hb (w.heap.size + 1) 3 (.slice none 0 0) (by first | assumption | (simp [*]; done) | (go_simp; done)); have f10 := keptF hb (w.heap.size + 1) 0 (by first | assumption | (simp; done) | (simp; omega)) (by first | assumption | (simp [*]; done) | (go_simp; done)); have f11 := keptF hb (w.heap.size + 1) 1 (by first | assumption | (simp; done) | (simp; omega)) (by first | assumption | (simp [*]; done) | (go_simp; done)); have f12 := keptF hb (w.heap.size + 1) 2 (by first | assumption | (simp; done) | (simp; omega)) (by first | assumption | (simp [*]; done) | (go_simp; done)); have f13 := keptF hb (w.heap.size + 1) 3 (by first | assumption | (simp; done) | (simp; omega)) (by first | assumption | (simp [*]; done) | (go_simp; done)); have n0 := Lib.hid (blw_then (by repeat (first | exact HB.out | apply blw_alloc | apply blw_drewN | apply blw_drew | (refine Below.setCell ?_ ?_ _; rotate_left; (first | exact Nat.le_refl _ | (simp; done) | (simp; omega))))) hb); clear HB hb; have HB := n0; clear n0) | (go_at_call 20; refine (has3 _).mono ?_; rintro e w3 ⟨rfl, hb⟩; have z0 := Nat.lt_of_lt_of_le (n := w.heap.size) (by first | assumption | (simp; done) | (simp; omega)) hb.size; have c00 := kept hb w.heap.size 0 (.int .i64 2) (by first | assumption | (simp [*]; done) | (go_simp; done)); have c01 := kept hb w.heap.size 1 (.string ⟨#[]⟩) (by first | assumption | (simp [*]; done) | (go_simp; done)); have c02 := kept hb w.heap.size 2 (.int .i64 1) (by first | assumption | (simp [*]; done) | (go_simp; done)); have c03 := kept hb w.heap.size 3 (.int .i64 5) (by first | assumption | (simp [*]; done) | (go_simp; done)); have c04 := kept hb w.heap.size 4 (.string ⟨#[]⟩) (by first | assumption | (simp [*]; done) | (go_simp; done)); have c05 := kept hb w.heap.size 5 (.slice none 0 0) (by first | assumption | (simp [*]; done) | (go_simp; done)); have f00 := keptF hb w.heap.size 0 (by first | assumption | (simp; done) | (simp; omega)) (by first | assumption | (simp [*]; done) | (go_simp; done)); have f01 := keptF hb w.heap.size 1 (by first | assumption | (simp; done) | (simp; omega)) (by first | assumption | (simp [*]; done) | (go_simp; done)); have f02 := keptF hb w.heap.size 2 (by first | assumption | (simp; done) | (simp; omega)) (by first | assumption | (simp [*]; done) | (go_simp; done)); have f03 := keptF hb w.heap.size 3 (by first | assumption | (simp; done) | (simp; omega)) (by first | assumption | (simp [*]; done) | (go_simp; done)); have f04 := keptF hb w.heap.size 4 (by first | assumption | (simp; done) | (simp; omega)) (by first | assumption | (simp [*]; done) | (go_simp; done)); have f05 := keptF hb w.heap.size 5 (by first | assumption | (simp; done) | (simp; omega)) (by first | assumption | (simp [*]; done) | (go_simp; done)); have z1 := Nat.lt_of_lt_of_le (n := (w.heap.size + 1)) (by first | assumption | (simp; done) | (simp; omega)) hb.size; have c10 := kept hb (w.heap.size + 1) 0 (.int .i64 2) (by first | assumption | (simp [*]; done) | (go_simp; done)); have c11 := kept hb (w.heap.size + 1) 1 (.int .i64 3) (by first | assumption | (simp [*]; done) | (go_simp; done)); have c12 := kept hb (w.heap.size + 1) 2 (.string ⟨#[]⟩) (by first | assumption | (simp [*]; done) | (go_simp; done)); have c13 := kept hb (w.heap.size + 1) 3 (.slice none 0 0) (by first | assumption | (simp [*]; done) | (go_simp; done)); have f10 := keptF hb (w.heap.size + 1) 0 (by first | assumption | (simp; done) | (simp; omega)) (by first | assumption | (simp [*]; done) | (go_simp; done)); have f11 := keptF hb (w.heap.size + 1) 1 (by first | assumption | (simp; done) | (simp; omega)) (by first | assumption | (simp [*]; done) | (go_simp; done)); have f12 := keptF hb (w.heap.size + 1) 2 (by first | assumption | (simp; done) | (simp; omega)) (by first | assumption | (simp [*]; done) | (go_simp; done)); have f13 := keptF hb (w.heap.size + 1) 3 (by first | assumption | (simp; done) | (simp; omega)) (by first | assumption | (simp [*]; done) | (go_simp; done)); have n0 := Lib.hid (blw_then (by repeat (first | exact HB.out | apply blw_alloc | apply blw_drewN | apply blw_drew | (refine Below.setCell ?_ ?_ _; rotate_left; (first | exact Nat.le_refl _ | (simp; done) | (simp; omega))))) hb); clear HB hb; have HB := n0; clear n0) | (go_at_call 21; refine (reverse0 _).mono ?_; rintro e w4 ⟨rfl, hb⟩; have z0 := Nat.lt_of_lt_of_le (n := w.heap.size) (by first | assumption | (simp; done) | (simp; omega)) hb.size; have c00 := kept hb w.heap.size 0 (.int .i64 2) (by first | assumption | (simp [*]; done) | (go_simp; done)); have c01 := kept hb w.heap.size 1 (.string ⟨#[]⟩) (by first | assumption | (simp [*]; done) | (go_simp; done)); have c02 := kept hb w.heap.size 2 (.int .i64 1) (by first | assumption | (simp [*]; done) | (go_simp; done)); have c03 := kept hb w.heap.size 3 (.int .i64 5) (by first | assumption | (simp [*]; done) | (go_simp; done)); have c04 := kept hb w.heap.size 4 (.string ⟨#[]⟩) (by first | assumption | (simp [*]; done) | (go_simp; done)); have c05 := kept hb w.heap.size 5 (.slice none 0 0) (by first | assumption | (simp [*]; done) | (go_simp; done)); have f00 := keptF hb w.heap.size 0 (by first | assumption | (simp; done) | (simp; omega)) (by first | assumption | (simp [*]; done) | (go_simp; done)); have f01 := keptF hb w.heap.size 1 (by first | assumption | (simp; done) | (simp; omega)) (by first | assumption | (simp [*]; done) | (go_simp; done)); have f02 := keptF hb w.heap.size 2 (by first | assumption | (simp; done) | (simp; omega)) (by first | assumption | (simp [*]; done) | (go_simp; done)); have f03 := keptF hb w.heap.size 3 (by first | assumption | (simp; done) | (simp; omega)) (by first | assumption | (simp [*]; done) | (go_simp; done)); have f04 := keptF hb w.heap.size 4 (by first | assumption | (simp; done) | (simp; omega)) (by first | assumption | (simp [*]; done) | (go_simp; done)); have f05 := keptF hb w.heap.size 5 (by first | assumption | (simp; done) | (simp; omega)) (by first | assumption | (simp [*]; done) | (go_simp; done)); have z1 := Nat.lt_of_lt_of_le (n := (w.heap.size + 1)) (by first | assumption | (simp; done) | (simp; omega)) hb.size; have c10 := kept hb (w.heap.size + 1) 0 (.int .i64 2) (by first | assumption | (simp [*]; done) | (go_simp; done)); have c11 := kept hb (w.heap.size + 1) 1 (.int .i64 3) (by first | assumption | (simp [*]; done) | (go_simp; done)); have c12 := kept hb (w.heap.size + 1) 2 (.string ⟨#[]⟩) (by first | assumption | (simp [*]; done) | (go_simp; done)); have c13 := kept hb (w.heap.size + 1) 3 (.slice none 0 0) (by first | assumption | (simp [*]; done) | (go_simp; done)); have f10 := keptF hb (w.heap.size + 1) 0 (by first | assumption | (simp; done) | (simp; omega)) (by first | assumption | (simp [*]; done) | (go_simp; done)); have f11 := keptF hb (w.heap.size + 1) 1 (by first | assumption | (simp; done) | (simp; omega)) (by first | assumption | (simp [*]; done) | (go_simp; done)); have f12 := keptF hb (w.heap.size + 1) 2 (by first | assumption | (simp; done) | (simp; omega)) (by first | assumption | (simp [*]; done) | (go_simp; done)); have f13 := keptF hb (w.heap.size + 1) 3 (by first | assumption | (simp; done) | (simp; omega)) (by first | assumption | (simp [*]; done) | (go_simp; done)); have n0 := Lib.hid (blw_then (by repeat (first | exact HB.out | apply blw_alloc | apply blw_drewN | apply blw_drew | (refine Below.setCell ?_ ?_ _; rotate_left; (first | exact Nat.le_refl _ | (simp; done) | (simp; omega))))) hb); clear HB hb; have HB := n0; clear n0))
  go_ret3
  exact ⟨by first | rfl | (simp [*]; done) | (simp [*] <;> rfl), (by repeat (first | exact HB.out | apply blw_alloc | apply blw_drewN | apply blw_drew | (refine Below.setCell ?_ ?_ _; rotate_left; (first | exact Nat.le_refl _ | (simp; done) | (simp; omega)))))⟩

set_option maxHeartbeats 2000000 in
set_option maxRecDepth 100000 in
theorem has7 (w : World) : Calls Tryd.prog 20 #[S0, T0, V0 7] w (Ret (.tuple #[.slice none 0 0, .bool false]) w) := by
  have hu := Tryd.underlying24
  have hu2 := Tryd.underlying42
  unfold S0 T0 V0
  go_enter Tryd.func20, Tryd.ntmps20
  go_wp2_with fail
  obtain ⟨gb, hgb⟩ : ∃ gb, gb = w.heap.size := ⟨_, rfl⟩
  obtain ⟨w2, hw2⟩ : ∃ w2, w2 = (w.alloc (.cells #[.int .i64 2, .string ⟨#[]⟩, .int .i64 1, .int .i64 5, .string ⟨#[]⟩, .slice none 0 0] 24)).alloc (.cells #[.int .i64 2, .int .i64 7, .string ⟨#[]⟩, .slice none 0 0] 42) := ⟨_, rfl⟩
  rw [← hgb, ← hw2]
  have HB2 := Lib.hid (show Below gb w w2 by rw [hw2, hgb]; exact blw_alloc (blw_alloc (Below.refl _ _) _) _)
  have hz2 : w2.heap.size = gb + 2 := by rw [hw2, hgb]; simp
  have blkT : w2.heap[gb]? = some (.cells #[.int .i64 2, .string ⟨#[]⟩, .int .i64 1, .int .i64 5, .string ⟨#[]⟩, .slice none 0 0] 24 (0, 0)) := by rw [hw2, hgb]; exact (Below.heap_alloc _ _ _ (by simp)).trans (heap_alloc_new w _)
  have blkV : w2.heap[gb + 1]? = some (.cells #[.int .i64 2, .int .i64 7, .string ⟨#[]⟩, .slice none 0 0] 42 (0, 0)) := by
    have := heap_alloc_new (w.alloc (.cells #[.int .i64 2, .string ⟨#[]⟩, .int .i64 1, .int .i64 5, .string ⟨#[]⟩, .slice none 0 0] 24)) (.cells #[.int .i64 2, .int .i64 7, .string ⟨#[]⟩, .slice none 0 0] 42)
    rw [hw2, hgb]; simpa using this
  have HGB := Lib.hid hgb
  clear hw2 hgb
  go_at_call 28
  refine (resolve0 _).mono ?_
  rintro e w3 ⟨rfl, hb⟩
  have blkT3 := (hb.block gb (by omega)).trans blkT
  have blkV3 := (hb.block (gb + 1) (by omega)).trans blkV
  have HB3 := Lib.hid (show Below gb w w3 from HB2.out.trans (hb.mono (by omega)))
  clear blkT blkV hb hz2
  have c0 := (blk_cell blkT3 0).trans rfl
  have f0 := blk_frozen blkT3 0
  have c1 := (blk_cell blkT3 1).trans rfl
  have f1 := blk_frozen blkT3 1
  have c2 := (blk_cell blkT3 2).trans rfl
  have f2 := blk_frozen blkT3 2
  have c3 := (blk_cell blkT3 3).trans rfl
  have f3 := blk_frozen blkT3 3
  have c4 := (blk_cell blkT3 4).trans rfl
  have f4 := blk_frozen blkT3 4
  have c5 := (blk_cell blkT3 5).trans rfl
  have f5 := blk_frozen blkT3 5
  go_upto_region 2 with (fail)
  obtain ⟨w4, hw4⟩ : ∃ w4, w4 = ((((((w3.setCell ⟨gb, 0, none⟩ (.int .i64 2)).setCell ⟨gb, 1, none⟩ (.string ⟨#[]⟩)).setCell ⟨gb, 2, none⟩ (.int .i64 1)).setCell ⟨gb, 3, none⟩ (.int .i64 5)).setCell ⟨gb, 4, none⟩ (.string ⟨#[]⟩)).setCell ⟨gb, 5, none⟩ (.slice none 0 0)) := ⟨_, rfl⟩
  rw [← hw4]
  have blkT4 : w4.heap[gb]? = some (.cells #[.int .i64 2, .string ⟨#[]⟩, .int .i64 1, .int .i64 5, .string ⟨#[]⟩, .slice none 0 0] 24 (0, 0)) := by rw [hw4]; exact (blk_set (blk_set (blk_set (blk_set (blk_set (blk_set blkT3 0 _) 1 _) 2 _) 3 _) 4 _) 5 _).trans rfl
  have blkV4 : w4.heap[gb + 1]? = some (.cells #[.int .i64 2, .int .i64 7, .string ⟨#[]⟩, .slice none 0 0] 42 (0, 0)) := by rw [hw4]; exact (blk_far (blk_far (blk_far (blk_far (blk_far (blk_far blkV3 (by show gb + 1 ≠ gb; omega) _) (by show gb + 1 ≠ gb; omega) _) (by show gb + 1 ≠ gb; omega) _) (by show gb + 1 ≠ gb; omega) _) (by show gb + 1 ≠ gb; omega) _) (by show gb + 1 ≠ gb; omega) _)
  have HB4 := Lib.hid (show Below gb w w4 by rw [hw4]; exact ((((((HB3.out.setCell (p := ⟨gb, 0, none⟩) (Nat.le_refl _) _).setCell (p := ⟨gb, 1, none⟩) (Nat.le_refl _) _).setCell (p := ⟨gb, 2, none⟩) (Nat.le_refl _) _).setCell (p := ⟨gb, 3, none⟩) (Nat.le_refl _) _).setCell (p := ⟨gb, 4, none⟩) (Nat.le_refl _) _).setCell (p := ⟨gb, 5, none⟩) (Nat.le_refl _) _))
  clear hw4 blkT3 blkV3 c0 c1 c2 c3 c4 c5 f0 f1 f2 f3 f4 f5
  have c0 := (blk_cell blkT4 0).trans rfl
  have c1 := (blk_cell blkT4 1).trans rfl
  have c2 := (blk_cell blkT4 2).trans rfl
  have c3 := (blk_cell blkT4 3).trans rfl
  have c4 := (blk_cell blkT4 4).trans rfl
  have c5 := (blk_cell blkT4 5).trans rfl
  have d0 := (blk_cell blkV4 0).trans rfl
  have d1 := (blk_cell blkV4 1).trans rfl
  have d2 := (blk_cell blkV4 2).trans rfl
  have d3 := (blk_cell blkV4 3).trans rfl
  go_wp2_with fail
  go_at_call 29
  refine (fits7 _).mono ?_
  rintro e w5 ⟨rfl, hb⟩
  have blkV5 := (hb.block (gb + 1) (blk_lt blkV4)).trans blkV4
  have hlt := blk_lt blkV4
  have HB5 := Lib.hid (show Below gb w w5 from HB4.out.trans (hb.mono (by omega)))
  clear blkT4 blkV4 hb c0 c1 c2 c3 c4 c5 d0 d1 d2 d3 hlt
  have d0 := (blk_cell blkV5 0).trans rfl
  have d1 := (blk_cell blkV5 1).trans rfl
  have d2 := (blk_cell blkV5 2).trans rfl
  have d3 := (blk_cell blkV5 3).trans rfl
  go_wp2_with fail
  go_ret2
  exact ⟨rfl, HGB.out ▸ HB5.out⟩

set_option maxHeartbeats 2000000 in
set_option maxRecDepth 100000 in
theorem Has7 (w : World) : Calls Tryd.prog 12 #[S0, T0, V0 7] w (Ret (.tuple #[.bool false, .slice none 0 0, .int .i64 0]) w) := by
  have HB := Lib.hid (Below.refl w.heap.size w)
  have hu := Tryd.underlying24
  have hu2 := Tryd.underlying42
  unfold S0 T0 V0
  go_enter Tryd.func12, Tryd.ntmps12
  go_wp2_with (first | (go_at_call 18; refine (Right0 _).mono ?_; rintro e w1 ⟨rfl, hb⟩; have z0 := Nat.lt_of_lt_of_le (n := w.heap.size) (by first | assumption | (simp; done) | (simp; omega)) hb.size; have c00 := kept hb w.heap.size 0 (.int .i64 2) (by first | assumption | (simp [*]; done) | (go_simp; done)); have c01 := kept hb w.heap.size 1 (.string ⟨#[]⟩) (by first | assumption | (simp [*]; done) | (go_simp; done)); have c02 := kept hb w.heap.size 2 (.int .i64 1) (by first | assumption | (simp [*]; done) | (go_simp; done)); have c03 := kept hb w.heap.size 3 (.int .i64 5) (by first | assumption | (simp [*]; done) | (go_simp; done)); have c04 := kept hb w.heap.size 4 (.string ⟨#[]⟩) (by first | assumption | (simp [*]; done) | (go_simp; done)); have c05 := kept hb w.heap.size 5 (.slice none 0 0) (by first | assumption | (simp [*]; done) | (go_simp; done)); have f00 := keptF hb w.heap.size 0 (by first | assumption | (simp; done) | (simp; omega)) (by first | assumption | (simp [*]; done) | (go_simp; done)); have f01 := keptF hb w.heap.size 1 (by first | assumption | (simp; done) | (simp; omega)) (by first | assumption | (simp [*]; done) | (go_simp; done)); have f02 := keptF hb w.heap.size 2 (by first | assumption | (simp; done) | (simp; omega)) (by first | assumption | (simp [*]; done) | (go_simp; done)); have f03 := keptF hb w.heap.size 3 (by first | assumption | (simp; done) | (simp; omega)) (by first | assumption | (simp [*]; done) | (go_simp; done)); have f04 := keptF hb w.heap.size 4 (by first | assumption | (simp; done) | (simp; omega)) (by first | assumption | (simp [*]; done) | (go_simp; done)); have f05 := keptF hb w.heap.size 5 (by first | assumption | (simp; done) | (simp; omega)) (by first | assumption | (simp [*]; done) | (go_simp; done)); have z1 := Nat.lt_of_lt_of_le (n := (w.heap.size + 1)) (by first | assumption | (simp; done) | (simp; omega)) hb.size; have c10 := kept hb (w.heap.size + 1) 0 (.int .i64 2) (by first | assumption | (simp [*]; done) | (go_simp; done)); have c11 := kept hb (w.heap.size + 1) 1 (.int .i64 7) (by first | assumption | (simp [*]; done) | (go_simp; done)); have c12 := kept hb (w.heap.size + 1) 2 (.string ⟨#[]⟩) (by first | assumption | (simp [*]; done) | (go_simp; done)); have c13 := kept hb (w.heap.size + 1) 3 (.slice none 0 0) (by first | assumption | (simp [*]; done) | (go_simp; done)); have f10 := keptF hb (w.heap.size + 1) 0 (by first | assumption | (simp; done) | (simp; omega)) (by first | assumption | (simp [*]; done) | (go_simp; done)); have f11 := keptF hb (w.heap.size + 1) 1 (by first | assumption | (simp; done) | (simp; omega)) (by first | assumption | (simp [*]; done) | (go_simp; done)); have f12 := keptF hb (w.heap.size + 1) 2 (by first | assumption | (simp; done) | (simp; omega)) (by first | assumption | (simp [*]; done) | (go_simp; done)); have f13 := keptF hb (w.heap.size + 1) 3 (by first | assumption | (simp; done) | (simp; omega)) (by first | assumption | (simp [*]; done) | (go_simp; done)); have n0 := Lib.hid (blw_then (by repeat (first | exact HB.out | apply blw_alloc | apply blw_drewN | apply blw_drew | (refine Below.setCell ?_ ?_ _; rotate_left; (first | exact Nat.le_refl _ | (simp; done) | (simp; omega))))) hb); clear HB hb; have HB := n0; clear n0) | (go_at_call 19; refine (vcheck0 7 _ (by decide) (by decide)).mono ?_; rintro e w2 ⟨rfl, hb⟩; have z0 := Nat.lt_of_lt_of_le (n := w.heap.size) (by first | assumption | (simp; done) | (simp; omega)) hb.size; have c00 := kept hb w.heap.size 0 (.int .i64 2) (by first | assumption | (simp [*]; done) | (go_simp; done)); have c01 := kept hb w.heap.size 1 (.string ⟨#[]⟩) (by first | assumption | (simp [*]; done) | (go_simp; done)); have c02 := kept hb w.heap.size 2 (.int .i64 1) (by first | assumption | (simp [*]; done) | (go_simp; done)); have c03 := kept hb w.heap.size 3 (.int .i64 5) (by first | assumption | (simp [*]; done) | (go_simp; done)); have c04 := kept hb w.heap.size 4 (.string ⟨#[]⟩) (by first | assumption | (simp [*]; done) | (go_simp; done)); have c05 := kept hb w.heap.size 5 (.slice none 0 0) (by first | assumption | (simp [*]; done) | (go_simp; done)); have f00 := keptF hb w.heap.size 0 (by first | assumption | (simp; done) | (simp; omega)) (by first | assumption | (simp [*]; done) | (go_simp; done)); have f01 := keptF hb w.heap.size 1 (by first | assumption | (simp; done) | (simp; omega)) (by first | assumption | (simp [*]; done) | (go_simp; done)); have f02 := keptF hb w.heap.size 2 (by first | assumption | (simp; done) | (simp; omega)) (by first | assumption | (simp [*]; done) | (go_simp; done)); have f03 := keptF hb w.heap.size 3 (by first | assumption | (simp; done) | (simp; omega)) (by first | assumption | (simp [*]; done) | (go_simp; done)); have f04 := keptF hb w.heap.size 4 (by first | assumption | (simp; done) | (simp; omega)) (by first | assumption | (simp [*]; done) | (go_simp; done)); have f05 := keptF hb w.heap.size 5 (by first | assumption | (simp; done) | (simp; omega)) (by first | assumption | (simp [*]; done) | (go_simp; done)); have z1 := Nat.lt_of_lt_of_le (n := (w.heap.size + 1)) (by first | assumption | (simp; done) | (simp; omega)) hb.size; have c10 := kept hb (w.heap.size + 1) 0 (.int .i64 2) (by first | assumption | (simp [*]; done) | (go_simp; done)); have c11 := kept hb (w.heap.size + 1) 1 (.int .i64 7) (by first | assumption | (simp [*]; done) | (go_simp; done)); have c12 := kept hb (w.heap.size + 1) 2 (.string ⟨#[]⟩) (by first | assumption | (simp [*]; done) | (go_simp; done)); have c13 := kept hb (w.heap.size + 1) 3 (.slice none 0 0) (by first | assumption | (simp [*]; done) | (go_simp; done)); have f10 := keptF hb (w.heap.size + 1) 0 (by first | assumption | (simp; done) | (simp; omega)) (by first | assumption | (simp [*]; done) | (go_simp; done)); have f11 := keptF hb (w.heap.size + 1) 1 (by first | assumption | (simp; done) | (simp; omega)) (by first | assumption | (simp [*]; done) | (go_simp; done)); have f12 := keptF hb (w.heap.size + 1) 2 (by first | assumption | (simp; done) | (simp; omega)) (by first | assumption | (simp [*]; done) | (go_simp; done)); have f13 := keptF hb (w.heap.size + 1) 3 (by first | assumption | (simp; done) | (simp; omega)) (by first | assumption | (simp [*]; done) | (go_simp; done)); have n0 := Lib.hid (blw_then (by repeat (first | exact HB.out | apply blw_alloc | apply blw_drewN | apply blw_drew | (refine Below.setCell ?_ ?_ _; rotate_left; (first | exact Nat.le_refl _ | (simp; done) | (simp; omega))))) hb); clear HB hb; have HB := n0; clear n0) | (go_at_call 20; refine (has7 _).mono ?_; rintro e w3 ⟨rfl, hb⟩; have z0 := Nat.lt_of_lt_of_le (n := w.heap.size) (by first | assumption | (simp; done) | (simp; omega)) hb.size; have c00 := kept hb w.heap.size 0 (.int .i64 2) (by first | assumption | (simp [*]; done) | (go_simp; done)); have c01 := kept hb w.heap.size 1 (.string ⟨#[]⟩) (by first | assumption | (simp [*]; done) | (go_simp; done)); have c02 := kept hb w.heap.size 2 (.int .i64 1) (by first | assumption | (simp [*]; done) | (go_simp; done)); have c03 := kept hb w.heap.size 3 (.int .i64 5) (by first | assumption | (simp [*]; done) | (go_simp; done)); have c04 := kept hb w.heap.size 4 (.string ⟨#[]⟩) (by first | assumption | (simp [*]; done) | (go_simp; done)); have c05 := kept hb w.heap.size 5 (.slice none 0 0) (by first | assumption | (simp [*]; done) | (go_simp; done)); have f00 := keptF hb w.heap.size 0 (by first | assumption | (simp; done) | (simp; omega)) (by first | assumption | (simp [*]; done) | (go_simp; done)); have f01 := keptF hb w.heap.size 1 (by first | assumption | (simp; done) | (simp; omega)) (by first | assumption | (simp [*]; done) | (go_simp; done)); have f02 := keptF hb w.heap.size 2 (by first | assumption | (simp; done) | (simp; omega)) (by first | assumption | (simp [*]; done) | (go_simp; done)); have f03 := keptF hb w.heap.size 3 (by first | assumption | (simp; done) | (simp; omega)) (by first | assumption | (simp [*]; done) | (go_simp; done)); have f04 := keptF hb w.heap.size 4 (by first | assumption | (simp; done) | (simp; omega)) (by first | assumption | (simp [*]; done) | (go_simp; done)); have f05 := keptF hb w.heap.size 5 (by first | assumption | (simp; done) | (simp; omega)) (by first | assumption | (simp [*]; done) | (go_simp; done)); have z1 := Nat.lt_of_lt_of_le (n := (w.heap.size + 1)) (by first | assumption | (simp; done) | (simp; omega)) hb.size; have c10 := kept hb (w.heap.size + 1) 0 (.int .i64 2) (by first | assumption | (simp [*]; done) | (go_simp; done)); have c11 := kept hb (w.heap.size + 1) 1 (.int .i64 7) (by first | assumption | (simp [*]; done) | (go_simp; done)); have c12 := kept hb (w.heap.size + 1) 2 (.string ⟨#[]⟩) (by first | assumption | (simp [*]; done) | (go_simp; done)); have c13 := kept hb (w.heap.size + 1) 3 (.slice none 0 0) (by first | assumption | (simp [*]; done) | (go_simp; done)); have f10 := keptF hb (w.heap.size + 1) 0 (by first | assumption | (simp; done) | (simp; omega)) (by first | assumption | (simp [*]; done) | (go_simp; done)); have f11 := keptF hb (w.heap.size + 1) 1 (by first | assumption | (simp; done) | (simp; omega)) (by first | assumption | (simp [*]; done) | (go_simp; done)); have f12 := keptF hb (w.heap.size + 1) 2 (by first | assumption | (simp; done) | (simp; omega)) (by first | assumption | (simp [*]; done) | (go_simp; done)); have f13 := keptF hb (w.heap.size + 1) 3 (by first | assumption | (simp; done) | (simp; omega)) (by first | assumption | (simp [*]; done) | (go_simp; done)); have n0 := Lib.hid (blw_then (by repeat (first | exact HB.out | apply blw_alloc | apply blw_drewN | apply blw_drew | (refine Below.setCell ?_ ?_ _; rotate_left; (first | exact Nat.le_refl _ | (simp; done) | (simp; omega))))) hb); clear HB hb; have HB := n0; clear n0) | (go_at_call 21; refine (reverse0 _).mono ?_; rintro e w4 ⟨rfl, hb⟩; have z0 := Nat.lt_of_lt_of_le (n := w.heap.size) (by first | assumption | (simp; done) | (simp; omega)) hb.size; have c00 := kept hb w.heap.size 0 (.int .i64 2) (by first | assumption | (simp [*]; done) | (go_simp; done)); have c01 := kept hb w.heap.size 1 (.string ⟨#[]⟩) (by first | assumption | (simp [*]; done) | (go_simp; done)); have c02 := kept hb w.heap.size 2 (.int .i64 1) (by first | assumption | (simp [*]; done) | (go_simp; done)); have c03 := kept hb w.heap.size 3 (.int .i64 5) (by first | assumption | (simp [*]; done) | (go_simp; done)); have c04 := kept hb w.heap.size 4 (.string ⟨#[]⟩) (by first | assumption | (simp [*]; done) | (go_simp; done)); have c05 := kept hb w.heap.size 5 (.slice none 0 0) (by first | assumption | (simp [*]; done) | (go_simp; done)); have f00 := keptF hb w.heap.size 0 (by first | assumption | (simp; done) | (simp; omega)) (by first | assumption | (simp [*]; done) | (go_simp; done)); have f01 := keptF hb w.heap.size 1 (by first | assumption | (simp; done) | (simp; omega)) (by first | assumption | (simp [*]; done) | (go_simp; done)); have f02 := keptF hb w.heap.size 2 (by first | assumption | (simp; done) | (simp; omega)) (by first | assumption | (simp [*]; done) | (go_simp; done)); have f03 := keptF hb w.heap.size 3 (by first | assumption | (simp; done) | (simp; omega)) (by first | assumption | (simp [*]; done) | (go_simp; done)); have f04 := keptF hb w.heap.size 4 (by first | assumption | (simp; done) | (simp; omega)) (by first | assumption | (simp [*]; done) | (go_simp; done)); have f05 := keptF hb w.heap.size 5 (by first | assumption | (simp; done) | (simp; omega)) (by first | assumption | (simp [*]; done) | (go_simp; done)); have z1 := Nat.lt_of_lt_of_le (n := (w.heap.size + 1)) (by first | assumption | (simp; done) | (simp; omega)) hb.size; have c10 := kept hb (w.heap.size + 1) 0 (.int .i64 2) (by first | assumption | (simp [*]; done) | (go_simp; done)); have c11 := kept hb (w.heap.size + 1) 1 (.int .i64 7) (by first | assumption | (simp [*]; done) | (go_simp; done)); have c12 := kept hb (w.heap.size + 1) 2 (.string ⟨#[]⟩) (by first | assumption | (simp [*]; done) | (go_simp; done)); have c13 := kept hb (w.heap.size + 1) 3 (.slice none 0 0) (by first | assumption | (simp [*]; done) | (go_simp; done)); have f10 := keptF hb (w.heap.size + 1) 0 (by first | assumption | (simp; done) | (simp; omega)) (by first | assumption | (simp [*]; done) | (go_simp; done)); have f11 := keptF hb (w.heap.size + 1) 1 (by first | assumption | (simp; done) | (simp; omega)) (by first | assumption | (simp [*]; done) | (go_simp; done)); have f12 := keptF hb (w.heap.size + 1) 2 (by first | assumption | (simp; done) | (simp; omega)) (by first | assumption | (simp [*]; done) | (go_simp; done)); have f13 := keptF hb (w.heap.size + 1) 3 (by first | assumption | (simp; done) | (simp; omega)) (by first | assumption | (simp [*]; done) | (go_simp; done)); have n0 := Lib.hid (blw_then (by repeat (first | exact HB.out | apply blw_alloc | apply blw_drewN | apply blw_drew | (refine Below.setCell ?_ ?_ _; rotate_left; (first | exact Nat.le_refl _ | (simp; done) | (simp; omega))))) hb); clear HB hb; have HB := n0; clear n0))
  go_ret3
  exact ⟨by first | rfl | (simp [*]; done) | (simp [*] <;> rfl), (by repeat (first | exact HB.out | apply blw_alloc | apply blw_drewN | apply blw_drew | (refine Below.setCell ?_ ?_ _; rotate_left; (first | exact Nat.le_refl _ | (simp; done) | (simp; omega)))))⟩

set_option maxHeartbeats 2000000 in
set_option maxRecDepth 100000 in
theorem typed0 (w : World) : Calls Tryd.prog 7 #[] w (Ret (.bool true) w) := by
  have HB := Lib.hid (Below.refl w.heap.size w)
  have hu := Tryd.underlying24
  have hu2 := Tryd.underlying42
  go_enter Tryd.func7, Tryd.ntmps7
  go_wp2_with (first | (go_at_call_of 12 (Value.int .i64 7); refine (Has7 _).mono ?_; rintro e w1 ⟨rfl, hb⟩; obtain ⟨hc, hf⟩ := bcell hb; have n0 := Lib.hid (blw_then (by repeat (first | exact HB.out | apply blw_alloc | apply blw_drewN | apply blw_drew | (refine Below.setCell ?_ ?_ _; rotate_left; (first | exact Nat.le_refl _ | (simp; done) | (simp; omega))))) hb); have hz := hb.size; clear HB hb; have HB := n0; clear n0) | (go_at_call_of 12 (Value.int .i64 3); refine (Has3 _).mono ?_; rintro e w2 ⟨rfl, hb⟩; have n0 := Lib.hid (blw_then (by repeat (first | exact HB.out | apply blw_alloc | apply blw_drewN | apply blw_drew | (refine Below.setCell ?_ ?_ _; rotate_left; (first | exact Nat.le_refl _ | (simp; done) | (simp; omega))))) hb); clear HB hb; have HB := n0; clear n0))
  go_ret
  exact ⟨by first | rfl | (simp [*]; done) | (simp [*] <;> rfl), (by repeat (first | exact HB.out | apply blw_alloc | apply blw_drewN | apply blw_drew | (refine Below.setCell ?_ ?_ _; rotate_left; (first | exact Nat.le_refl _ | (simp; done) | (simp; omega)))))⟩

end Go.Proofs.YtaalehglichejaaDoor
