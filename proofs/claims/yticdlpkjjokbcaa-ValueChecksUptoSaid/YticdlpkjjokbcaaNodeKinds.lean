/- The walks of the reference's nodeErr at the kinds whose nodes have no parts, and at what is no kind. No statement is proved here. -/
import Derived.Test.YticdlpkjjokbcaaNodeSeen
import Derived.Test.YticdlpkjjokbcaaPValx0
import Derived.Lib.Walk
import Derived.Lib.SliceRun
namespace Go.Proofs.Yticdlpkjjokbcaa.PVal
open Go.RowKit Go.Proofs.YticdlpkjjokbcaaW.PrintWords Go.Proofs.YticdlpkjjokbcaaW.PrintLast
set_option linter.unusedVariables false
set_option linter.unusedSimpArgs false
/-- The call returns e, and what was there stays. -/
def Ret0 (e : Int) (w : World) (x : Ending) (w' : World) : Prop := x = .returned (.int .i64 e) ∧ Below w.heap.size w w'
set_option maxHeartbeats 1000000 in
set_option maxRecDepth 100000 in
theorem node_neg (k n : Int) (s : ByteArray) (A : Option Addr) (l : List S36) (c : Nat) (first : Bool) (w : World) (hwf : (Lit.int .i64 k).wf = true) (hk : k < 0) :
    Calls Try.prog 13 #[.agg #[.int .i64 k, .int .i64 n, .string s, .slice A l.length c], .bool first] w (Ret0 3 w) := by
  have hu24 := Try.underlying24
  have hu36 := Try.underlying36
  have hu41 := Try.underlying41
  have hmk : ∀ (t : TypeId) (W : World), (Instr.makeMap t none).run Try.prog W = .ok (.map (some W.heap.size)) (W.alloc (.map #[] 0)) := fun t W => run_makeMap t W
  obtain ⟨w1, w2, w3, w4, w5, r1, r2, r3, r4, r5, hl, hB⟩ := num_chain ((w.alloc (.cells #[.int .i64 k, .int .i64 n, .string s, .slice A l.length c] 24)).alloc (.map #[] 0)) (w.heap.size + 1) (by
    have h := World.ownsMap_made (w.alloc (.cells #[.int .i64 k, .int .i64 n, .string s, .slice A l.length c] 24)) Try.prog 3 pairR
    simpa using h)
  have rk := hl k hwf
  generalize (numF k).1 = lo at *
  generalize (numF k).2.1 = hi at *
  generalize (numF k).2.2 = nb at *
  clear hl
  have hlt5 : w.heap.size + 1 < w5.heap.size := by rw [hB.2.1]; first | (simp; done) | (simp; omega)
  have blk0 : w5.heap[w.heap.size]? = some (.cells #[.int .i64 k, .int .i64 n, .string s, .slice A l.length c] 24 (0, 0)) :=
    (hB.1 _ (by omega)).trans ((Below.heap_alloc _ _ _ (by simp)).trans (heap_alloc_new w _))
  have HB5 := Lib.hid (show Below w.heap.size w w5 from (blw_alloc (blw_alloc (Below.refl _ _) _) _).trans (hB.2.2.mono (by omega)))
  have a0 := (blk_cell blk0 0).trans rfl
  have a1 := (blk_cell blk0 1).trans rfl
  have a2 := (blk_cell blk0 2).trans rfl
  have a3 := (blk_cell blk0 3).trans rfl
  have a0_ := Lib.cell?_alloc_some (.cells #[.int .i64 lo, .int .i64 hi] 41) a0
  have a1_ := Lib.cell?_alloc_some (.cells #[.int .i64 lo, .int .i64 hi] 41) a1
  have a2_ := Lib.cell?_alloc_some (.cells #[.int .i64 lo, .int .i64 hi] 41) a2
  have a3_ := Lib.cell?_alloc_some (.cells #[.int .i64 lo, .int .i64 hi] 41) a3
  clear blk0 hB
  have q0 : decide (k ≥ 0) = false := decide_eq_false (by omega)
  have q1 : (k == 11) = false := by rw [beq_eq_false_iff_ne]; omega
  clear hk
  go_enter Try.func13, Try.ntmps13
  go_wp2_with fail
  go_ret
  exact ⟨rfl, (by repeat (first | exact HB5.out | apply blw_alloc | apply blw_drewN | apply blw_drew))⟩
set_option maxHeartbeats 1000000 in
set_option maxRecDepth 100000 in
theorem node_mark (k n : Int) (s : ByteArray) (A : Option Addr) (l : List S36) (c : Nat) (first : Bool) (w : World) (hwf : (Lit.int .i64 k).wf = true) (hk : k = 11) (hf : first = false) :
    Calls Try.prog 13 #[.agg #[.int .i64 k, .int .i64 n, .string s, .slice A l.length c], .bool first] w (Ret0 3 w) := by
  subst hk hf
  have hu24 := Try.underlying24
  have hu36 := Try.underlying36
  have hu41 := Try.underlying41
  have hmk : ∀ (t : TypeId) (W : World), (Instr.makeMap t none).run Try.prog W = .ok (.map (some W.heap.size)) (W.alloc (.map #[] 0)) := fun t W => run_makeMap t W
  obtain ⟨w1, w2, w3, w4, w5, r1, r2, r3, r4, r5, hl, hB⟩ := num_chain ((w.alloc (.cells #[.int .i64 11, .int .i64 n, .string s, .slice A l.length c] 24)).alloc (.map #[] 0)) (w.heap.size + 1) (by
    have h := World.ownsMap_made (w.alloc (.cells #[.int .i64 11, .int .i64 n, .string s, .slice A l.length c] 24)) Try.prog 3 pairR
    simpa using h)
  have rk := hl 11 (by decide)
  rw [show numF 11 = (0, 9007199254740992, true) from rfl] at rk
  clear hl
  have hlt5 : w.heap.size + 1 < w5.heap.size := by rw [hB.2.1]; first | (simp; done) | (simp; omega)
  have blk0 : w5.heap[w.heap.size]? = some (.cells #[.int .i64 11, .int .i64 n, .string s, .slice A l.length c] 24 (0, 0)) :=
    (hB.1 _ (by omega)).trans ((Below.heap_alloc _ _ _ (by simp)).trans (heap_alloc_new w _))
  have HB5 := Lib.hid (show Below w.heap.size w w5 from (blw_alloc (blw_alloc (Below.refl _ _) _) _).trans (hB.2.2.mono (by omega)))
  have a0 := (blk_cell blk0 0).trans rfl
  have a1 := (blk_cell blk0 1).trans rfl
  have a2 := (blk_cell blk0 2).trans rfl
  have a3 := (blk_cell blk0 3).trans rfl
  have a0_ := Lib.cell?_alloc_some (.cells #[.int .i64 0, .int .i64 9007199254740992] 41) a0
  have a1_ := Lib.cell?_alloc_some (.cells #[.int .i64 0, .int .i64 9007199254740992] 41) a1
  have a2_ := Lib.cell?_alloc_some (.cells #[.int .i64 0, .int .i64 9007199254740992] 41) a2
  have a3_ := Lib.cell?_alloc_some (.cells #[.int .i64 0, .int .i64 9007199254740992] 41) a3
  clear blk0 hB
  go_enter Try.func13, Try.ntmps13
  go_wp2_with fail
  go_ret
  exact ⟨rfl, (by repeat (first | exact HB5.out | apply blw_alloc | apply blw_drewN | apply blw_drew))⟩
set_option maxHeartbeats 1000000 in
set_option maxRecDepth 100000 in
theorem node_big (k n : Int) (s : ByteArray) (A : Option Addr) (l : List S36) (c : Nat) (first : Bool) (w : World) (hwf : (Lit.int .i64 k).wf = true) (hk : 9 < k) (hk2 : k ≠ 11) :
    Calls Try.prog 13 #[.agg #[.int .i64 k, .int .i64 n, .string s, .slice A l.length c], .bool first] w (Ret0 3 w) := by
  have hu24 := Try.underlying24
  have hu36 := Try.underlying36
  have hu41 := Try.underlying41
  have hmk : ∀ (t : TypeId) (W : World), (Instr.makeMap t none).run Try.prog W = .ok (.map (some W.heap.size)) (W.alloc (.map #[] 0)) := fun t W => run_makeMap t W
  obtain ⟨w1, w2, w3, w4, w5, r1, r2, r3, r4, r5, hl, hB⟩ := num_chain ((w.alloc (.cells #[.int .i64 k, .int .i64 n, .string s, .slice A l.length c] 24)).alloc (.map #[] 0)) (w.heap.size + 1) (by
    have h := World.ownsMap_made (w.alloc (.cells #[.int .i64 k, .int .i64 n, .string s, .slice A l.length c] 24)) Try.prog 3 pairR
    simpa using h)
  have rk := hl k hwf
  generalize (numF k).1 = lo at *
  generalize (numF k).2.1 = hi at *
  generalize (numF k).2.2 = nb at *
  clear hl
  have hlt5 : w.heap.size + 1 < w5.heap.size := by rw [hB.2.1]; first | (simp; done) | (simp; omega)
  have blk0 : w5.heap[w.heap.size]? = some (.cells #[.int .i64 k, .int .i64 n, .string s, .slice A l.length c] 24 (0, 0)) :=
    (hB.1 _ (by omega)).trans ((Below.heap_alloc _ _ _ (by simp)).trans (heap_alloc_new w _))
  have HB5 := Lib.hid (show Below w.heap.size w w5 from (blw_alloc (blw_alloc (Below.refl _ _) _) _).trans (hB.2.2.mono (by omega)))
  have a0 := (blk_cell blk0 0).trans rfl
  have a1 := (blk_cell blk0 1).trans rfl
  have a2 := (blk_cell blk0 2).trans rfl
  have a3 := (blk_cell blk0 3).trans rfl
  have a0_ := Lib.cell?_alloc_some (.cells #[.int .i64 lo, .int .i64 hi] 41) a0
  have a1_ := Lib.cell?_alloc_some (.cells #[.int .i64 lo, .int .i64 hi] 41) a1
  have a2_ := Lib.cell?_alloc_some (.cells #[.int .i64 lo, .int .i64 hi] 41) a2
  have a3_ := Lib.cell?_alloc_some (.cells #[.int .i64 lo, .int .i64 hi] 41) a3
  clear blk0 hB
  have q0 : decide (k ≥ 0) = true := decide_eq_true (by omega)
  have q1 : decide (k ≤ 9) = false := decide_eq_false (by omega)
  have q2 : (k == 11) = false := by rw [beq_eq_false_iff_ne]; exact hk2
  clear hk hk2
  go_enter Try.func13, Try.ntmps13
  go_wp2_with fail
  go_ret
  exact ⟨rfl, (by repeat (first | exact HB5.out | apply blw_alloc | apply blw_drewN | apply blw_drew))⟩
set_option maxHeartbeats 4000000 in
set_option maxRecDepth 100000 in
theorem node_0 (n : Int) (s : ByteArray) (A : Option Addr) (l : List S36) (c : Nat) (first : Bool) (w : World) :
    Calls Try.prog 13 #[.agg #[.int .i64 0, .int .i64 n, .string s, .slice A l.length c], .bool first] w (Ret0 (if n ≠ 0 then 3 else (if s.toList.isEmpty = false then 3 else (if l.length ≠ 0 then 3 else (0)))) w) := by
  have hu24 := Try.underlying24
  have hu36 := Try.underlying36
  have hu41 := Try.underlying41
  have hmk : ∀ (t : TypeId) (W : World), (Instr.makeMap t none).run Try.prog W = .ok (.map (some W.heap.size)) (W.alloc (.map #[] 0)) := fun t W => run_makeMap t W
  obtain ⟨w1, w2, w3, w4, w5, r1, r2, r3, r4, r5, hl, hB⟩ := num_chain ((w.alloc (.cells #[.int .i64 0, .int .i64 n, .string s, .slice A l.length c] 24)).alloc (.map #[] 0)) (w.heap.size + 1) (by
    have h := World.ownsMap_made (w.alloc (.cells #[.int .i64 0, .int .i64 n, .string s, .slice A l.length c] 24)) Try.prog 3 pairR
    simpa using h)
  have rk := hl 0 (by decide)
  rw [show numF 0 = (0, 0, false) from rfl] at rk
  clear hl
  have hlt5 : w.heap.size + 1 < w5.heap.size := by rw [hB.2.1]; first | (simp; done) | (simp; omega)
  have blk0 : w5.heap[w.heap.size]? = some (.cells #[.int .i64 0, .int .i64 n, .string s, .slice A l.length c] 24 (0, 0)) :=
    (hB.1 _ (by omega)).trans ((Below.heap_alloc _ _ _ (by simp)).trans (heap_alloc_new w _))
  have HB5 := Lib.hid (show Below w.heap.size w w5 from (blw_alloc (blw_alloc (Below.refl _ _) _) _).trans (hB.2.2.mono (by omega)))
  have a0 := (blk_cell blk0 0).trans rfl
  have a1 := (blk_cell blk0 1).trans rfl
  have a2 := (blk_cell blk0 2).trans rfl
  have a3 := (blk_cell blk0 3).trans rfl
  have a0_ := Lib.cell?_alloc_some (.cells #[.int .i64 0, .int .i64 0] 41) a0
  have a1_ := Lib.cell?_alloc_some (.cells #[.int .i64 0, .int .i64 0] 41) a1
  have a2_ := Lib.cell?_alloc_some (.cells #[.int .i64 0, .int .i64 0] 41) a2
  have a3_ := Lib.cell?_alloc_some (.cells #[.int .i64 0, .int .i64 0] 41) a3
  clear blk0 hB
  by_cases q : n ≠ 0
  · rw [if_pos q]
    have p0 : (n != 0) = true := by rw [bne_iff_ne]; exact q
    go_enter Try.func13, Try.ntmps13
    go_wp2_with fail
    go_ret
    exact ⟨rfl, (by repeat (first | exact HB5.out | apply blw_alloc | apply blw_drewN | apply blw_drew))⟩
  rw [if_neg q]
  have p0 : (n != 0) = false := by rw [bne_eq_false_iff_eq]; exact Decidable.not_not.1 q
  clear q
  by_cases q : s.toList.isEmpty = false
  · rw [if_pos q]
    have p1 : s.toList.isEmpty = false := q
    go_enter Try.func13, Try.ntmps13
    go_wp2_with fail
    go_ret
    exact ⟨rfl, (by repeat (first | exact HB5.out | apply blw_alloc | apply blw_drewN | apply blw_drew))⟩
  rw [if_neg q]
  have p1 : s.toList.isEmpty = true := by simpa using q
  clear q
  by_cases q : l.length ≠ 0
  · rw [if_pos q]
    have p2 : ((l.length : Int) != 0) = true := by rw [bne_iff_ne]; omega
    go_enter Try.func13, Try.ntmps13
    go_wp2_with fail
    go_ret
    exact ⟨rfl, (by repeat (first | exact HB5.out | apply blw_alloc | apply blw_drewN | apply blw_drew))⟩
  rw [if_neg q]
  have p2 : ((l.length : Int) != 0) = false := by rw [bne_eq_false_iff_eq]; omega
  have hl0 := Lib.hid (List.eq_nil_of_length_eq_zero (Decidable.not_not.1 q))
  clear q
  have hs0 : s = ⟨#[]⟩ := by
    have := List.isEmpty_iff.1 p1
    apply lb_ext; rw [← lb_toList, this]
  have hs4 : decide ((s.size : Int) > 4000) = false := by rw [hs0]; rfl
  clear hs0
  obtain ⟨w6, w7, w8, m1, m2, m3, ml, hM⟩ := most_chain ((w5.alloc (.cells #[.int .i64 0, .int .i64 0] 41)).alloc (.map #[] 0)) (w5.heap.size + 1) (by
    have h := World.ownsMap_made (w5.alloc (.cells #[.int .i64 0, .int .i64 0] 41)) Try.prog 3 (plainElem (H := Unit) Try.prog 3)
    simpa using h)
  have mk := ml 0 (by decide)
  rw [show mostF 0 = (0, false) from rfl] at mk
  have HB8 := Lib.hid (show Below w.heap.size w w8 from (blw_alloc (blw_alloc HB5.out _) _).trans (hM.2.2.mono (by have := HB5.out.size; omega)))
  have e0 : w8.heap[w.heap.size]? = w5.heap[w.heap.size]? := (hM.1 _ (by omega)).trans ((Below.heap_alloc _ _ _ (by simp; omega)).trans (Below.heap_alloc _ _ _ (by omega)))
  have cc : ∀ i, w8.cell? ⟨w.heap.size, i, none⟩ = w5.cell? ⟨w.heap.size, i, none⟩ := fun i => by unfold World.cell?; rw [e0]
  have b0 := (cc 0).trans a0
  have b1 := (cc 1).trans a1
  have b2 := (cc 2).trans a2
  have b3 := (cc 3).trans a3
  have b0_ := Lib.cell?_alloc_some (.map #[] 0) b0
  have b1_ := Lib.cell?_alloc_some (.map #[] 0) b1
  have b2_ := Lib.cell?_alloc_some (.map #[] 0) b2
  have b3_ := Lib.cell?_alloc_some (.map #[] 0) b3
  clear ml hM e0 cc
  have hl1 : decide ((0 : Int) < (l.length : Int)) = false := by rw [hl0.out]; rfl
  go_enter Try.func13, Try.ntmps13
  go_wp2_with fail
  refine wp_loop_rounds 1 ?_
  rw [rounds_succ]
  go_wp2_with fail
  all_goals first
    | (go_ret; exact ⟨rfl, (by repeat (first | exact HB8.out | apply blw_alloc | apply blw_drewN | apply blw_drew))⟩; done)
    | (exfalso; have z := congrArg List.length hl0.out; rw [List.length_nil] at z; omega)
    | (exfalso; have z := hl0.out; simp_all; done)
set_option maxHeartbeats 4000000 in
set_option maxRecDepth 100000 in
theorem node_1 (n : Int) (s : ByteArray) (A : Option Addr) (l : List S36) (c : Nat) (first : Bool) (w : World) :
    Calls Try.prog 13 #[.agg #[.int .i64 1, .int .i64 n, .string s, .slice A l.length c], .bool first] w (Ret0 (if s.toList.isEmpty = false then 3 else (if l.length ≠ 0 then 3 else (if n < 0 then 11 else (if n > 1 then 11 else (0))))) w) := by
  have hu24 := Try.underlying24
  have hu36 := Try.underlying36
  have hu41 := Try.underlying41
  have hmk : ∀ (t : TypeId) (W : World), (Instr.makeMap t none).run Try.prog W = .ok (.map (some W.heap.size)) (W.alloc (.map #[] 0)) := fun t W => run_makeMap t W
  obtain ⟨w1, w2, w3, w4, w5, r1, r2, r3, r4, r5, hl, hB⟩ := num_chain ((w.alloc (.cells #[.int .i64 1, .int .i64 n, .string s, .slice A l.length c] 24)).alloc (.map #[] 0)) (w.heap.size + 1) (by
    have h := World.ownsMap_made (w.alloc (.cells #[.int .i64 1, .int .i64 n, .string s, .slice A l.length c] 24)) Try.prog 3 pairR
    simpa using h)
  have rk := hl 1 (by decide)
  rw [show numF 1 = (0, 1, true) from rfl] at rk
  clear hl
  have hlt5 : w.heap.size + 1 < w5.heap.size := by rw [hB.2.1]; first | (simp; done) | (simp; omega)
  have blk0 : w5.heap[w.heap.size]? = some (.cells #[.int .i64 1, .int .i64 n, .string s, .slice A l.length c] 24 (0, 0)) :=
    (hB.1 _ (by omega)).trans ((Below.heap_alloc _ _ _ (by simp)).trans (heap_alloc_new w _))
  have HB5 := Lib.hid (show Below w.heap.size w w5 from (blw_alloc (blw_alloc (Below.refl _ _) _) _).trans (hB.2.2.mono (by omega)))
  have a0 := (blk_cell blk0 0).trans rfl
  have a1 := (blk_cell blk0 1).trans rfl
  have a2 := (blk_cell blk0 2).trans rfl
  have a3 := (blk_cell blk0 3).trans rfl
  have a0_ := Lib.cell?_alloc_some (.cells #[.int .i64 0, .int .i64 1] 41) a0
  have a1_ := Lib.cell?_alloc_some (.cells #[.int .i64 0, .int .i64 1] 41) a1
  have a2_ := Lib.cell?_alloc_some (.cells #[.int .i64 0, .int .i64 1] 41) a2
  have a3_ := Lib.cell?_alloc_some (.cells #[.int .i64 0, .int .i64 1] 41) a3
  clear blk0 hB
  by_cases q : s.toList.isEmpty = false
  · rw [if_pos q]
    have p0 : s.toList.isEmpty = false := q
    go_enter Try.func13, Try.ntmps13
    go_wp2_with fail
    go_ret
    exact ⟨rfl, (by repeat (first | exact HB5.out | apply blw_alloc | apply blw_drewN | apply blw_drew))⟩
  rw [if_neg q]
  have p0 : s.toList.isEmpty = true := by simpa using q
  clear q
  by_cases q : l.length ≠ 0
  · rw [if_pos q]
    have p1 : ((l.length : Int) != 0) = true := by rw [bne_iff_ne]; omega
    go_enter Try.func13, Try.ntmps13
    go_wp2_with fail
    go_ret
    exact ⟨rfl, (by repeat (first | exact HB5.out | apply blw_alloc | apply blw_drewN | apply blw_drew))⟩
  rw [if_neg q]
  have p1 : ((l.length : Int) != 0) = false := by rw [bne_eq_false_iff_eq]; omega
  have hl0 := Lib.hid (List.eq_nil_of_length_eq_zero (Decidable.not_not.1 q))
  clear q
  by_cases q : n < 0
  · rw [if_pos q]
    have p2 : decide (n < 0) = true := decide_eq_true q
    go_enter Try.func13, Try.ntmps13
    go_wp2_with fail
    go_ret
    exact ⟨rfl, (by repeat (first | exact HB5.out | apply blw_alloc | apply blw_drewN | apply blw_drew))⟩
  rw [if_neg q]
  have p2 : decide (n < 0) = false := decide_eq_false q
  clear q
  by_cases q : n > 1
  · rw [if_pos q]
    have p3 : decide (n > 1) = true := decide_eq_true q
    go_enter Try.func13, Try.ntmps13
    go_wp2_with fail
    go_ret
    exact ⟨rfl, (by repeat (first | exact HB5.out | apply blw_alloc | apply blw_drewN | apply blw_drew))⟩
  rw [if_neg q]
  have p3 : decide (n > 1) = false := decide_eq_false q
  clear q
  have hs0 : s = ⟨#[]⟩ := by
    have := List.isEmpty_iff.1 p0
    apply lb_ext; rw [← lb_toList, this]
  have hs4 : decide ((s.size : Int) > 4000) = false := by rw [hs0]; rfl
  clear hs0
  obtain ⟨w6, w7, w8, m1, m2, m3, ml, hM⟩ := most_chain ((w5.alloc (.cells #[.int .i64 0, .int .i64 1] 41)).alloc (.map #[] 0)) (w5.heap.size + 1) (by
    have h := World.ownsMap_made (w5.alloc (.cells #[.int .i64 0, .int .i64 1] 41)) Try.prog 3 (plainElem (H := Unit) Try.prog 3)
    simpa using h)
  have mk := ml 1 (by decide)
  rw [show mostF 1 = (0, false) from rfl] at mk
  have HB8 := Lib.hid (show Below w.heap.size w w8 from (blw_alloc (blw_alloc HB5.out _) _).trans (hM.2.2.mono (by have := HB5.out.size; omega)))
  have e0 : w8.heap[w.heap.size]? = w5.heap[w.heap.size]? := (hM.1 _ (by omega)).trans ((Below.heap_alloc _ _ _ (by simp; omega)).trans (Below.heap_alloc _ _ _ (by omega)))
  have cc : ∀ i, w8.cell? ⟨w.heap.size, i, none⟩ = w5.cell? ⟨w.heap.size, i, none⟩ := fun i => by unfold World.cell?; rw [e0]
  have b0 := (cc 0).trans a0
  have b1 := (cc 1).trans a1
  have b2 := (cc 2).trans a2
  have b3 := (cc 3).trans a3
  have b0_ := Lib.cell?_alloc_some (.map #[] 0) b0
  have b1_ := Lib.cell?_alloc_some (.map #[] 0) b1
  have b2_ := Lib.cell?_alloc_some (.map #[] 0) b2
  have b3_ := Lib.cell?_alloc_some (.map #[] 0) b3
  clear ml hM e0 cc
  have hl1 : decide ((0 : Int) < (l.length : Int)) = false := by rw [hl0.out]; rfl
  go_enter Try.func13, Try.ntmps13
  go_wp2_with fail
  refine wp_loop_rounds 1 ?_
  rw [rounds_succ]
  go_wp2_with fail
  all_goals first
    | (go_ret; exact ⟨rfl, (by repeat (first | exact HB8.out | apply blw_alloc | apply blw_drewN | apply blw_drew))⟩; done)
    | (exfalso; have z := congrArg List.length hl0.out; rw [List.length_nil] at z; omega)
    | (exfalso; have z := hl0.out; simp_all; done)
set_option maxHeartbeats 4000000 in
set_option maxRecDepth 100000 in
theorem node_2 (n : Int) (s : ByteArray) (A : Option Addr) (l : List S36) (c : Nat) (first : Bool) (w : World) :
    Calls Try.prog 13 #[.agg #[.int .i64 2, .int .i64 n, .string s, .slice A l.length c], .bool first] w (Ret0 (if s.toList.isEmpty = false then 3 else (if l.length ≠ 0 then 3 else (if n < (-9007199254740992) then 11 else (if n > 9007199254740992 then 11 else (0))))) w) := by
  have hu24 := Try.underlying24
  have hu36 := Try.underlying36
  have hu41 := Try.underlying41
  have hmk : ∀ (t : TypeId) (W : World), (Instr.makeMap t none).run Try.prog W = .ok (.map (some W.heap.size)) (W.alloc (.map #[] 0)) := fun t W => run_makeMap t W
  obtain ⟨w1, w2, w3, w4, w5, r1, r2, r3, r4, r5, hl, hB⟩ := num_chain ((w.alloc (.cells #[.int .i64 2, .int .i64 n, .string s, .slice A l.length c] 24)).alloc (.map #[] 0)) (w.heap.size + 1) (by
    have h := World.ownsMap_made (w.alloc (.cells #[.int .i64 2, .int .i64 n, .string s, .slice A l.length c] 24)) Try.prog 3 pairR
    simpa using h)
  have rk := hl 2 (by decide)
  rw [show numF 2 = ((-9007199254740992), 9007199254740992, true) from rfl] at rk
  clear hl
  have hlt5 : w.heap.size + 1 < w5.heap.size := by rw [hB.2.1]; first | (simp; done) | (simp; omega)
  have blk0 : w5.heap[w.heap.size]? = some (.cells #[.int .i64 2, .int .i64 n, .string s, .slice A l.length c] 24 (0, 0)) :=
    (hB.1 _ (by omega)).trans ((Below.heap_alloc _ _ _ (by simp)).trans (heap_alloc_new w _))
  have HB5 := Lib.hid (show Below w.heap.size w w5 from (blw_alloc (blw_alloc (Below.refl _ _) _) _).trans (hB.2.2.mono (by omega)))
  have a0 := (blk_cell blk0 0).trans rfl
  have a1 := (blk_cell blk0 1).trans rfl
  have a2 := (blk_cell blk0 2).trans rfl
  have a3 := (blk_cell blk0 3).trans rfl
  have a0_ := Lib.cell?_alloc_some (.cells #[.int .i64 (-9007199254740992), .int .i64 9007199254740992] 41) a0
  have a1_ := Lib.cell?_alloc_some (.cells #[.int .i64 (-9007199254740992), .int .i64 9007199254740992] 41) a1
  have a2_ := Lib.cell?_alloc_some (.cells #[.int .i64 (-9007199254740992), .int .i64 9007199254740992] 41) a2
  have a3_ := Lib.cell?_alloc_some (.cells #[.int .i64 (-9007199254740992), .int .i64 9007199254740992] 41) a3
  clear blk0 hB
  by_cases q : s.toList.isEmpty = false
  · rw [if_pos q]
    have p0 : s.toList.isEmpty = false := q
    go_enter Try.func13, Try.ntmps13
    go_wp2_with fail
    go_ret
    exact ⟨rfl, (by repeat (first | exact HB5.out | apply blw_alloc | apply blw_drewN | apply blw_drew))⟩
  rw [if_neg q]
  have p0 : s.toList.isEmpty = true := by simpa using q
  clear q
  by_cases q : l.length ≠ 0
  · rw [if_pos q]
    have p1 : ((l.length : Int) != 0) = true := by rw [bne_iff_ne]; omega
    go_enter Try.func13, Try.ntmps13
    go_wp2_with fail
    go_ret
    exact ⟨rfl, (by repeat (first | exact HB5.out | apply blw_alloc | apply blw_drewN | apply blw_drew))⟩
  rw [if_neg q]
  have p1 : ((l.length : Int) != 0) = false := by rw [bne_eq_false_iff_eq]; omega
  have hl0 := Lib.hid (List.eq_nil_of_length_eq_zero (Decidable.not_not.1 q))
  clear q
  by_cases q : n < (-9007199254740992)
  · rw [if_pos q]
    have p2 : decide (n < (-9007199254740992)) = true := decide_eq_true q
    go_enter Try.func13, Try.ntmps13
    go_wp2_with fail
    go_ret
    exact ⟨rfl, (by repeat (first | exact HB5.out | apply blw_alloc | apply blw_drewN | apply blw_drew))⟩
  rw [if_neg q]
  have p2 : decide (n < (-9007199254740992)) = false := decide_eq_false q
  clear q
  by_cases q : n > 9007199254740992
  · rw [if_pos q]
    have p3 : decide (n > 9007199254740992) = true := decide_eq_true q
    go_enter Try.func13, Try.ntmps13
    go_wp2_with fail
    go_ret
    exact ⟨rfl, (by repeat (first | exact HB5.out | apply blw_alloc | apply blw_drewN | apply blw_drew))⟩
  rw [if_neg q]
  have p3 : decide (n > 9007199254740992) = false := decide_eq_false q
  clear q
  have hs0 : s = ⟨#[]⟩ := by
    have := List.isEmpty_iff.1 p0
    apply lb_ext; rw [← lb_toList, this]
  have hs4 : decide ((s.size : Int) > 4000) = false := by rw [hs0]; rfl
  clear hs0
  obtain ⟨w6, w7, w8, m1, m2, m3, ml, hM⟩ := most_chain ((w5.alloc (.cells #[.int .i64 (-9007199254740992), .int .i64 9007199254740992] 41)).alloc (.map #[] 0)) (w5.heap.size + 1) (by
    have h := World.ownsMap_made (w5.alloc (.cells #[.int .i64 (-9007199254740992), .int .i64 9007199254740992] 41)) Try.prog 3 (plainElem (H := Unit) Try.prog 3)
    simpa using h)
  have mk := ml 2 (by decide)
  rw [show mostF 2 = (0, false) from rfl] at mk
  have HB8 := Lib.hid (show Below w.heap.size w w8 from (blw_alloc (blw_alloc HB5.out _) _).trans (hM.2.2.mono (by have := HB5.out.size; omega)))
  have e0 : w8.heap[w.heap.size]? = w5.heap[w.heap.size]? := (hM.1 _ (by omega)).trans ((Below.heap_alloc _ _ _ (by simp; omega)).trans (Below.heap_alloc _ _ _ (by omega)))
  have cc : ∀ i, w8.cell? ⟨w.heap.size, i, none⟩ = w5.cell? ⟨w.heap.size, i, none⟩ := fun i => by unfold World.cell?; rw [e0]
  have b0 := (cc 0).trans a0
  have b1 := (cc 1).trans a1
  have b2 := (cc 2).trans a2
  have b3 := (cc 3).trans a3
  have b0_ := Lib.cell?_alloc_some (.map #[] 0) b0
  have b1_ := Lib.cell?_alloc_some (.map #[] 0) b1
  have b2_ := Lib.cell?_alloc_some (.map #[] 0) b2
  have b3_ := Lib.cell?_alloc_some (.map #[] 0) b3
  clear ml hM e0 cc
  have hl1 : decide ((0 : Int) < (l.length : Int)) = false := by rw [hl0.out]; rfl
  go_enter Try.func13, Try.ntmps13
  go_wp2_with fail
  refine wp_loop_rounds 1 ?_
  rw [rounds_succ]
  go_wp2_with fail
  all_goals first
    | (go_ret; exact ⟨rfl, (by repeat (first | exact HB8.out | apply blw_alloc | apply blw_drewN | apply blw_drew))⟩; done)
    | (exfalso; have z := congrArg List.length hl0.out; rw [List.length_nil] at z; omega)
    | (exfalso; have z := hl0.out; simp_all; done)
set_option maxHeartbeats 4000000 in
set_option maxRecDepth 100000 in
theorem node_3 (n : Int) (s : ByteArray) (A : Option Addr) (l : List S36) (c : Nat) (first : Bool) (w : World) :
    Calls Try.prog 13 #[.agg #[.int .i64 3, .int .i64 n, .string s, .slice A l.length c], .bool first] w (Ret0 (if s.toList.isEmpty = false then 3 else (if l.length ≠ 0 then 3 else (if n < (-9223372036854775808) then 11 else (if n > 9223372036854775807 then 11 else (0))))) w) := by
  have hu24 := Try.underlying24
  have hu36 := Try.underlying36
  have hu41 := Try.underlying41
  have hmk : ∀ (t : TypeId) (W : World), (Instr.makeMap t none).run Try.prog W = .ok (.map (some W.heap.size)) (W.alloc (.map #[] 0)) := fun t W => run_makeMap t W
  obtain ⟨w1, w2, w3, w4, w5, r1, r2, r3, r4, r5, hl, hB⟩ := num_chain ((w.alloc (.cells #[.int .i64 3, .int .i64 n, .string s, .slice A l.length c] 24)).alloc (.map #[] 0)) (w.heap.size + 1) (by
    have h := World.ownsMap_made (w.alloc (.cells #[.int .i64 3, .int .i64 n, .string s, .slice A l.length c] 24)) Try.prog 3 pairR
    simpa using h)
  have rk := hl 3 (by decide)
  rw [show numF 3 = ((-9223372036854775808), 9223372036854775807, true) from rfl] at rk
  clear hl
  have hlt5 : w.heap.size + 1 < w5.heap.size := by rw [hB.2.1]; first | (simp; done) | (simp; omega)
  have blk0 : w5.heap[w.heap.size]? = some (.cells #[.int .i64 3, .int .i64 n, .string s, .slice A l.length c] 24 (0, 0)) :=
    (hB.1 _ (by omega)).trans ((Below.heap_alloc _ _ _ (by simp)).trans (heap_alloc_new w _))
  have HB5 := Lib.hid (show Below w.heap.size w w5 from (blw_alloc (blw_alloc (Below.refl _ _) _) _).trans (hB.2.2.mono (by omega)))
  have a0 := (blk_cell blk0 0).trans rfl
  have a1 := (blk_cell blk0 1).trans rfl
  have a2 := (blk_cell blk0 2).trans rfl
  have a3 := (blk_cell blk0 3).trans rfl
  have a0_ := Lib.cell?_alloc_some (.cells #[.int .i64 (-9223372036854775808), .int .i64 9223372036854775807] 41) a0
  have a1_ := Lib.cell?_alloc_some (.cells #[.int .i64 (-9223372036854775808), .int .i64 9223372036854775807] 41) a1
  have a2_ := Lib.cell?_alloc_some (.cells #[.int .i64 (-9223372036854775808), .int .i64 9223372036854775807] 41) a2
  have a3_ := Lib.cell?_alloc_some (.cells #[.int .i64 (-9223372036854775808), .int .i64 9223372036854775807] 41) a3
  clear blk0 hB
  by_cases q : s.toList.isEmpty = false
  · rw [if_pos q]
    have p0 : s.toList.isEmpty = false := q
    go_enter Try.func13, Try.ntmps13
    go_wp2_with fail
    go_ret
    exact ⟨rfl, (by repeat (first | exact HB5.out | apply blw_alloc | apply blw_drewN | apply blw_drew))⟩
  rw [if_neg q]
  have p0 : s.toList.isEmpty = true := by simpa using q
  clear q
  by_cases q : l.length ≠ 0
  · rw [if_pos q]
    have p1 : ((l.length : Int) != 0) = true := by rw [bne_iff_ne]; omega
    go_enter Try.func13, Try.ntmps13
    go_wp2_with fail
    go_ret
    exact ⟨rfl, (by repeat (first | exact HB5.out | apply blw_alloc | apply blw_drewN | apply blw_drew))⟩
  rw [if_neg q]
  have p1 : ((l.length : Int) != 0) = false := by rw [bne_eq_false_iff_eq]; omega
  have hl0 := Lib.hid (List.eq_nil_of_length_eq_zero (Decidable.not_not.1 q))
  clear q
  by_cases q : n < (-9223372036854775808)
  · rw [if_pos q]
    have p2 : decide (n < (-9223372036854775808)) = true := decide_eq_true q
    go_enter Try.func13, Try.ntmps13
    go_wp2_with fail
    go_ret
    exact ⟨rfl, (by repeat (first | exact HB5.out | apply blw_alloc | apply blw_drewN | apply blw_drew))⟩
  rw [if_neg q]
  have p2 : decide (n < (-9223372036854775808)) = false := decide_eq_false q
  clear q
  by_cases q : n > 9223372036854775807
  · rw [if_pos q]
    have p3 : decide (n > 9223372036854775807) = true := decide_eq_true q
    go_enter Try.func13, Try.ntmps13
    go_wp2_with fail
    go_ret
    exact ⟨rfl, (by repeat (first | exact HB5.out | apply blw_alloc | apply blw_drewN | apply blw_drew))⟩
  rw [if_neg q]
  have p3 : decide (n > 9223372036854775807) = false := decide_eq_false q
  clear q
  have hs0 : s = ⟨#[]⟩ := by
    have := List.isEmpty_iff.1 p0
    apply lb_ext; rw [← lb_toList, this]
  have hs4 : decide ((s.size : Int) > 4000) = false := by rw [hs0]; rfl
  clear hs0
  obtain ⟨w6, w7, w8, m1, m2, m3, ml, hM⟩ := most_chain ((w5.alloc (.cells #[.int .i64 (-9223372036854775808), .int .i64 9223372036854775807] 41)).alloc (.map #[] 0)) (w5.heap.size + 1) (by
    have h := World.ownsMap_made (w5.alloc (.cells #[.int .i64 (-9223372036854775808), .int .i64 9223372036854775807] 41)) Try.prog 3 (plainElem (H := Unit) Try.prog 3)
    simpa using h)
  have mk := ml 3 (by decide)
  rw [show mostF 3 = (0, false) from rfl] at mk
  have HB8 := Lib.hid (show Below w.heap.size w w8 from (blw_alloc (blw_alloc HB5.out _) _).trans (hM.2.2.mono (by have := HB5.out.size; omega)))
  have e0 : w8.heap[w.heap.size]? = w5.heap[w.heap.size]? := (hM.1 _ (by omega)).trans ((Below.heap_alloc _ _ _ (by simp; omega)).trans (Below.heap_alloc _ _ _ (by omega)))
  have cc : ∀ i, w8.cell? ⟨w.heap.size, i, none⟩ = w5.cell? ⟨w.heap.size, i, none⟩ := fun i => by unfold World.cell?; rw [e0]
  have b0 := (cc 0).trans a0
  have b1 := (cc 1).trans a1
  have b2 := (cc 2).trans a2
  have b3 := (cc 3).trans a3
  have b0_ := Lib.cell?_alloc_some (.map #[] 0) b0
  have b1_ := Lib.cell?_alloc_some (.map #[] 0) b1
  have b2_ := Lib.cell?_alloc_some (.map #[] 0) b2
  have b3_ := Lib.cell?_alloc_some (.map #[] 0) b3
  clear ml hM e0 cc
  have hl1 : decide ((0 : Int) < (l.length : Int)) = false := by rw [hl0.out]; rfl
  go_enter Try.func13, Try.ntmps13
  go_wp2_with fail
  refine wp_loop_rounds 1 ?_
  rw [rounds_succ]
  go_wp2_with fail
  all_goals first
    | (go_ret; exact ⟨rfl, (by repeat (first | exact HB8.out | apply blw_alloc | apply blw_drewN | apply blw_drew))⟩; done)
    | (exfalso; have z := congrArg List.length hl0.out; rw [List.length_nil] at z; omega)
    | (exfalso; have z := hl0.out; simp_all; done)
set_option maxHeartbeats 4000000 in
set_option maxRecDepth 100000 in
theorem node_4 (n : Int) (s : ByteArray) (A : Option Addr) (l : List S36) (c : Nat) (first : Bool) (w : World) :
    Calls Try.prog 13 #[.agg #[.int .i64 4, .int .i64 n, .string s, .slice A l.length c], .bool first] w (Ret0 (if s.toList.isEmpty = false then 3 else (if l.length ≠ 0 then 3 else (if n < 0 then 11 else (if n > 4194304 then 11 else (0))))) w) := by
  have hu24 := Try.underlying24
  have hu36 := Try.underlying36
  have hu41 := Try.underlying41
  have hmk : ∀ (t : TypeId) (W : World), (Instr.makeMap t none).run Try.prog W = .ok (.map (some W.heap.size)) (W.alloc (.map #[] 0)) := fun t W => run_makeMap t W
  obtain ⟨w1, w2, w3, w4, w5, r1, r2, r3, r4, r5, hl, hB⟩ := num_chain ((w.alloc (.cells #[.int .i64 4, .int .i64 n, .string s, .slice A l.length c] 24)).alloc (.map #[] 0)) (w.heap.size + 1) (by
    have h := World.ownsMap_made (w.alloc (.cells #[.int .i64 4, .int .i64 n, .string s, .slice A l.length c] 24)) Try.prog 3 pairR
    simpa using h)
  have rk := hl 4 (by decide)
  rw [show numF 4 = (0, 4194304, true) from rfl] at rk
  clear hl
  have hlt5 : w.heap.size + 1 < w5.heap.size := by rw [hB.2.1]; first | (simp; done) | (simp; omega)
  have blk0 : w5.heap[w.heap.size]? = some (.cells #[.int .i64 4, .int .i64 n, .string s, .slice A l.length c] 24 (0, 0)) :=
    (hB.1 _ (by omega)).trans ((Below.heap_alloc _ _ _ (by simp)).trans (heap_alloc_new w _))
  have HB5 := Lib.hid (show Below w.heap.size w w5 from (blw_alloc (blw_alloc (Below.refl _ _) _) _).trans (hB.2.2.mono (by omega)))
  have a0 := (blk_cell blk0 0).trans rfl
  have a1 := (blk_cell blk0 1).trans rfl
  have a2 := (blk_cell blk0 2).trans rfl
  have a3 := (blk_cell blk0 3).trans rfl
  have a0_ := Lib.cell?_alloc_some (.cells #[.int .i64 0, .int .i64 4194304] 41) a0
  have a1_ := Lib.cell?_alloc_some (.cells #[.int .i64 0, .int .i64 4194304] 41) a1
  have a2_ := Lib.cell?_alloc_some (.cells #[.int .i64 0, .int .i64 4194304] 41) a2
  have a3_ := Lib.cell?_alloc_some (.cells #[.int .i64 0, .int .i64 4194304] 41) a3
  clear blk0 hB
  by_cases q : s.toList.isEmpty = false
  · rw [if_pos q]
    have p0 : s.toList.isEmpty = false := q
    go_enter Try.func13, Try.ntmps13
    go_wp2_with fail
    go_ret
    exact ⟨rfl, (by repeat (first | exact HB5.out | apply blw_alloc | apply blw_drewN | apply blw_drew))⟩
  rw [if_neg q]
  have p0 : s.toList.isEmpty = true := by simpa using q
  clear q
  by_cases q : l.length ≠ 0
  · rw [if_pos q]
    have p1 : ((l.length : Int) != 0) = true := by rw [bne_iff_ne]; omega
    go_enter Try.func13, Try.ntmps13
    go_wp2_with fail
    go_ret
    exact ⟨rfl, (by repeat (first | exact HB5.out | apply blw_alloc | apply blw_drewN | apply blw_drew))⟩
  rw [if_neg q]
  have p1 : ((l.length : Int) != 0) = false := by rw [bne_eq_false_iff_eq]; omega
  have hl0 := Lib.hid (List.eq_nil_of_length_eq_zero (Decidable.not_not.1 q))
  clear q
  by_cases q : n < 0
  · rw [if_pos q]
    have p2 : decide (n < 0) = true := decide_eq_true q
    go_enter Try.func13, Try.ntmps13
    go_wp2_with fail
    go_ret
    exact ⟨rfl, (by repeat (first | exact HB5.out | apply blw_alloc | apply blw_drewN | apply blw_drew))⟩
  rw [if_neg q]
  have p2 : decide (n < 0) = false := decide_eq_false q
  clear q
  by_cases q : n > 4194304
  · rw [if_pos q]
    have p3 : decide (n > 4194304) = true := decide_eq_true q
    go_enter Try.func13, Try.ntmps13
    go_wp2_with fail
    go_ret
    exact ⟨rfl, (by repeat (first | exact HB5.out | apply blw_alloc | apply blw_drewN | apply blw_drew))⟩
  rw [if_neg q]
  have p3 : decide (n > 4194304) = false := decide_eq_false q
  clear q
  have hs0 : s = ⟨#[]⟩ := by
    have := List.isEmpty_iff.1 p0
    apply lb_ext; rw [← lb_toList, this]
  have hs4 : decide ((s.size : Int) > 4000) = false := by rw [hs0]; rfl
  clear hs0
  obtain ⟨w6, w7, w8, m1, m2, m3, ml, hM⟩ := most_chain ((w5.alloc (.cells #[.int .i64 0, .int .i64 4194304] 41)).alloc (.map #[] 0)) (w5.heap.size + 1) (by
    have h := World.ownsMap_made (w5.alloc (.cells #[.int .i64 0, .int .i64 4194304] 41)) Try.prog 3 (plainElem (H := Unit) Try.prog 3)
    simpa using h)
  have mk := ml 4 (by decide)
  rw [show mostF 4 = (0, false) from rfl] at mk
  have HB8 := Lib.hid (show Below w.heap.size w w8 from (blw_alloc (blw_alloc HB5.out _) _).trans (hM.2.2.mono (by have := HB5.out.size; omega)))
  have e0 : w8.heap[w.heap.size]? = w5.heap[w.heap.size]? := (hM.1 _ (by omega)).trans ((Below.heap_alloc _ _ _ (by simp; omega)).trans (Below.heap_alloc _ _ _ (by omega)))
  have cc : ∀ i, w8.cell? ⟨w.heap.size, i, none⟩ = w5.cell? ⟨w.heap.size, i, none⟩ := fun i => by unfold World.cell?; rw [e0]
  have b0 := (cc 0).trans a0
  have b1 := (cc 1).trans a1
  have b2 := (cc 2).trans a2
  have b3 := (cc 3).trans a3
  have b0_ := Lib.cell?_alloc_some (.map #[] 0) b0
  have b1_ := Lib.cell?_alloc_some (.map #[] 0) b1
  have b2_ := Lib.cell?_alloc_some (.map #[] 0) b2
  have b3_ := Lib.cell?_alloc_some (.map #[] 0) b3
  clear ml hM e0 cc
  have hl1 : decide ((0 : Int) < (l.length : Int)) = false := by rw [hl0.out]; rfl
  go_enter Try.func13, Try.ntmps13
  go_wp2_with fail
  refine wp_loop_rounds 1 ?_
  rw [rounds_succ]
  go_wp2_with fail
  all_goals first
    | (go_ret; exact ⟨rfl, (by repeat (first | exact HB8.out | apply blw_alloc | apply blw_drewN | apply blw_drew))⟩; done)
    | (exfalso; have z := congrArg List.length hl0.out; rw [List.length_nil] at z; omega)
    | (exfalso; have z := hl0.out; simp_all; done)
set_option maxHeartbeats 4000000 in
set_option maxRecDepth 100000 in
theorem node_5 (n : Int) (s : ByteArray) (A : Option Addr) (l : List S36) (c : Nat) (first : Bool) (w : World) :
    Calls Try.prog 13 #[.agg #[.int .i64 5, .int .i64 n, .string s, .slice A l.length c], .bool first] w (Ret0 (if n ≠ 0 then 3 else (if l.length ≠ 0 then 3 else (if (s.size : Int) > 4000 then 2 else 0))) w) := by
  have hu24 := Try.underlying24
  have hu36 := Try.underlying36
  have hu41 := Try.underlying41
  have hmk : ∀ (t : TypeId) (W : World), (Instr.makeMap t none).run Try.prog W = .ok (.map (some W.heap.size)) (W.alloc (.map #[] 0)) := fun t W => run_makeMap t W
  obtain ⟨w1, w2, w3, w4, w5, r1, r2, r3, r4, r5, hl, hB⟩ := num_chain ((w.alloc (.cells #[.int .i64 5, .int .i64 n, .string s, .slice A l.length c] 24)).alloc (.map #[] 0)) (w.heap.size + 1) (by
    have h := World.ownsMap_made (w.alloc (.cells #[.int .i64 5, .int .i64 n, .string s, .slice A l.length c] 24)) Try.prog 3 pairR
    simpa using h)
  have rk := hl 5 (by decide)
  rw [show numF 5 = (0, 0, false) from rfl] at rk
  clear hl
  have hlt5 : w.heap.size + 1 < w5.heap.size := by rw [hB.2.1]; first | (simp; done) | (simp; omega)
  have blk0 : w5.heap[w.heap.size]? = some (.cells #[.int .i64 5, .int .i64 n, .string s, .slice A l.length c] 24 (0, 0)) :=
    (hB.1 _ (by omega)).trans ((Below.heap_alloc _ _ _ (by simp)).trans (heap_alloc_new w _))
  have HB5 := Lib.hid (show Below w.heap.size w w5 from (blw_alloc (blw_alloc (Below.refl _ _) _) _).trans (hB.2.2.mono (by omega)))
  have a0 := (blk_cell blk0 0).trans rfl
  have a1 := (blk_cell blk0 1).trans rfl
  have a2 := (blk_cell blk0 2).trans rfl
  have a3 := (blk_cell blk0 3).trans rfl
  have a0_ := Lib.cell?_alloc_some (.cells #[.int .i64 0, .int .i64 0] 41) a0
  have a1_ := Lib.cell?_alloc_some (.cells #[.int .i64 0, .int .i64 0] 41) a1
  have a2_ := Lib.cell?_alloc_some (.cells #[.int .i64 0, .int .i64 0] 41) a2
  have a3_ := Lib.cell?_alloc_some (.cells #[.int .i64 0, .int .i64 0] 41) a3
  clear blk0 hB
  by_cases q : n ≠ 0
  · rw [if_pos q]
    have p0 : (n != 0) = true := by rw [bne_iff_ne]; exact q
    go_enter Try.func13, Try.ntmps13
    go_wp2_with fail
    go_ret
    exact ⟨rfl, (by repeat (first | exact HB5.out | apply blw_alloc | apply blw_drewN | apply blw_drew))⟩
  rw [if_neg q]
  have p0 : (n != 0) = false := by rw [bne_eq_false_iff_eq]; exact Decidable.not_not.1 q
  clear q
  by_cases q : l.length ≠ 0
  · rw [if_pos q]
    have p1 : ((l.length : Int) != 0) = true := by rw [bne_iff_ne]; omega
    go_enter Try.func13, Try.ntmps13
    go_wp2_with fail
    go_ret
    exact ⟨rfl, (by repeat (first | exact HB5.out | apply blw_alloc | apply blw_drewN | apply blw_drew))⟩
  rw [if_neg q]
  have p1 : ((l.length : Int) != 0) = false := by rw [bne_eq_false_iff_eq]; omega
  have hl0 := Lib.hid (List.eq_nil_of_length_eq_zero (Decidable.not_not.1 q))
  clear q
  obtain ⟨w6, w7, w8, m1, m2, m3, ml, hM⟩ := most_chain ((w5.alloc (.cells #[.int .i64 0, .int .i64 0] 41)).alloc (.map #[] 0)) (w5.heap.size + 1) (by
    have h := World.ownsMap_made (w5.alloc (.cells #[.int .i64 0, .int .i64 0] 41)) Try.prog 3 (plainElem (H := Unit) Try.prog 3)
    simpa using h)
  have mk := ml 5 (by decide)
  rw [show mostF 5 = (0, false) from rfl] at mk
  have HB8 := Lib.hid (show Below w.heap.size w w8 from (blw_alloc (blw_alloc HB5.out _) _).trans (hM.2.2.mono (by have := HB5.out.size; omega)))
  have e0 : w8.heap[w.heap.size]? = w5.heap[w.heap.size]? := (hM.1 _ (by omega)).trans ((Below.heap_alloc _ _ _ (by simp; omega)).trans (Below.heap_alloc _ _ _ (by omega)))
  have cc : ∀ i, w8.cell? ⟨w.heap.size, i, none⟩ = w5.cell? ⟨w.heap.size, i, none⟩ := fun i => by unfold World.cell?; rw [e0]
  have b0 := (cc 0).trans a0
  have b1 := (cc 1).trans a1
  have b2 := (cc 2).trans a2
  have b3 := (cc 3).trans a3
  have b0_ := Lib.cell?_alloc_some (.map #[] 0) b0
  have b1_ := Lib.cell?_alloc_some (.map #[] 0) b1
  have b2_ := Lib.cell?_alloc_some (.map #[] 0) b2
  have b3_ := Lib.cell?_alloc_some (.map #[] 0) b3
  clear ml hM e0 cc
  have hl1 : decide ((0 : Int) < (l.length : Int)) = false := by rw [hl0.out]; rfl
  by_cases q : (s.size : Int) > 4000
  · rw [if_pos q]
    have p9 : decide ((s.size : Int) > 4000) = true := decide_eq_true q
    go_enter Try.func13, Try.ntmps13
    go_wp2_with fail
    go_ret
    exact ⟨rfl, (by repeat (first | exact HB8.out | apply blw_alloc | apply blw_drewN | apply blw_drew))⟩
  rw [if_neg q]
  have p9 : decide ((s.size : Int) > 4000) = false := decide_eq_false q
  clear q
  go_enter Try.func13, Try.ntmps13
  go_wp2_with fail
  refine wp_loop_rounds 1 ?_
  rw [rounds_succ]
  go_wp2_with fail
  all_goals first
    | (go_ret; exact ⟨rfl, (by repeat (first | exact HB8.out | apply blw_alloc | apply blw_drewN | apply blw_drew))⟩; done)
    | (exfalso; have z := congrArg List.length hl0.out; rw [List.length_nil] at z; omega)
    | (exfalso; have z := hl0.out; simp_all; done)
set_option maxHeartbeats 4000000 in
set_option maxRecDepth 100000 in
theorem node_11 (n : Int) (s : ByteArray) (A : Option Addr) (l : List S36) (c : Nat) (first : Bool) (w : World) :
    Calls Try.prog 13 #[.agg #[.int .i64 11, .int .i64 n, .string s, .slice A l.length c], .bool true] w (Ret0 (if s.toList.isEmpty = false then 3 else (if l.length ≠ 0 then 3 else (if n < 0 then 11 else (if n > 9007199254740992 then 11 else (0))))) w) := by
  have hu24 := Try.underlying24
  have hu36 := Try.underlying36
  have hu41 := Try.underlying41
  have hmk : ∀ (t : TypeId) (W : World), (Instr.makeMap t none).run Try.prog W = .ok (.map (some W.heap.size)) (W.alloc (.map #[] 0)) := fun t W => run_makeMap t W
  obtain ⟨w1, w2, w3, w4, w5, r1, r2, r3, r4, r5, hl, hB⟩ := num_chain ((w.alloc (.cells #[.int .i64 11, .int .i64 n, .string s, .slice A l.length c] 24)).alloc (.map #[] 0)) (w.heap.size + 1) (by
    have h := World.ownsMap_made (w.alloc (.cells #[.int .i64 11, .int .i64 n, .string s, .slice A l.length c] 24)) Try.prog 3 pairR
    simpa using h)
  have rk := hl 11 (by decide)
  rw [show numF 11 = (0, 9007199254740992, true) from rfl] at rk
  clear hl
  have hlt5 : w.heap.size + 1 < w5.heap.size := by rw [hB.2.1]; first | (simp; done) | (simp; omega)
  have blk0 : w5.heap[w.heap.size]? = some (.cells #[.int .i64 11, .int .i64 n, .string s, .slice A l.length c] 24 (0, 0)) :=
    (hB.1 _ (by omega)).trans ((Below.heap_alloc _ _ _ (by simp)).trans (heap_alloc_new w _))
  have HB5 := Lib.hid (show Below w.heap.size w w5 from (blw_alloc (blw_alloc (Below.refl _ _) _) _).trans (hB.2.2.mono (by omega)))
  have a0 := (blk_cell blk0 0).trans rfl
  have a1 := (blk_cell blk0 1).trans rfl
  have a2 := (blk_cell blk0 2).trans rfl
  have a3 := (blk_cell blk0 3).trans rfl
  have a0_ := Lib.cell?_alloc_some (.cells #[.int .i64 0, .int .i64 9007199254740992] 41) a0
  have a1_ := Lib.cell?_alloc_some (.cells #[.int .i64 0, .int .i64 9007199254740992] 41) a1
  have a2_ := Lib.cell?_alloc_some (.cells #[.int .i64 0, .int .i64 9007199254740992] 41) a2
  have a3_ := Lib.cell?_alloc_some (.cells #[.int .i64 0, .int .i64 9007199254740992] 41) a3
  clear blk0 hB
  by_cases q : s.toList.isEmpty = false
  · rw [if_pos q]
    have p0 : s.toList.isEmpty = false := q
    go_enter Try.func13, Try.ntmps13
    go_wp2_with fail
    go_ret
    exact ⟨rfl, (by repeat (first | exact HB5.out | apply blw_alloc | apply blw_drewN | apply blw_drew))⟩
  rw [if_neg q]
  have p0 : s.toList.isEmpty = true := by simpa using q
  clear q
  by_cases q : l.length ≠ 0
  · rw [if_pos q]
    have p1 : ((l.length : Int) != 0) = true := by rw [bne_iff_ne]; omega
    go_enter Try.func13, Try.ntmps13
    go_wp2_with fail
    go_ret
    exact ⟨rfl, (by repeat (first | exact HB5.out | apply blw_alloc | apply blw_drewN | apply blw_drew))⟩
  rw [if_neg q]
  have p1 : ((l.length : Int) != 0) = false := by rw [bne_eq_false_iff_eq]; omega
  have hl0 := Lib.hid (List.eq_nil_of_length_eq_zero (Decidable.not_not.1 q))
  clear q
  by_cases q : n < 0
  · rw [if_pos q]
    have p2 : decide (n < 0) = true := decide_eq_true q
    go_enter Try.func13, Try.ntmps13
    go_wp2_with fail
    go_ret
    exact ⟨rfl, (by repeat (first | exact HB5.out | apply blw_alloc | apply blw_drewN | apply blw_drew))⟩
  rw [if_neg q]
  have p2 : decide (n < 0) = false := decide_eq_false q
  clear q
  by_cases q : n > 9007199254740992
  · rw [if_pos q]
    have p3 : decide (n > 9007199254740992) = true := decide_eq_true q
    go_enter Try.func13, Try.ntmps13
    go_wp2_with fail
    go_ret
    exact ⟨rfl, (by repeat (first | exact HB5.out | apply blw_alloc | apply blw_drewN | apply blw_drew))⟩
  rw [if_neg q]
  have p3 : decide (n > 9007199254740992) = false := decide_eq_false q
  clear q
  have hs0 : s = ⟨#[]⟩ := by
    have := List.isEmpty_iff.1 p0
    apply lb_ext; rw [← lb_toList, this]
  have hs4 : decide ((s.size : Int) > 4000) = false := by rw [hs0]; rfl
  clear hs0
  obtain ⟨w6, w7, w8, m1, m2, m3, ml, hM⟩ := most_chain ((w5.alloc (.cells #[.int .i64 0, .int .i64 9007199254740992] 41)).alloc (.map #[] 0)) (w5.heap.size + 1) (by
    have h := World.ownsMap_made (w5.alloc (.cells #[.int .i64 0, .int .i64 9007199254740992] 41)) Try.prog 3 (plainElem (H := Unit) Try.prog 3)
    simpa using h)
  have mk := ml 11 (by decide)
  rw [show mostF 11 = (0, false) from rfl] at mk
  have HB8 := Lib.hid (show Below w.heap.size w w8 from (blw_alloc (blw_alloc HB5.out _) _).trans (hM.2.2.mono (by have := HB5.out.size; omega)))
  have e0 : w8.heap[w.heap.size]? = w5.heap[w.heap.size]? := (hM.1 _ (by omega)).trans ((Below.heap_alloc _ _ _ (by simp; omega)).trans (Below.heap_alloc _ _ _ (by omega)))
  have cc : ∀ i, w8.cell? ⟨w.heap.size, i, none⟩ = w5.cell? ⟨w.heap.size, i, none⟩ := fun i => by unfold World.cell?; rw [e0]
  have b0 := (cc 0).trans a0
  have b1 := (cc 1).trans a1
  have b2 := (cc 2).trans a2
  have b3 := (cc 3).trans a3
  have b0_ := Lib.cell?_alloc_some (.map #[] 0) b0
  have b1_ := Lib.cell?_alloc_some (.map #[] 0) b1
  have b2_ := Lib.cell?_alloc_some (.map #[] 0) b2
  have b3_ := Lib.cell?_alloc_some (.map #[] 0) b3
  clear ml hM e0 cc
  have hl1 : decide ((0 : Int) < (l.length : Int)) = false := by rw [hl0.out]; rfl
  go_enter Try.func13, Try.ntmps13
  go_wp2_with fail
  refine wp_loop_rounds 1 ?_
  rw [rounds_succ]
  go_wp2_with fail
  all_goals first
    | (go_ret; exact ⟨rfl, (by repeat (first | exact HB8.out | apply blw_alloc | apply blw_drewN | apply blw_drew))⟩; done)
    | (exfalso; have z := congrArg List.length hl0.out; rw [List.length_nil] at z; omega)
    | (exfalso; have z := hl0.out; simp_all; done)
end Go.Proofs.Yticdlpkjjokbcaa.PVal
