/- Words for the walk of IntsJoins: its boxes, its closures. No statement is proved here. -/
import Derived.Test.YtcmdoffdfnnlcaaPIjx6
import Derived.Test.YtcmdoffdfnnlcaaPIjx5
import Derived.Test.YtcmdoffdfnnlcaaAid
import Derived.Test.YtcmdoffdfnnlcaaPure
import Derived.Test.YtcmdoffdfnnlcaaShelf
namespace Go.Proofs.Ytcmdoffdfnnlcaa.PIj
open Go.RowKit Go.Proofs.Ytcmdoffdfnnlcaa Go.Proofs.YtcmdoffdfnnlcaaW.PrintWords Go.Proofs.YtcmdoffdfnnlcaaW.PrintLast Go.Proofs.YtcmdoffdfnnlcaaW.PrintMore
set_option linter.unusedVariables false
set_option linter.unusedSimpArgs false
/-- The five boxes of the law's arguments. -/
structure Bx (w : World) (gb : Nat) (va vb vl vlo vhi : Value) (W : World) : Prop where
  bel : Below gb w W
  b0 : W.heap[gb]? = some (.cells #[va] 23 (0, 0))
  b1 : W.heap[gb + 1]? = some (.cells #[vb] 23 (0, 0))
  b2 : W.heap[gb + 2]? = some (.cells #[vl] 24 (0, 0))
  b3 : W.heap[gb + 3]? = some (.cells #[vlo] 3 (0, 0))
  b4 : W.heap[gb + 4]? = some (.cells #[vhi] 3 (0, 0))
section
variable {w W W' : World} {gb : Nat} {va vb vl vlo vhi : Value}
theorem Bx.lt (h : Bx w gb va vb vl vlo vhi W) : gb + 4 < W.heap.size := blk_lt h.b4
theorem Bx.step (h : Bx w gb va vb vl vlo vhi W) (hb : Below gb w W') (hk : ∀ k, k < gb + 5 → gb ≤ k → W'.heap[k]? = W.heap[k]?) : Bx w gb va vb vl vlo vhi W' :=
  ⟨hb, (hk _ (by omega) (by omega)).trans h.b0, (hk _ (by omega) (by omega)).trans h.b1, (hk _ (by omega) (by omega)).trans h.b2, (hk _ (by omega) (by omega)).trans h.b3, (hk _ (by omega) (by omega)).trans h.b4⟩
theorem Bx.low (h : Bx w gb va vb vl vlo vhi W) (hb : Below W.heap.size W W') : Bx w gb va vb vl vlo vhi W' :=
  h.step (h.bel.trans (hb.mono (by have := h.lt; omega))) (fun k hk _ => hb.block k (by have := h.lt; omega))
theorem Bx.kept {S : Nat → Prop} (h : Bx w gb va vb vl vlo vhi W) (hb : Below gb w W') (hk : Kept W W' S) (hS : ∀ k, S k → gb + 5 ≤ k) : Bx w gb va vb vl vlo vhi W' :=
  h.step hb (fun k hk' _ => hk.2 k (by have := h.lt; omega) (fun hs => by have := hS k hs; omega))
theorem Bx.grown {row : Option Nat} (h : Bx w gb va vb vl vlo vhi W) (hg : W.grownBy W' row) (hr : ∀ k, row = some k → gb + 5 ≤ k) : Bx w gb va vb vl vlo vhi W' :=
  h.step (h.bel.grown hg (by have := h.lt; omega) (fun k hk => by have := hr k hk; omega)) (fun k hk' _ => hg.block k (by have := h.lt; omega) (fun e => by have := hr k e.symm; omega))
theorem Bx.alloc (h : Bx w gb va vb vl vlo vhi W) (o : Obj) : Bx w gb va vb vl vlo vhi (W.alloc o) := h.low (blw_alloc (Below.refl _ _) o)
theorem Bx.drew (h : Bx w gb va vb vl vlo vhi W) : Bx w gb va vb vl vlo vhi W.drew := h.low (blw_drew (Below.refl _ _))
theorem Bx.drewN (h : Bx w gb va vb vl vlo vhi W) (n : Nat) : Bx w gb va vb vl vlo vhi (W.drewN n) := h.low (blw_drewN (Below.refl _ _) n)
theorem Bx.c0 (h : Bx w gb va vb vl vlo vhi W) : W.cell? ⟨gb, 0, none⟩ = some va := (blk_cell h.b0 0).trans rfl
theorem Bx.c1 (h : Bx w gb va vb vl vlo vhi W) : W.cell? ⟨gb + 1, 0, none⟩ = some vb := (blk_cell h.b1 0).trans rfl
theorem Bx.c2 (h : Bx w gb va vb vl vlo vhi W) : W.cell? ⟨gb + 2, 0, none⟩ = some vl := (blk_cell h.b2 0).trans rfl
theorem Bx.c3 (h : Bx w gb va vb vl vlo vhi W) : W.cell? ⟨gb + 3, 0, none⟩ = some vlo := (blk_cell h.b3 0).trans rfl
theorem Bx.c4 (h : Bx w gb va vb vl vlo vhi W) : W.cell? ⟨gb + 4, 0, none⟩ = some vhi := (blk_cell h.b4 0).trans rfl
/-- The boxes of a world w that has just been entered. -/
theorem Bx.start (w : World) (va vb vl vlo vhi : Value) : Bx w w.heap.size va vb vl vlo vhi (((((w.alloc (.cells #[va] 23)).alloc (.cells #[vb] 23)).alloc (.cells #[vl] 24)).alloc (.cells #[vlo] 3)).alloc (.cells #[vhi] 3)) := by
  have h0 := heap_alloc_new w (.cells #[va] 23)
  have h1 := heap_alloc_new (w.alloc (.cells #[va] 23)) (.cells #[vb] 23)
  have h2 := heap_alloc_new ((w.alloc (.cells #[va] 23)).alloc (.cells #[vb] 23)) (.cells #[vl] 24)
  have h3 := heap_alloc_new (((w.alloc (.cells #[va] 23)).alloc (.cells #[vb] 23)).alloc (.cells #[vl] 24)) (.cells #[vlo] 3)
  have h4 := heap_alloc_new ((((w.alloc (.cells #[va] 23)).alloc (.cells #[vb] 23)).alloc (.cells #[vl] 24)).alloc (.cells #[vlo] 3)) (.cells #[vhi] 3)
  simp only [World.size_alloc] at h1 h2 h3 h4
  refine ⟨blw_alloc (blw_alloc (blw_alloc (blw_alloc (blw_alloc (Below.refl _ _) _) _) _) _) _, ?_, ?_, ?_, ?_, ?_⟩
  · exact (Below.heap_alloc _ _ _ (by first | (simp; done) | (simp; omega))).trans ((Below.heap_alloc _ _ _ (by first | (simp; done) | (simp; omega))).trans ((Below.heap_alloc _ _ _ (by first | (simp; done) | (simp; omega))).trans ((Below.heap_alloc _ _ _ (by simp)).trans h0)))
  · exact (Below.heap_alloc _ _ _ (by first | (simp; done) | (simp; omega))).trans ((Below.heap_alloc _ _ _ (by first | (simp; done) | (simp; omega))).trans ((Below.heap_alloc _ _ _ (by simp)).trans h1))
  · exact (Below.heap_alloc _ _ _ (by first | (simp; done) | (simp; omega))).trans ((Below.heap_alloc _ _ _ (by simp)).trans h2)
  · exact (Below.heap_alloc _ _ _ (by simp)).trans h3
  · exact h4
/-- Plain answers of the closures. -/
def memB (l : List S36) (n : Int) : Bool := l.any fun r => decide (r.f0 ≤ n) && decide (n ≤ r.f1)
end
theorem member_ev (l : List S36) (n : Int) (hl : l.length ≤ 1000000000000) : ∀ (d j : Nat), l.length - j ≤ d → j ≤ l.length → Ev (fun k => claplaw1_member.l0 k n l (l.length : Int) (j : Int)) (memB (l.drop j) n) := by
  intro d
  induction d with
  | zero =>
    intro j hd hj
    obtain rfl : j = l.length := by omega
    apply Ev.succ
    simp only [claplaw1_member.l0, if_neg (show ¬ (l.length : Int) < (l.length : Int) by omega)]
    rw [List.drop_length]; exact Ev.now _
  | succ d ih =>
    intro j hd hj
    by_cases hlt : j < l.length
    · have c1 : (j : Int) < (l.length : Int) := Int.ofNat_lt.2 hlt
      have c2 : (0 : Int) ≤ (j : Int) := Int.natCast_nonneg j
      have e2 : wrap64 ((j : Int) + 1) = ((j + 1 : Nat) : Int) := by rw [wrap_eq (by omega) (by omega)]; omega
      have hrd : rd_T36 l (j : Int) = l[j] := by simp [rd_T36, List.getD_eq_getElem?_getD, List.getElem?_eq_getElem hlt]
      have R := ih (j + 1) (by omega) hlt
      rw [List.drop_eq_getElem_cons hlt]
      apply Ev.succ
      simp only [claplaw1_member.l0, if_pos c1, if_pos c2, hrd, e2]
      have em : memB (l[j] :: l.drop (j + 1)) n = ((decide (l[j].f0 ≤ n) && decide (n ≤ l[j].f1)) || memB (l.drop (j + 1)) n) := rfl
      rw [em]
      by_cases h1 : n ≥ l[j].f0
      · by_cases h2 : n ≤ l[j].f1
        · simp only [if_pos h1, if_pos h2]
          rw [show (decide (l[j].f0 ≤ n) && decide (n ≤ l[j].f1)) = true by simp [h1, h2]]
          exact Ev.now _
        · simp only [if_pos h1, if_neg h2]
          rw [show (decide (l[j].f0 ≤ n) && decide (n ≤ l[j].f1)) = false by simp [h2], Bool.false_or]
          exact R
      · simp only [if_neg h1]
        rw [show (decide (l[j].f0 ≤ n) && decide (n ≤ l[j].f1)) = false by simp [h1], Bool.false_or]
        exact R
    · obtain rfl : j = l.length := by omega
      apply Ev.succ
      simp only [claplaw1_member.l0, if_neg (show ¬ (l.length : Int) < (l.length : Int) by omega)]
      rw [List.drop_length]; exact Ev.now _
theorem member_any (A : Option Addr) (c : Nat) (l : List S36) (n : Int) (w : World) (hC : Kd.C k36 w A l.length l) (hc : l.length ≤ c) (hl : l.length ≤ 1000000000000) : Calls Try.prog 15 #[.slice A l.length c, .int .i64 n] w fun e w' => e = .returned (.bool (memB l n)) ∧ Below w.heap.size w w' := by
  obtain ⟨k, hk⟩ := Ev.rounds (member_ev l n hl l.length 0 (by omega) (by omega))
  rw [List.drop_zero] at hk
  exact claplaw1_member.calls k A c l n _ w hC hc hk
theorem index_ev (l : List Int) (n : Int) (hl : l.length ≤ 1000000000000) : ∀ (d j : Nat), l.length - j ≤ d → j ≤ l.length → ∃ r, Ev (fun k => slices_Index_int_int.l0 k l n (l.length : Int) (j : Int)) r ∧ decide (r ≥ 0) = (l.drop j).contains n := by
  intro d
  induction d with
  | zero =>
    intro j hd hj
    obtain rfl : j = l.length := by omega
    refine ⟨-1, ?_, by rw [List.drop_length]; rfl⟩
    apply Ev.succ
    simp only [slices_Index_int_int.l0, if_neg (show ¬ (l.length : Int) < (l.length : Int) by omega)]
    exact Ev.now _
  | succ d ih =>
    intro j hd hj
    by_cases hlt : j < l.length
    · have c1 : (j : Int) < (l.length : Int) := Int.ofNat_lt.2 hlt
      have c2 : (0 : Int) ≤ (j : Int) := Int.natCast_nonneg j
      have e2 : wrap64 ((j : Int) + 1) = ((j + 1 : Nat) : Int) := by rw [wrap_eq (by omega) (by omega)]; omega
      have hrd : rd l (j : Int) = l[j] := by simp [rd, List.getD_eq_getElem?_getD, List.getElem?_eq_getElem hlt]
      obtain ⟨r, R, hr⟩ := ih (j + 1) (by omega) hlt
      rw [List.drop_eq_getElem_cons hlt, List.contains_cons]
      by_cases h1 : n = l[j]
      · refine ⟨j, ?_, by rw [show (n == l[j]) = true by simp [h1]]; simp⟩
        apply Ev.succ
        simp only [slices_Index_int_int.l0, if_pos c1, if_pos c2, hrd, if_pos h1]
        exact Ev.now _
      · refine ⟨r, ?_, by rw [show (n == l[j]) = false by simpa using h1, Bool.false_or]; exact hr⟩
        apply Ev.succ
        simp only [slices_Index_int_int.l0, if_pos c1, if_pos c2, hrd, if_neg h1, e2]
        exact R
    · obtain rfl : j = l.length := by omega
      refine ⟨-1, ?_, by rw [List.drop_length]; rfl⟩
      apply Ev.succ
      simp only [slices_Index_int_int.l0, if_neg (show ¬ (l.length : Int) < (l.length : Int) by omega)]
      exact Ev.now _
theorem contains_any (A : Option Addr) (c : Nat) (l : List Int) (n : Int) (w : World) (hC : Kd.C (Kd.int .i64) w A l.length l) (hc : l.length ≤ c) (hl : l.length ≤ 1000000000000) : Calls Try.prog 12 #[.slice A l.length c, .int .i64 n] w fun e w' => e = .returned (.bool (decide (n ∈ l))) ∧ Drawn0 w w' := by
  obtain ⟨r, hE, hr⟩ := index_ev l n hl l.length 0 (by omega) (by omega)
  rw [List.drop_zero] at hr
  obtain ⟨k, hk⟩ := Ev.rounds hE
  refine slices_Contains_int_int.calls k A c l n _ w hC hc ?_
  simp only [slices_Contains_int_int.f, slices_Index_int_int.f]
  have hk' : slices_Index_int_int.l0 k l n (l.length : Int) 0 = some r := hk
  rw [hk', Option.bind_some, hr]
  simp
section
variable {w : World} {gb : Nat} {A B L : Option Addr} {a b c d : Nat} {x y : List S36} {l : List Int} {lo hi : Int}
set_option maxHeartbeats 4000000 in
set_option maxRecDepth 1000000 in
theorem clo1_any (n : Int) (va vb vlo vhi : Value) (W : World) (hX : Bx w gb va vb (.slice L l.length c) vlo vhi W) (hC : Kd.C (Kd.int .i64) W L l.length l) (hc : l.length ≤ c) (hl : l.length ≤ 1000000000000) :
    Calls Try.prog 11 #[.int .i64 n, .pointer (some ⟨gb + 2, 0, none⟩)] W fun e w' => e = .returned (.bool (decide (n ∈ l))) ∧ Below W.heap.size W w' := by
  have k2 := hX.c2
  have HC := Lib.hid hC
  clear hX hC
  go_enter Try.func11, Try.ntmps11
  go_wp2_with (go_at_call 12; refine (contains_any L c l n _ HC.out hc hl).mono ?_; rintro e w' ⟨rfl, ⟨nd, rfl⟩⟩)
  go_ret
  exact ⟨rfl, blw_drewN (Below.refl _ _) nd⟩
set_option maxHeartbeats 4000000 in
set_option maxRecDepth 1000000 in
theorem clo2_any (n : Int) (vl vlo vhi : Value) (W : World) (hX : Bx w gb (.slice A x.length a) (.slice B y.length b) vl vlo vhi W) (hA : Kd.C k36 w A x.length x) (ha : x.length ≤ a) (hB : Kd.C k36 w B y.length y) (hb : y.length ≤ b) (hx : x.length ≤ 1000000000000) (hy : y.length ≤ 1000000000000) (hgb : gb = w.heap.size) :
    Calls Try.prog 14 #[.int .i64 n, .pointer (some ⟨gb, 0, none⟩), .pointer (some ⟨gb + 1, 0, none⟩)] W fun e w' => e = .returned (.bool (memB x n || memB y n)) ∧ Below W.heap.size W w' := by
  have hu23 := Try.underlying23
  have k0 := hX.c0
  have k1 := hX.c1
  have HX := Lib.hid hX
  have HA := Lib.hid (Kd.C_below hA (hgb ▸ hX.bel))
  have HB := Lib.hid (Kd.C_below hB (hgb ▸ hX.bel))
  clear hX hA hB hgb
  cases hm : memB x n
  all_goals
    have HM := Lib.hid hm
    clear hm
    go_enter Try.func14, Try.ntmps14
    go_wp2_with (first | (go_at_call_of 15 (Value.slice A x.length a); refine (member_any A a x n _ HA.out ha hx).mono ?_; rw [HM.out]; rintro e w1 ⟨rfl, h1⟩; have k1 := (HX.out.low h1).c1; have HB1 := Lib.hid (Kd.C_below HB.out h1); have H1 := Lib.hid h1; clear h1) | (go_at_call_of 15 (Value.slice B y.length b); refine (member_any B b y n _ HB1.out hb hy).mono ?_; rintro e w2 ⟨rfl, h2⟩; have H2 := Lib.hid h2; clear h2))
    go_ret
    first | exact ⟨rfl, H1.out⟩ | exact ⟨rfl, blw_then H1.out H2.out⟩
set_option maxHeartbeats 4000000 in
set_option maxRecDepth 1000000 in
theorem clo3_any (n : Int) (vl vlo vhi : Value) (W : World) (hX : Bx w gb (.slice A x.length a) (.slice B y.length b) vl vlo vhi W) (hA : Kd.C k36 w A x.length x) (ha : x.length ≤ a) (hB : Kd.C k36 w B y.length y) (hb : y.length ≤ b) (hx : x.length ≤ 1000000000000) (hy : y.length ≤ 1000000000000) (hgb : gb = w.heap.size) :
    Calls Try.prog 16 #[.int .i64 n, .pointer (some ⟨gb, 0, none⟩), .pointer (some ⟨gb + 1, 0, none⟩)] W fun e w' => e = .returned (.bool (memB x n && memB y n)) ∧ Below W.heap.size W w' := by
  have hu23 := Try.underlying23
  have k0 := hX.c0
  have k1 := hX.c1
  have HX := Lib.hid hX
  have HA := Lib.hid (Kd.C_below hA (hgb ▸ hX.bel))
  have HB := Lib.hid (Kd.C_below hB (hgb ▸ hX.bel))
  clear hX hA hB hgb
  cases hm : memB x n
  all_goals
    have HM := Lib.hid hm
    clear hm
    go_enter Try.func16, Try.ntmps16
    go_wp2_with (first | (go_at_call_of 15 (Value.slice A x.length a); refine (member_any A a x n _ HA.out ha hx).mono ?_; rw [HM.out]; rintro e w1 ⟨rfl, h1⟩; have k1 := (HX.out.low h1).c1; have HB1 := Lib.hid (Kd.C_below HB.out h1); have H1 := Lib.hid h1; clear h1) | (go_at_call_of 15 (Value.slice B y.length b); refine (member_any B b y n _ HB1.out hb hy).mono ?_; rintro e w2 ⟨rfl, h2⟩; have H2 := Lib.hid h2; clear h2))
    go_ret
    first | exact ⟨rfl, H1.out⟩ | exact ⟨rfl, blw_then H1.out H2.out⟩
set_option maxHeartbeats 4000000 in
set_option maxRecDepth 1000000 in
theorem clo4_any (n : Int) (vl vlo vhi : Value) (W : World) (hX : Bx w gb (.slice A x.length a) (.slice B y.length b) vl vlo vhi W) (hA : Kd.C k36 w A x.length x) (ha : x.length ≤ a) (hB : Kd.C k36 w B y.length y) (hb : y.length ≤ b) (hx : x.length ≤ 1000000000000) (hy : y.length ≤ 1000000000000) (hgb : gb = w.heap.size) :
    Calls Try.prog 17 #[.int .i64 n, .pointer (some ⟨gb, 0, none⟩), .pointer (some ⟨gb + 1, 0, none⟩)] W fun e w' => e = .returned (.bool (memB x n && !memB y n)) ∧ Below W.heap.size W w' := by
  have hu23 := Try.underlying23
  have k0 := hX.c0
  have k1 := hX.c1
  have HX := Lib.hid hX
  have HA := Lib.hid (Kd.C_below hA (hgb ▸ hX.bel))
  have HB := Lib.hid (Kd.C_below hB (hgb ▸ hX.bel))
  clear hX hA hB hgb
  cases hm : memB x n
  all_goals
    have HM := Lib.hid hm
    clear hm
    go_enter Try.func17, Try.ntmps17
    go_wp2_with (first | (go_at_call_of 15 (Value.slice A x.length a); refine (member_any A a x n _ HA.out ha hx).mono ?_; rw [HM.out]; rintro e w1 ⟨rfl, h1⟩; have k1 := (HX.out.low h1).c1; have HB1 := Lib.hid (Kd.C_below HB.out h1); have H1 := Lib.hid h1; clear h1) | (go_at_call_of 15 (Value.slice B y.length b); refine (member_any B b y n _ HB1.out hb hy).mono ?_; rintro e w2 ⟨rfl, h2⟩; have H2 := Lib.hid h2; clear h2))
    go_ret
    first | exact ⟨rfl, H1.out⟩ | exact ⟨rfl, blw_then H1.out H2.out⟩
set_option maxHeartbeats 4000000 in
set_option maxRecDepth 1000000 in
theorem clo5_any (n : Int) (vb vl : Value) (W : World) (hX : Bx w gb (.slice A x.length a) vb vl (.int .i64 lo) (.int .i64 hi) W) (hA : Kd.C k36 w A x.length x) (ha : x.length ≤ a) (hx : x.length ≤ 1000000000000) (hgb : gb = w.heap.size) :
    Calls Try.prog 23 #[.int .i64 n, .pointer (some ⟨gb + 3, 0, none⟩), .pointer (some ⟨gb + 4, 0, none⟩), .pointer (some ⟨gb, 0, none⟩)] W fun e w' => e = .returned (.bool (decide (lo ≤ n) && decide (n ≤ hi) && !memB x n)) ∧ Below W.heap.size W w' := by
  have hu23 := Try.underlying23
  have k0 := hX.c0
  have k3 := hX.c3
  have k4 := hX.c4
  have HA := Lib.hid (Kd.C_below hA (hgb ▸ hX.bel))
  clear hX hA hgb
  by_cases h1 : n ≥ lo
  · by_cases h2 : n ≤ hi
    · have e1 : decide (n ≥ lo) = true := decide_eq_true h1
      have e2 : decide (n ≤ hi) = true := decide_eq_true h2
      rw [show (decide (lo ≤ n) && decide (n ≤ hi) && !memB x n) = !memB x n by simp [h2]; intro q; omega]
      clear h1 h2
      go_enter Try.func23, Try.ntmps23
      go_wp2_with (go_at_call 15; refine (member_any A a x n _ HA.out ha hx).mono ?_; rintro e w1 ⟨rfl, h1⟩; have H1 := Lib.hid h1; clear h1)
      go_ret
      exact ⟨rfl, H1.out⟩
    · have e1 : decide (n ≥ lo) = true := decide_eq_true h1
      have e2 : decide (n ≤ hi) = false := decide_eq_false h2
      rw [show (decide (lo ≤ n) && decide (n ≤ hi) && !memB x n) = false by simp [h2]]
      clear h1 h2
      go_enter Try.func23, Try.ntmps23
      go_wp2_with fail
      go_ret
      exact ⟨rfl, Below.refl _ _⟩
  · have e1 : decide (n ≥ lo) = false := decide_eq_false h1
    rw [show (decide (lo ≤ n) && decide (n ≤ hi) && !memB x n) = false by simp; intro q; omega]
    clear h1
    go_enter Try.func23, Try.ntmps23
    go_wp2_with fail
    go_ret
    exact ⟨rfl, Below.refl _ _⟩
end
end Go.Proofs.Ytcmdoffdfnnlcaa.PIj
