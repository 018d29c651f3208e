/- The plain laws of the functions of ints that IntsJoins calls. No statement is proved here. -/
import Derived.Test.YtcmdoffdfnnlcaaIjMade
import Derived.Test.YtcmdoffdfnnlcaaPIjx2
import Derived.Test.YtcmdoffdfnnlcaaPIjx3
import Derived.Test.YtcmdoffdfnnlcaaPIjx4
import Derived.Test.YtcmdoffdfnnlcaaPIjx3
import Derived.Test.YtcmdoffdfnnlcaaPIjx7
import Derived.Test.YtcmdoffdfnnlcaaPIjx7
import Derived.Test.YtcmdoffdfnnlcaaPIjx8
import Derived.Test.YtcmdoffdfnnlcaaPIjx8
namespace Go.Proofs.Ytcmdoffdfnnlcaa.PIj
open Go.RowKit Go.Proofs.Ytcmdoffdfnnlcaa Go.Proofs.Ytcmdoffdfnnlcaa.Plug Go.Proofs.YtcmdoffdfnnlcaaW.PrintWords Go.Proofs.YtcmdoffdfnnlcaaW.PrintLast Go.Proofs.YtcmdoffdfnnlcaaW.PrintMore
set_option linter.unusedVariables false
set_option linter.unusedSimpArgs false
theorem rd_of (l : List S36) (i : Nat) (h : i < l.length) : rd_T36 l (i : Int) = l[i] := by simp [rd_T36, List.getD_eq_getElem?_getD, List.getElem?_eq_getElem h]
/-- A range that is one. -/
def okR (r : S36) : Prop := (-9007199254740992 ≤ r.f0 ∧ r.f0 ≤ 9007199254740992) ∧ (-9007199254740992 ≤ r.f1 ∧ r.f1 ≤ 9007199254740992) ∧ r.f0 ≤ r.f1
instance (r : S36) : Decidable (okR r) := by unfold okR; exact inferInstance
/-- The error of ranges behind one that ends at 'last'. -/
def errG (last : Int) : List S36 → Int
  | [] => 0
  | r :: t => if okR r then (if r.f0 ≤ last + 1 then 9 else errG r.f1 t) else 11
theorem errG_cons (last : Int) (r : S36) (t : List S36) : errG last (r :: t) = if okR r then (if r.f0 ≤ last + 1 then 9 else errG r.f1 t) else 11 := rfl
def errF (l : List S36) : Int := if (l.length : Int) > 500 then 2 else errG (-9007199254740994) l
theorem right_f (x : Int) : claplaw1_right.f x = some (decide (-9007199254740992 ≤ x ∧ x ≤ 9007199254740992)) := by
  unfold claplaw1_right.f
  by_cases h : x ≥ -9007199254740992
  · rw [if_pos h]; congr 1; exact decide_eq_decide.2 ⟨fun q => ⟨h, q⟩, fun q => q.2⟩
  · rw [if_neg h]; congr 1; rw [eq_comm, decide_eq_false_iff_not]; omega
theorem setErr_ev (l : List S36) (hl : l.length ≤ 500) : ∀ (d i : Nat) (last : Int), l.length - i ≤ d → i ≤ l.length → -9007199254740994 ≤ last → last ≤ 9007199254740992 →
    Ev (fun k => claplaw1_setErr.l0 k last l (l.length : Int) i) (errG last (l.drop i)) := by
  intro d
  induction d with
  | zero =>
    intro i last h1 h2 h3 h4
    obtain rfl : i = l.length := by omega
    apply Ev.succ
    simp only [claplaw1_setErr.l0, if_neg (show ¬ (l.length : Int) < l.length by omega), List.drop_length]
    exact Ev.now _
  | succ d ih =>
    intro i last h1 h2 h3 h4
    by_cases q : i < l.length
    · apply Ev.succ
      simp only [claplaw1_setErr.l0, if_pos (show (i : Int) < l.length by omega), if_pos (show (0 : Int) ≤ i by omega), rd_of l i q, right_f, Option.bind_some, decide_eq_true_eq]
      rw [List.drop_eq_getElem_cons q]
      generalize hr : l[i] = r
      by_cases a : -9007199254740992 ≤ r.f0 ∧ r.f0 ≤ 9007199254740992
      · by_cases b : -9007199254740992 ≤ r.f1 ∧ r.f1 ≤ 9007199254740992
        · simp only [if_pos a, if_pos b]
          apply Ev.succ
          by_cases c : r.f1 < r.f0
          · have e : errG last (r :: l.drop (i + 1)) = 11 := by rw [errG_cons, if_neg (fun q => by have := q.2.2; omega)]
            rw [e]
            simp only [claplaw1_setErr.j1, decide_eq_true c, if_true]
            exact Ev.now _
          · have e : errG last (r :: l.drop (i + 1)) = if r.f0 ≤ last + 1 then 9 else errG r.f1 (l.drop (i + 1)) := by rw [errG_cons, if_pos ⟨a, b, by omega⟩]
            rw [e]
            simp only [claplaw1_setErr.j1, decide_eq_false c, Bool.false_eq_true, if_false]
            rw [wrap_eq (show -9223372036854775808 ≤ last + 1 by omega) (by omega), wrap_eq (show -9223372036854775808 ≤ (i : Int) + 1 by omega) (by omega)]
            by_cases f : r.f0 ≤ last + 1
            · simp only [if_pos f]; exact Ev.now _
            · simp only [if_neg f]
              exact_mod_cast ih (i + 1) r.f1 (by omega) (by omega) (by omega) (by omega)
        · have e : errG last (r :: l.drop (i + 1)) = 11 := by rw [errG_cons, if_neg (fun q => b q.2.1)]
          rw [e]
          simp only [if_pos a, if_neg b]
          apply Ev.succ
          simp only [claplaw1_setErr.j1, if_true]
          exact Ev.now _
      · have e : errG last (r :: l.drop (i + 1)) = 11 := by rw [errG_cons, if_neg (fun q => a q.1)]
        rw [e]
        simp only [if_neg a]
        apply Ev.succ
        simp only [claplaw1_setErr.j1, if_true]
        exact Ev.now _
    · obtain rfl : i = l.length := by omega
      apply Ev.succ
      simp only [claplaw1_setErr.l0, if_neg (show ¬ (l.length : Int) < l.length by omega), List.drop_length]
      exact Ev.now _
theorem setErr_f (l : List S36) : Ev (fun k => claplaw1_setErr.f k l) (errF l) := by
  unfold errF
  simp only [claplaw1_setErr.f]
  by_cases h : (l.length : Int) > 500
  · simp only [if_pos h]; exact Ev.now _
  · simp only [if_neg h]
    exact setErr_ev l (by omega) l.length 0 _ (by omega) (by omega) (by omega) (by omega)
/-- What stands ahead of place i: the end of the range before. -/
def lastOf (l : List S36) (i : Nat) : Int := if i = 0 then -9007199254740994 else (l.getD (i - 1) z36).f1
theorem lastOf_succ (l : List S36) (i : Nat) (h : i < l.length) : lastOf l (i + 1) = l[i].f1 := by
  unfold lastOf
  rw [if_neg (by omega), Nat.add_sub_cancel, List.getD_eq_getElem?_getD, List.getElem?_eq_getElem h]; rfl
theorem check_ev (l : List S36) (hl : l.length ≤ 500) : ∀ (d i : Nat), l.length - i ≤ d → i ≤ l.length → -9007199254740994 ≤ lastOf l i → lastOf l i ≤ 9007199254740992 →
    Ev (fun k => ints_Check.l0 k l l (l.length : Int) i) (errG (lastOf l i) (l.drop i)) := by
  intro d
  induction d with
  | zero =>
    intro i h1 h2 h3 h4
    obtain rfl : i = l.length := by omega
    apply Ev.succ
    simp only [ints_Check.l0, if_neg (show ¬ (l.length : Int) < l.length by omega), List.drop_length]
    exact Ev.now _
  | succ d ih =>
    intro i h1 h2 h3 h4
    by_cases q : i < l.length
    · apply Ev.succ
      have hls := lastOf_succ l i q
      have hprev : 0 < i → (rd_T36 l ((i : Int) - 1)).f1 = lastOf l i := fun h => by
        unfold lastOf; rw [if_neg (by omega)]
        unfold rd_T36; rw [show ((i : Int) - 1).toNat = i - 1 by omega]
      simp only [ints_Check.l0, if_pos (show (i : Int) < l.length by omega), if_pos (show (0 : Int) ≤ i by omega), rd_of l i q]
      rw [List.drop_eq_getElem_cons q]
      generalize hr : l[i] = r at hls ⊢
      by_cases o : okR r
      · have o' := o
        obtain ⟨o1, o2, o3⟩ := o'
        have e : errG (lastOf l i) (r :: l.drop (i + 1)) = if r.f0 ≤ lastOf l i + 1 then 9 else errG r.f1 (l.drop (i + 1)) := by rw [errG_cons, if_pos o]
        rw [e]
        simp only [if_neg (show ¬ r.f0 < -9007199254740992 by omega), if_neg (show ¬ r.f1 > 9007199254740992 by omega), decide_eq_false (show ¬ r.f0 > r.f1 by omega)]
        apply Ev.succ
        simp only [ints_Check.j1, Bool.false_eq_true, if_false]
        have IH := ih (i + 1) (by omega) (by omega) (by rw [hls]; omega) (by rw [hls]; omega)
        rw [hls] at IH
        rw [wrap_eq (show -9223372036854775808 ≤ (i : Int) + 1 by omega) (by omega)]
        by_cases hi : (i : Int) > 0
        · simp only [if_pos hi]
          rw [wrap_eq (show -9223372036854775808 ≤ (i : Int) - 1 by omega) (by omega), wrap_eq (show -9223372036854775808 ≤ r.f0 - 1 by omega) (by omega)]
          simp only [if_pos (show (0 : Int) ≤ (i : Int) - 1 by omega), if_pos (show (i : Int) - 1 < (l.length : Int) by omega), hprev (by omega)]
          by_cases f : r.f0 ≤ lastOf l i + 1
          · simp only [if_pos f, if_pos (show lastOf l i ≥ r.f0 - 1 by omega)]; exact Ev.now _
          · simp only [if_neg f, if_neg (show ¬ lastOf l i ≥ r.f0 - 1 by omega)]
            exact_mod_cast IH
        · have hl0 : lastOf l i = -9007199254740994 := by unfold lastOf; rw [if_pos (by omega)]
          simp only [if_neg hi, if_neg (show ¬ r.f0 ≤ lastOf l i + 1 by rw [hl0]; omega)]
          exact_mod_cast IH
      · have e : errG (lastOf l i) (r :: l.drop (i + 1)) = 11 := by rw [errG_cons, if_neg o]
        rw [e]
        have fin : ∀ b0 b1, Ev (fun k => ints_Check.j1 k l (i : Int) l (l.length : Int) (i : Int) true b0 b1) 11 := fun b0 b1 => by
          apply Ev.succ; simp only [ints_Check.j1, if_true]; exact Ev.now _
        by_cases a : r.f0 < -9007199254740992
        · simp only [if_pos a]; exact fin _ _
        · by_cases b : r.f1 > 9007199254740992
          · simp only [if_neg a, if_pos b]; exact fin _ _
          · have c : r.f0 > r.f1 := by
              apply Classical.byContradiction; intro c
              exact o ⟨by omega, by omega, by omega⟩
            simp only [if_neg a, if_neg b, decide_eq_true c]; exact fin _ _
    · obtain rfl : i = l.length := by omega
      apply Ev.succ
      simp only [ints_Check.l0, if_neg (show ¬ (l.length : Int) < l.length by omega), List.drop_length]
      exact Ev.now _
theorem check_f (l : List S36) : Ev (fun k => ints_Check.f k l) (errF l) := by
  unfold errF
  simp only [ints_Check.f]
  by_cases h : (l.length : Int) > 500
  · simp only [if_pos h]; exact Ev.now _
  · simp only [if_neg h]
    exact check_ev l (by omega) l.length 0 (by omega) (by omega) (by simp [lastOf]) (by simp [lastOf])
theorem ok_cons {last : Int} {r : S36} {t : List S36} (h : errG last (r :: t) = 0) : okR r ∧ last + 1 < r.f0 ∧ errG r.f1 t = 0 := by
  rw [errG_cons] at h
  by_cases o : okR r
  · rw [if_pos o] at h
    by_cases f : r.f0 ≤ last + 1
    · rw [if_pos f] at h; omega
    · rw [if_neg f] at h; exact ⟨o, by omega, h⟩
  · rw [if_neg o] at h; omega
theorem errF_zero {l : List S36} (h : errF l = 0) : l.length ≤ 500 ∧ errG (-9007199254740994) l = 0 := by
  unfold errF at h
  by_cases q : (l.length : Int) > 500
  · rw [if_pos q] at h; omega
  · rw [if_neg q] at h; exact ⟨by omega, h⟩
theorem errG_cn (l : List S36) : ∀ last, errG last l = 0 → cn (last + 2) l := by
  induction l with
  | nil => intro _ _; trivial
  | cons r t ih =>
    intro last h
    obtain ⟨o, h1, h2⟩ := ok_cons h
    exact ⟨by omega, o.2.2, o.2.1.2, ih _ h2⟩
theorem errF_cn {l : List S36} (h : errF l = 0) : cn (-9007199254740992) l := errG_cn l _ (errF_zero h).2
theorem cn_all {l : List S36} : ∀ {b : Int}, cn b l → ∀ r ∈ l, b ≤ r.f0 ∧ r.f0 ≤ r.f1 ∧ r.f1 ≤ 9007199254740992 := by
  induction l with
  | nil => intro b _ r hr; cases hr
  | cons s t ih =>
    intro b h r hr
    obtain ⟨h1, h2, h3, h4⟩ := h
    rcases List.mem_cons.1 hr with q | q
    · rw [q]; exact ⟨h1, h2, h3⟩
    · have := ih h4 r q; exact ⟨by omega, this.2⟩
/-- A set, unless it has too many ranges. -/
def lim (l : List S36) : List S36 × Int := if (l.length : Int) > 500 then ([], 6) else (l, 0)
theorem limited_f (l : List S36) : ints_limited.f l = some (lim l) := by
  unfold ints_limited.f lim
  split <;> rfl
theorem eq_ev (l : List S36) (hl : l.length ≤ 1000000000000) : ∀ (d j : Nat), l.length - j ≤ d → j ≤ l.length → Ev (fun k => ints_Range_24.l0 k l l (l.length : Int) (j : Int)) true := by
  intro d
  induction d with
  | zero =>
    intro j hd hj
    obtain rfl : j = l.length := by omega
    apply Ev.succ
    simp only [ints_Range_24.l0, if_neg (show ¬ (l.length : Int) < (l.length : Int) by omega)]
    exact Ev.now _
  | succ d ih =>
    intro j hd hj
    by_cases hlt : j < l.length
    · have c1 : (j : Int) < (l.length : Int) := Int.ofNat_lt.2 hlt
      have c2 : (0 : Int) ≤ (j : Int) := Int.natCast_nonneg j
      have e2 : wrap64 ((j : Int) + 1) = ((j + 1 : Nat) : Int) := by rw [wrap_eq (by omega) (by omega)]; omega
      have R := ih (j + 1) (by omega) hlt
      apply Ev.succ
      simp only [ints_Range_24.l0, if_pos c1, if_pos c2, e2, beq_self_eq_true, Bool.not_true, Bool.or_false, Bool.false_eq_true, if_false]
      exact R
    · obtain rfl : j = l.length := by omega
      apply Ev.succ
      simp only [ints_Range_24.l0, if_neg (show ¬ (l.length : Int) < (l.length : Int) by omega)]
      exact Ev.now _
theorem equal_ev (l : List S36) (hl : l.length ≤ 1000000000000) : Ev (fun k => ints_Range_24.f k l l) true := by
  simp only [ints_Range_24.f, if_true]
  exact eq_ev l hl l.length 0 (by omega) (by omega)
/-- What a call tells, and what the law wants: the same. -/
theorem result_ev (m : List S36) (g : Int) (hm : m.length ≤ 1000000000000) : Ev (fun k => claplaw1_result.f k (if g = 0 then (lim m).1 else []) (if g = 0 then (lim m).2 else g) m g) true := by
  by_cases h0 : g = 0
  · subst h0
    unfold lim
    by_cases h5 : (m.length : Int) > 500
    · simp only [claplaw1_result.f, if_true, if_pos h5, decide_eq_true h5]
      apply Ev.succ
      simp only [claplaw1_result.j0, if_true, if_neg (show ¬ (6 = 0) by decide)]
      exact Ev.bind (equal_ev [] (by simp)) (Ev.now _)
    · simp only [claplaw1_result.f, if_true, if_neg h5, decide_eq_false h5]
      apply Ev.succ
      simp only [claplaw1_result.j0, if_true, Bool.false_eq_true, if_false]
      exact Ev.bind (equal_ev m hm) (Ev.now _)
  · simp only [claplaw1_result.f, if_neg h0]
    apply Ev.succ
    simp only [claplaw1_result.j0, if_true, Bool.false_eq_true, if_false, if_neg h0]
    exact Ev.bind (equal_ev [] (by simp)) (Ev.now _)
end Go.Proofs.Ytcmdoffdfnnlcaa.PIj
