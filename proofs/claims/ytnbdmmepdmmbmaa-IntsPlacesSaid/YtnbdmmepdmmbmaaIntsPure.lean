/- The plain laws of the functions of ints that IntsPlaces calls. No statement is proved here. -/
import Derived.Test.YtnbdmmepdmmbmaaPIntsx4
import Derived.Test.YtnbdmmepdmmbmaaPIntsx3
import Derived.Test.YtnbdmmepdmmbmaaPIntsx2
namespace Go.Proofs.Ytnbdmmepdmmbmaa.PInts
open Go.RowKit Go.Proofs.YtnbdmmepdmmbmaaW.PrintWords Go.Proofs.YtnbdmmepdmmbmaaW.PrintLast Go.Proofs.YtnbdmmepdmmbmaaW.PrintMore Go.Proofs.Ytnbdmmepdmmbmaa Go.Proofs.Ytnbdmmepdmmbmaa.Plug
set_option linter.unusedVariables false
set_option linter.unusedSimpArgs false
theorem rd_of (l : List S44) (i : Nat) (h : i < l.length) : rd_T44 l (i : Int) = l[i] := by simp [rd_T44, List.getD_eq_getElem?_getD, List.getElem?_eq_getElem h]
/-- A range that is one. -/
def okR (r : S44) : Prop := (-9007199254740992 ≤ r.f0 ∧ r.f0 ≤ 9007199254740992) ∧ (-9007199254740992 ≤ r.f1 ∧ r.f1 ≤ 9007199254740992) ∧ r.f0 ≤ r.f1
instance (r : S44) : Decidable (okR r) := by unfold okR; exact inferInstance
/-- The error of ranges behind one that ends at 'last'. -/
def errG (last : Int) : List S44 → Int
  | [] => 0
  | r :: t => if okR r then (if r.f0 ≤ last + 1 then 9 else errG r.f1 t) else 11
theorem errG_cons (last : Int) (r : S44) (t : List S44) : errG last (r :: t) = if okR r then (if r.f0 ≤ last + 1 then 9 else errG r.f1 t) else 11 := rfl
def errF (l : List S44) : Int := if (l.length : Int) > 500 then 2 else errG (-9007199254740994) l
theorem right_f (x : Int) : claplaw1_right.f x = some (decide (-9007199254740992 ≤ x ∧ x ≤ 9007199254740992)) := by
  unfold claplaw1_right.f
  by_cases h : x ≥ -9007199254740992
  · rw [if_pos h]; congr 1; exact decide_eq_decide.2 ⟨fun q => ⟨h, q⟩, fun q => q.2⟩
  · rw [if_neg h]; congr 1; rw [eq_comm, decide_eq_false_iff_not]; omega
theorem setErr_ev (l : List S44) (hl : l.length ≤ 500) : ∀ (d i : Nat) (last : Int), l.length - i ≤ d → i ≤ l.length → -9007199254740994 ≤ last → last ≤ 9007199254740992 →
    Ev (fun k => claplaw1_setErr.l0 k last l (l.length : Int) i) (errG last (l.drop i)) := by
  intro d
  induction d with
  | zero =>
    intro i last h1 h2 h3 h4
    obtain rfl : i = l.length := by omega
    apply Ev.succ
    simp only [claplaw1_setErr.l0, if_neg (show ¬ (l.length : Int) < l.length by omega), List.drop_length]
    exact Ev.now _
  | succ d ih =>
    intro i last h1 h2 h3 h4
    by_cases q : i < l.length
    · apply Ev.succ
      simp only [claplaw1_setErr.l0, if_pos (show (i : Int) < l.length by omega), if_pos (show (0 : Int) ≤ i by omega), rd_of l i q, right_f, Option.bind_some, decide_eq_true_eq]
      rw [List.drop_eq_getElem_cons q]
      generalize hr : l[i] = r
      by_cases a : -9007199254740992 ≤ r.f0 ∧ r.f0 ≤ 9007199254740992
      · by_cases b : -9007199254740992 ≤ r.f1 ∧ r.f1 ≤ 9007199254740992
        · simp only [if_pos a, if_pos b]
          apply Ev.succ
          by_cases c : r.f1 < r.f0
          · have e : errG last (r :: l.drop (i + 1)) = 11 := by rw [errG_cons, if_neg (fun q => by have := q.2.2; omega)]
            rw [e]
            simp only [claplaw1_setErr.j1, decide_eq_true c, if_true]
            exact Ev.now _
          · have e : errG last (r :: l.drop (i + 1)) = if r.f0 ≤ last + 1 then 9 else errG r.f1 (l.drop (i + 1)) := by rw [errG_cons, if_pos ⟨a, b, by omega⟩]
            rw [e]
            simp only [claplaw1_setErr.j1, decide_eq_false c, Bool.false_eq_true, if_false]
            rw [wrap_eq (show -9223372036854775808 ≤ last + 1 by omega) (by omega), wrap_eq (show -9223372036854775808 ≤ (i : Int) + 1 by omega) (by omega)]
            by_cases f : r.f0 ≤ last + 1
            · simp only [if_pos f]; exact Ev.now _
            · simp only [if_neg f]
              exact_mod_cast ih (i + 1) r.f1 (by omega) (by omega) (by omega) (by omega)
        · have e : errG last (r :: l.drop (i + 1)) = 11 := by rw [errG_cons, if_neg (fun q => b q.2.1)]
          rw [e]
          simp only [if_pos a, if_neg b]
          apply Ev.succ
          simp only [claplaw1_setErr.j1, if_true]
          exact Ev.now _
      · have e : errG last (r :: l.drop (i + 1)) = 11 := by rw [errG_cons, if_neg (fun q => a q.1)]
        rw [e]
        simp only [if_neg a]
        apply Ev.succ
        simp only [claplaw1_setErr.j1, if_true]
        exact Ev.now _
    · obtain rfl : i = l.length := by omega
      apply Ev.succ
      simp only [claplaw1_setErr.l0, if_neg (show ¬ (l.length : Int) < l.length by omega), List.drop_length]
      exact Ev.now _
theorem setErr_f (l : List S44) : Ev (fun k => claplaw1_setErr.f k l) (errF l) := by
  unfold errF
  simp only [claplaw1_setErr.f]
  by_cases h : (l.length : Int) > 500
  · simp only [if_pos h]; exact Ev.now _
  · simp only [if_neg h]
    exact setErr_ev l (by omega) l.length 0 _ (by omega) (by omega) (by omega) (by omega)
/-- What stands ahead of place i: the end of the range before. -/
def lastOf (l : List S44) (i : Nat) : Int := if i = 0 then -9007199254740994 else (l.getD (i - 1) z44).f1
theorem lastOf_succ (l : List S44) (i : Nat) (h : i < l.length) : lastOf l (i + 1) = l[i].f1 := by
  unfold lastOf
  rw [if_neg (by omega), Nat.add_sub_cancel, List.getD_eq_getElem?_getD, List.getElem?_eq_getElem h]; rfl
theorem check_ev (l : List S44) (hl : l.length ≤ 500) : ∀ (d i : Nat), l.length - i ≤ d → i ≤ l.length → -9007199254740994 ≤ lastOf l i → lastOf l i ≤ 9007199254740992 →
    Ev (fun k => ints_Check.l0 k l l (l.length : Int) i) (errG (lastOf l i) (l.drop i)) := by
  intro d
  induction d with
  | zero =>
    intro i h1 h2 h3 h4
    obtain rfl : i = l.length := by omega
    apply Ev.succ
    simp only [ints_Check.l0, if_neg (show ¬ (l.length : Int) < l.length by omega), List.drop_length]
    exact Ev.now _
  | succ d ih =>
    intro i h1 h2 h3 h4
    by_cases q : i < l.length
    · apply Ev.succ
      have hls := lastOf_succ l i q
      have hprev : 0 < i → (rd_T44 l ((i : Int) - 1)).f1 = lastOf l i := fun h => by
        unfold lastOf; rw [if_neg (by omega)]
        unfold rd_T44; rw [show ((i : Int) - 1).toNat = i - 1 by omega]
      simp only [ints_Check.l0, if_pos (show (i : Int) < l.length by omega), if_pos (show (0 : Int) ≤ i by omega), rd_of l i q]
      rw [List.drop_eq_getElem_cons q]
      generalize hr : l[i] = r at hls ⊢
      by_cases o : okR r
      · have o' := o
        obtain ⟨o1, o2, o3⟩ := o'
        have e : errG (lastOf l i) (r :: l.drop (i + 1)) = if r.f0 ≤ lastOf l i + 1 then 9 else errG r.f1 (l.drop (i + 1)) := by rw [errG_cons, if_pos o]
        rw [e]
        simp only [if_neg (show ¬ r.f0 < -9007199254740992 by omega), if_neg (show ¬ r.f1 > 9007199254740992 by omega), decide_eq_false (show ¬ r.f0 > r.f1 by omega)]
        apply Ev.succ
        simp only [ints_Check.j1, Bool.false_eq_true, if_false]
        have IH := ih (i + 1) (by omega) (by omega) (by rw [hls]; omega) (by rw [hls]; omega)
        rw [hls] at IH
        rw [wrap_eq (show -9223372036854775808 ≤ (i : Int) + 1 by omega) (by omega)]
        by_cases hi : (i : Int) > 0
        · simp only [if_pos hi]
          rw [wrap_eq (show -9223372036854775808 ≤ (i : Int) - 1 by omega) (by omega), wrap_eq (show -9223372036854775808 ≤ r.f0 - 1 by omega) (by omega)]
          simp only [if_pos (show (0 : Int) ≤ (i : Int) - 1 by omega), if_pos (show (i : Int) - 1 < (l.length : Int) by omega), hprev (by omega)]
          by_cases f : r.f0 ≤ lastOf l i + 1
          · simp only [if_pos f, if_pos (show lastOf l i ≥ r.f0 - 1 by omega)]; exact Ev.now _
          · simp only [if_neg f, if_neg (show ¬ lastOf l i ≥ r.f0 - 1 by omega)]
            exact_mod_cast IH
        · have hl0 : lastOf l i = -9007199254740994 := by unfold lastOf; rw [if_pos (by omega)]
          simp only [if_neg hi, if_neg (show ¬ r.f0 ≤ lastOf l i + 1 by rw [hl0]; omega)]
          exact_mod_cast IH
      · have e : errG (lastOf l i) (r :: l.drop (i + 1)) = 11 := by rw [errG_cons, if_neg o]
        rw [e]
        have fin : ∀ b0 b1, Ev (fun k => ints_Check.j1 k l (i : Int) l (l.length : Int) (i : Int) true b0 b1) 11 := fun b0 b1 => by
          apply Ev.succ; simp only [ints_Check.j1, if_true]; exact Ev.now _
        by_cases a : r.f0 < -9007199254740992
        · simp only [if_pos a]; exact fin _ _
        · by_cases b : r.f1 > 9007199254740992
          · simp only [if_neg a, if_pos b]; exact fin _ _
          · have c : r.f0 > r.f1 := by
              apply Classical.byContradiction; intro c
              exact o ⟨by omega, by omega, by omega⟩
            simp only [if_neg a, if_neg b, decide_eq_true c]; exact fin _ _
    · obtain rfl : i = l.length := by omega
      apply Ev.succ
      simp only [ints_Check.l0, if_neg (show ¬ (l.length : Int) < l.length by omega), List.drop_length]
      exact Ev.now _
theorem check_f (l : List S44) : Ev (fun k => ints_Check.f k l) (errF l) := by
  unfold errF
  simp only [ints_Check.f]
  by_cases h : (l.length : Int) > 500
  · simp only [if_pos h]; exact Ev.now _
  · simp only [if_neg h]
    exact check_ev l (by omega) l.length 0 (by omega) (by omega) (by simp [lastOf]) (by simp [lastOf])
def many (r : S44) : Int := r.f1 - r.f0 + 1
def cntG : List S44 → Int
  | [] => 0
  | r :: t => many r + cntG t
theorem ok_cons {last : Int} {r : S44} {t : List S44} (h : errG last (r :: t) = 0) : okR r ∧ last + 1 < r.f0 ∧ errG r.f1 t = 0 := by
  rw [errG_cons] at h
  by_cases o : okR r
  · rw [if_pos o] at h
    by_cases f : r.f0 ≤ last + 1
    · rw [if_pos f] at h; omega
    · rw [if_neg f] at h; exact ⟨o, by omega, h⟩
  · rw [if_neg o] at h; omega
theorem cnt_bd : ∀ (l : List S44) (last : Int), errG last l = 0 → last ≤ 9007199254740992 → 0 ≤ cntG l ∧ cntG l ≤ 9007199254740992 - last
  | [], last, _, h => by simp only [cntG]; omega
  | r :: t, last, h, hl => by
    obtain ⟨o, h1, h2⟩ := ok_cons h
    have := cnt_bd t r.f1 h2 o.2.1.2
    have h3 := o.2.2
    have h4 := o.2.1
    simp only [cntG, many]; omega
theorem count_ev (l : List S44) (hl : l.length ≤ 500) : ∀ (d i : Nat) (acc last : Int), l.length - i ≤ d → i ≤ l.length → errG last (l.drop i) = 0 → -9007199254740994 ≤ last → last ≤ 9007199254740992 → 0 ≤ acc → acc + cntG (l.drop i) ≤ 100000000000000000 →
    Ev (fun k => ints_Count.l0 k acc l (l.length : Int) i) (acc + cntG (l.drop i), 0) := by
  intro d
  induction d with
  | zero =>
    intro i acc last h1 h2 h3 h4 h5 h6 h7
    obtain rfl : i = l.length := by omega
    apply Ev.succ
    simp only [ints_Count.l0, if_neg (show ¬ (l.length : Int) < l.length by omega), List.drop_length, cntG, Int.add_zero]
    exact Ev.now _
  | succ d ih =>
    intro i acc last h1 h2 h3 h4 h5 h6 h7
    by_cases q : i < l.length
    · apply Ev.succ
      simp only [ints_Count.l0, if_pos (show (i : Int) < l.length by omega), if_pos (show (0 : Int) ≤ i by omega), rd_of l i q]
      rw [List.drop_eq_getElem_cons q] at h3 h7 ⊢
      generalize hr : l[i] = r at h3 h7 ⊢
      obtain ⟨o, e1, e2⟩ := ok_cons h3
      have hb := cnt_bd _ _ e2 o.2.1.2
      have ho1 := o.1; have ho2 := o.2.1; have ho3 := o.2.2
      simp only [cntG, many] at h7 ⊢
      rw [wrap_eq (show -9223372036854775808 ≤ (i : Int) + 1 by omega) (by omega), wrap_eq (show -9223372036854775808 ≤ r.f1 - r.f0 by omega) (by omega), wrap_eq (show -9223372036854775808 ≤ r.f1 - r.f0 + 1 by omega) (by omega), wrap_eq (show -9223372036854775808 ≤ acc + (r.f1 - r.f0 + 1) by omega) (by omega)]
      have IH := ih (i + 1) (acc + (r.f1 - r.f0 + 1)) r.f1 (by omega) (by omega) e2 (by omega) (by omega) (by omega) (by omega)
      rw [show acc + (r.f1 - r.f0 + 1 + cntG (l.drop (i + 1))) = acc + (r.f1 - r.f0 + 1) + cntG (l.drop (i + 1)) by omega]
      exact_mod_cast IH
    · obtain rfl : i = l.length := by omega
      apply Ev.succ
      simp only [ints_Count.l0, if_neg (show ¬ (l.length : Int) < l.length by omega), List.drop_length, cntG, Int.add_zero]
      exact Ev.now _
theorem errF_zero {l : List S44} (h : errF l = 0) : l.length ≤ 500 ∧ errG (-9007199254740994) l = 0 := by
  unfold errF at h
  by_cases q : (l.length : Int) > 500
  · rw [if_pos q] at h; omega
  · rw [if_neg q] at h; exact ⟨by omega, h⟩
theorem count_f (l : List S44) : Ev (fun k => ints_Count.f k l) (if errF l = 0 then (cntG l, 0) else (0, errF l)) := by
  simp only [ints_Count.f]
  refine Ev.bind (check_f l) ?_
  by_cases h : errF l = 0
  · simp only [if_pos h]
    obtain ⟨hl, he⟩ := errF_zero h
    have hb := cnt_bd l _ he (by omega)
    have := count_ev l hl l.length 0 0 _ (by omega) (by omega) he (by omega) (by omega) (by omega) (by simp only [List.drop_zero]; omega)
    simpa using this
  · simp only [if_neg h]; exact Ev.now _
def atG : Int → List S44 → Int × Int
  | _, [] => (0, 4)
  | k, r :: t => if k < many r then (r.f0 + k, 0) else atG (k - many r) t
theorem at_ev (l : List S44) (hl : l.length ≤ 500) : ∀ (d i : Nat) (x last : Int), l.length - i ≤ d → i ≤ l.length → errG last (l.drop i) = 0 → last ≤ 9007199254740992 → 0 ≤ x → x ≤ 9223372036854775807 →
    Ev (fun k => ints_At.l0 k x l (l.length : Int) i) (atG x (l.drop i)) := by
  intro d
  induction d with
  | zero =>
    intro i x last h1 h2 h3 h4 h5 h6
    obtain rfl : i = l.length := by omega
    apply Ev.succ
    simp only [ints_At.l0, if_neg (show ¬ (l.length : Int) < l.length by omega), List.drop_length, atG]
    exact Ev.now _
  | succ d ih =>
    intro i x last h1 h2 h3 h4 h5 h6
    by_cases q : i < l.length
    · apply Ev.succ
      simp only [ints_At.l0, if_pos (show (i : Int) < l.length by omega), if_pos (show (0 : Int) ≤ i by omega), rd_of l i q]
      rw [List.drop_eq_getElem_cons q] at h3 ⊢
      generalize hr : l[i] = r at h3 ⊢
      obtain ⟨o, e1, e2⟩ := ok_cons h3
      have ho1 := o.1; have ho2 := o.2.1; have ho3 := o.2.2
      have eA : atG x (r :: l.drop (i + 1)) = if x < many r then (r.f0 + x, 0) else atG (x - many r) (l.drop (i + 1)) := rfl
      rw [wrap_eq (show -9223372036854775808 ≤ (i : Int) + 1 by omega) (by omega), wrap_eq (show -9223372036854775808 ≤ r.f1 - r.f0 by omega) (by omega), wrap_eq (show -9223372036854775808 ≤ r.f1 - r.f0 + 1 by omega) (by omega)]
      by_cases c : x < r.f1 - r.f0 + 1
      · rw [eA, if_pos (show x < many r from c)]
        simp only [if_pos c]
        rw [wrap_eq (show -9223372036854775808 ≤ r.f0 + x by omega) (by omega)]
        exact Ev.now _
      · rw [eA, if_neg (show ¬ x < many r from c)]
        simp only [if_neg c]
        rw [wrap_eq (show -9223372036854775808 ≤ x - (r.f1 - r.f0 + 1) by omega) (by omega)]
        exact_mod_cast ih (i + 1) (x - many r) r.f1 (by omega) (by omega) e2 (by omega) (by unfold many; omega) (by unfold many; omega)
    · obtain rfl : i = l.length := by omega
      apply Ev.succ
      simp only [ints_At.l0, if_neg (show ¬ (l.length : Int) < l.length by omega), List.drop_length, atG]
      exact Ev.now _
theorem at_f (l : List S44) (x : Int) (hx : x ≤ 9223372036854775807) : Ev (fun k => ints_At.f k l x) (if errF l = 0 then (if x < 0 then (0, 1) else atG x l) else (0, errF l)) := by
  simp only [ints_At.f]
  refine Ev.bind (check_f l) ?_
  by_cases h : errF l = 0
  · simp only [if_pos h]
    obtain ⟨hl, he⟩ := errF_zero h
    by_cases hx0 : x < 0
    · simp only [if_pos hx0]; exact Ev.now _
    · simp only [if_neg hx0]
      exact at_ev l hl l.length 0 x _ (by omega) (by omega) he (by omega) (by omega) hx
  · simp only [if_neg h]; exact Ev.now _
def plG : Int → Int → List S44 → Int × Int
  | _, _, [] => (0, 4)
  | acc, n, r :: t => if n < r.f0 then (0, 4) else if n ≤ r.f1 then (acc + n - r.f0, 0) else plG (acc + many r) n t
theorem place_ev (l : List S44) (hl : l.length ≤ 500) (n : Int) : ∀ (d i : Nat) (acc last : Int), l.length - i ≤ d → i ≤ l.length → errG last (l.drop i) = 0 → -9007199254740994 ≤ last → last ≤ 9007199254740992 → 0 ≤ acc → acc + cntG (l.drop i) ≤ 100000000000000000 →
    Ev (fun k => ints_Place.l0 k n acc l (l.length : Int) i) (plG acc n (l.drop i)) := by
  intro d
  induction d with
  | zero =>
    intro i acc last h1 h2 h3 h4 h5 h6 h7
    obtain rfl : i = l.length := by omega
    apply Ev.succ
    simp only [ints_Place.l0, if_neg (show ¬ (l.length : Int) < l.length by omega), List.drop_length, plG]
    exact Ev.now _
  | succ d ih =>
    intro i acc last h1 h2 h3 h4 h5 h6 h7
    by_cases q : i < l.length
    · apply Ev.succ
      simp only [ints_Place.l0, if_pos (show (i : Int) < l.length by omega), if_pos (show (0 : Int) ≤ i by omega), rd_of l i q]
      rw [List.drop_eq_getElem_cons q] at h3 h7 ⊢
      generalize hr : l[i] = r at h3 h7 ⊢
      obtain ⟨o, e1, e2⟩ := ok_cons h3
      have hb := cnt_bd _ _ e2 o.2.1.2
      have ho1 := o.1; have ho2 := o.2.1; have ho3 := o.2.2
      simp only [cntG, many] at h7
      simp only [plG, many]
      by_cases a : n < r.f0
      · simp only [if_pos a]; exact Ev.now _
      · simp only [if_neg a]
        by_cases b : n ≤ r.f1
        · simp only [if_pos b]
          rw [wrap_eq (show -9223372036854775808 ≤ acc + n by omega) (by omega), wrap_eq (show -9223372036854775808 ≤ acc + n - r.f0 by omega) (by omega)]
          exact Ev.now _
        · simp only [if_neg b]
          rw [wrap_eq (show -9223372036854775808 ≤ (i : Int) + 1 by omega) (by omega), wrap_eq (show -9223372036854775808 ≤ r.f1 - r.f0 by omega) (by omega), wrap_eq (show -9223372036854775808 ≤ r.f1 - r.f0 + 1 by omega) (by omega), wrap_eq (show -9223372036854775808 ≤ acc + (r.f1 - r.f0 + 1) by omega) (by omega)]
          exact_mod_cast ih (i + 1) (acc + (r.f1 - r.f0 + 1)) r.f1 (by omega) (by omega) e2 (by omega) (by omega) (by omega) (by omega)
    · obtain rfl : i = l.length := by omega
      apply Ev.succ
      simp only [ints_Place.l0, if_neg (show ¬ (l.length : Int) < l.length by omega), List.drop_length, plG]
      exact Ev.now _
theorem place_f (l : List S44) (n : Int) : Ev (fun k => ints_Place.f k l n) (if errF l = 0 then plG 0 n l else (0, errF l)) := by
  simp only [ints_Place.f]
  refine Ev.bind (check_f l) ?_
  by_cases h : errF l = 0
  · simp only [if_pos h]
    obtain ⟨hl, he⟩ := errF_zero h
    have hb := cnt_bd l _ he (by omega)
    exact place_ev l hl n l.length 0 0 _ (by omega) (by omega) he (by omega) (by omega) (by omega) (by simp only [List.drop_zero]; omega)
  · simp only [if_neg h]; exact Ev.now _
def inR (n : Int) (r : S44) : Bool := decide (r.f0 ≤ n) && decide (n ≤ r.f1)
theorem member_ev (l : List S44) (hl : l.length ≤ 9223372036854775807) (n : Int) : ∀ (d i : Nat), l.length - i ≤ d → i ≤ l.length →
    Ev (fun k => claplaw1_member.l0 k n l (l.length : Int) i) ((l.drop i).any (inR n)) := by
  intro d
  induction d with
  | zero =>
    intro i h1 h2
    obtain rfl : i = l.length := by omega
    apply Ev.succ
    simp only [claplaw1_member.l0, if_neg (show ¬ (l.length : Int) < l.length by omega), List.drop_length, List.any_nil]
    exact Ev.now _
  | succ d ih =>
    intro i h1 h2
    by_cases q : i < l.length
    · apply Ev.succ
      simp only [claplaw1_member.l0, if_pos (show (i : Int) < l.length by omega), if_pos (show (0 : Int) ≤ i by omega), rd_of l i q]
      rw [List.drop_eq_getElem_cons q, List.any_cons]
      generalize hr : l[i] = r
      rw [wrap_eq (show -9223372036854775808 ≤ (i : Int) + 1 by omega) (by omega)]
      have IH := ih (i + 1) (by omega) (by omega)
      by_cases a : n ≥ r.f0
      · by_cases b : n ≤ r.f1
        · have e : inR n r = true := by unfold inR; rw [decide_eq_true (show r.f0 ≤ n from a), decide_eq_true b]; rfl
          rw [e, Bool.true_or]
          simp only [if_pos a, if_pos b]; exact Ev.now _
        · have e : inR n r = false := by unfold inR; rw [decide_eq_false b, Bool.and_false]
          rw [e, Bool.false_or]
          simp only [if_pos a, if_neg b]; exact_mod_cast IH
      · have e : inR n r = false := by unfold inR; rw [decide_eq_false (show ¬ r.f0 ≤ n from a), Bool.false_and]
        rw [e, Bool.false_or]
        simp only [if_neg a]; exact_mod_cast IH
    · obtain rfl : i = l.length := by omega
      apply Ev.succ
      simp only [claplaw1_member.l0, if_neg (show ¬ (l.length : Int) < l.length by omega), List.drop_length, List.any_nil]
      exact Ev.now _
theorem member_f (l : List S44) (hl : l.length ≤ 9223372036854775807) (n : Int) : Ev (fun k => claplaw1_member.f k l n) (l.any (inR n)) := by
  simp only [claplaw1_member.f]
  exact member_ev l hl n l.length 0 (by omega) (by omega)
def eqR (r s : S44) : Bool := r.f0 == s.f0 && (r.f1 == s.f1)
def allE : List S44 → List S44 → Bool
  | r :: t, s :: u => eqR r s && allE t u
  | _, _ => true
theorem range_ev (l m : List S44) (hl : l.length ≤ 9223372036854775807) (he : l.length = m.length) : ∀ (d i : Nat), l.length - i ≤ d → i ≤ l.length →
    Ev (fun k => ints_Range.l0 k l m (l.length : Int) i) (allE (l.drop i) (m.drop i)) := by
  intro d
  induction d with
  | zero =>
    intro i h1 h2
    obtain rfl : i = l.length := by omega
    apply Ev.succ
    simp only [ints_Range.l0, if_neg (show ¬ (l.length : Int) < l.length by omega), List.drop_length, allE]
    exact Ev.now _
  | succ d ih =>
    intro i h1 h2
    by_cases q : i < l.length
    · apply Ev.succ
      simp only [ints_Range.l0, if_pos (show (i : Int) < l.length by omega), if_pos (show (0 : Int) ≤ i by omega), if_pos (show (i : Int) < (m.length : Int) by omega), rd_of l i q, rd_of m i (by omega)]
      rw [List.drop_eq_getElem_cons q, List.drop_eq_getElem_cons (show i < m.length by omega)]
      simp only [allE]
      rw [wrap_eq (show -9223372036854775808 ≤ (i : Int) + 1 by omega) (by omega)]
      have IH := ih (i + 1) (by omega) (by omega)
      have e : (!(l[i].f0 == m[i].f0) || !(l[i].f1 == m[i].f1)) = !(eqR l[i] m[i]) := by unfold eqR; rw [Bool.not_and]
      rw [e]
      cases hc : eqR l[i] m[i]
      · simp only [Bool.not_false, if_true, Bool.false_and]; exact Ev.now _
      · simp only [Bool.not_true, Bool.false_eq_true, if_false, Bool.true_and]; exact_mod_cast IH
    · obtain rfl : i = l.length := by omega
      apply Ev.succ
      simp only [ints_Range.l0, if_neg (show ¬ (l.length : Int) < l.length by omega), List.drop_length, allE]
      exact Ev.now _
def sameG (l m : List S44) : Bool := decide (l.length = m.length) && allE l m
theorem same_f (l m : List S44) (hl : l.length ≤ 9223372036854775807) : Ev (fun k => ints_Same.f k l m) (sameG l m) := by
  unfold sameG
  simp only [ints_Same.f, ints_Range.f]
  by_cases h : (l.length : Int) = (m.length : Int)
  · simp only [if_pos h, decide_eq_true (show l.length = m.length by omega), Bool.true_and]
    refine Ev.bind (range_ev l m hl (by omega) l.length 0 (by omega) (by omega)) ?_
    exact Ev.now _
  · simp only [if_neg h, decide_eq_false (show ¬ l.length = m.length by omega), Bool.false_and, Option.bind_some]
    exact Ev.now _
end Go.Proofs.Ytnbdmmepdmmbmaa.PInts
