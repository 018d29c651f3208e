/- What Common, Minus, Without and made compute. No statement is proved here. -/
import Derived.Test.YtcmdoffdfnnlcaaIjEv
namespace Go.Proofs.Ytcmdoffdfnnlcaa.PIj
open Go.RowKit Go.Proofs.Ytcmdoffdfnnlcaa Go.Proofs.Ytcmdoffdfnnlcaa.Plug Go.Proofs.YtcmdoffdfnnlcaaW.PrintWords Go.Proofs.YtcmdoffdfnnlcaaW.PrintLast Go.Proofs.YtcmdoffdfnnlcaaW.PrintMore
set_option linter.unusedVariables false
set_option linter.unusedSimpArgs false
theorem end_out (k : Nat) (lo hi : Int) (acc : List S36) (h : acc.length < 8796093022208) : (if lo ≤ hi then (if acc.length < 8796093022208 then (some (acc ++ [(⟨lo, hi⟩ : S36)])) else (none)) else (some acc)) = some (acc ++ (if lo ≤ hi then [(⟨lo, hi⟩ : S36)] else [])) := by
  by_cases q : lo ≤ hi
  · rw [if_pos q, if_pos h, if_pos q]
  · rw [if_neg q, if_neg q, List.append_nil]
theorem out_l0 (l : List S36) (hl : l.length ≤ 1000000000) (hv : ∀ r ∈ l, -9007199254740992 ≤ r.f0 ∧ r.f0 ≤ r.f1 ∧ r.f1 ≤ 9007199254740992) (hi : Int) : ∀ (d j : Nat) (lo : Int) (acc : List S36), l.length - j ≤ d → j ≤ l.length → acc.length ≤ j →
    Ev (fun k => ints_outside.l0 k lo hi acc l (l.length : Int) (j : Int)) (acc ++ outL lo hi (l.drop j)) := by
  intro d
  induction d with
  | zero =>
    intro j lo acc hd hj ha
    obtain rfl : j = l.length := by omega
    apply Ev.succ
    simp only [ints_outside.l0, if_neg (show ¬ (l.length : Int) < (l.length : Int) by omega), end_out 0 lo hi acc (by omega)]
    rw [List.drop_length]; exact Ev.now _
  | succ d ih =>
    intro j lo acc hd hj ha
    by_cases hlt : j < l.length
    · have c1 : (j : Int) < (l.length : Int) := Int.ofNat_lt.2 hlt
      have c2 : (0 : Int) ≤ (j : Int) := Int.natCast_nonneg j
      have hrd := rd_R l j hlt
      have hr := hv _ (List.getElem_mem hlt)
      rw [List.drop_eq_getElem_cons hlt]
      generalize l[j] = r at *
      have e1 : wrap64 (r.f1 + 1) = r.f1 + 1 := w64 _ (by omega) (by omega)
      have e0 : wrap64 (r.f0 - 1) = r.f0 - 1 := w64 _ (by omega) (by omega)
      have e : outL lo hi (r :: l.drop (j + 1)) = if r.f1 < lo then outL lo hi (l.drop (j + 1)) else if r.f0 > hi then (if lo ≤ hi then [⟨lo, hi⟩] else []) else (if r.f0 > lo then [⟨lo, r.f0 - 1⟩] else []) ++ outL (r.f1 + 1) hi (l.drop (j + 1)) := rfl
      rw [e]
      apply Ev.succ
      simp only [ints_outside.l0, if_pos c1, if_pos c2, hrd, wj j (by omega), e0, e1]
      by_cases q1 : r.f1 < lo
      · simp only [if_pos q1]; exact ih (j + 1) lo acc (by omega) hlt (by omega)
      · simp only [if_neg q1]
        by_cases q2 : r.f0 > hi
        · simp only [if_pos q2, end_out 0 lo hi acc (by omega)]; exact Ev.now _
        · simp only [if_neg q2]
          by_cases q3 : r.f0 > lo
          · simp only [if_pos q3, if_pos (show acc.length < 8796093022208 by omega)]
            have R := ih (j + 1) (r.f1 + 1) (acc ++ [⟨lo, r.f0 - 1⟩]) (by omega) hlt (by rw [List.length_append, List.length_singleton]; omega)
            rw [List.append_assoc] at R
            exact R
          · simp only [if_neg q3, List.nil_append]
            exact ih (j + 1) (r.f1 + 1) acc (by omega) hlt (by omega)
    · obtain rfl : j = l.length := by omega
      apply Ev.succ
      simp only [ints_outside.l0, if_neg (show ¬ (l.length : Int) < (l.length : Int) by omega), end_out 0 lo hi acc (by omega)]
      rw [List.drop_length]; exact Ev.now _
theorem out_ev (l : List S36) (hl : l.length ≤ 1000000000) (hv : ∀ r ∈ l, -9007199254740992 ≤ r.f0 ∧ r.f0 ≤ r.f1 ∧ r.f1 ≤ 9007199254740992) (lo hi : Int) : Ev (fun k => ints_outside.f k l lo hi) (outL lo hi l) := by
  have := out_l0 l hl hv hi l.length 0 lo [] (by omega) (by omega) (by simp)
  rw [List.drop_zero, List.nil_append] at this
  exact this
theorem outL_len (l : List S36) : ∀ lo hi, (outL lo hi l).length ≤ l.length + 1 := by
  induction l with
  | nil => intro lo hi; show (if lo ≤ hi then [(⟨lo, hi⟩ : S36)] else []).length ≤ 1; split <;> simp
  | cons r t ih =>
    intro lo hi
    show (if r.f1 < lo then outL lo hi t else if r.f0 > hi then (if lo ≤ hi then [(⟨lo, hi⟩ : S36)] else []) else (if r.f0 > lo then [(⟨lo, r.f0 - 1⟩ : S36)] else []) ++ outL (r.f1 + 1) hi t).length ≤ t.length + 1 + 1
    have h1 := ih lo hi
    have h2 := ih (r.f1 + 1) hi
    split
    · omega
    · split
      · split <;> simp
      · rw [List.length_append]; split <;> simp <;> omega
theorem min_l0 (x y : List S36) (lx : x.length ≤ 500) (ly : y.length ≤ 500) (hv : ∀ r ∈ y, -9007199254740992 ≤ r.f0 ∧ r.f0 ≤ r.f1 ∧ r.f1 ≤ 9007199254740992) : ∀ (d j : Nat) (acc : List S36), x.length - j ≤ d → j ≤ x.length → acc.length ≤ j * 501 →
    Ev (fun k => ints_Minus.l0 k y acc x (x.length : Int) (j : Int)) (lim (acc ++ minL y (x.drop j))) := by
  have fin : ∀ acc : List S36, Ev (fun k => ints_Minus.l0 k y acc x (x.length : Int) ((x.length : Nat) : Int)) (lim (acc ++ minL y (x.drop x.length))) := by
    intro acc
    apply Ev.succ
    simp only [ints_Minus.l0, if_neg (show ¬ (x.length : Int) < (x.length : Int) by omega), limited_f, Option.bind_some]
    rw [List.drop_length, show minL y [] = [] from rfl, List.append_nil]; exact Ev.now _
  intro d
  induction d with
  | zero =>
    intro j acc hd hj ha
    obtain rfl : j = x.length := by omega
    exact fin acc
  | succ d ih =>
    intro j acc hd hj ha
    by_cases hlt : j < x.length
    · have c1 : (j : Int) < (x.length : Int) := Int.ofNat_lt.2 hlt
      have c2 : (0 : Int) ≤ (j : Int) := Int.natCast_nonneg j
      have hrd := rd_R x j hlt
      rw [List.drop_eq_getElem_cons hlt]
      generalize x[j] = r at *
      have hol := outL_len y r.f0 r.f1
      apply Ev.succ
      simp only [ints_Minus.l0, if_pos c1, if_pos c2, hrd, wj j (by omega)]
      refine Ev.bind (out_ev y (by omega) hv r.f0 r.f1) ?_
      simp only [if_pos (show acc.length + (outL r.f0 r.f1 y).length < 8796093022208 by omega)]
      have R := ih (j + 1) (acc ++ outL r.f0 r.f1 y) (by omega) hlt (by rw [List.length_append]; omega)
      rw [List.append_assoc] at R
      exact R
    · obtain rfl : j = x.length := by omega
      exact fin acc
theorem minus_ev (x y : List S36) : Ev (fun k => ints_Minus.f k x y) (if g2E (errF x) (errF y) = 0 then lim (minL y x) else ([], g2E (errF x) (errF y))) := by
  simp only [ints_Minus.f]
  refine Ev.bind (both_ev x y) ?_
  by_cases h : g2E (errF x) (errF y) = 0
  · obtain ⟨⟨lx, cx⟩, ly, cy⟩ := g2_cn h
    simp only [if_pos h]
    have := min_l0 x y lx ly (fun r hr => by have := cn_all cy r hr; omega) x.length 0 [] (by omega) (by omega) (by simp)
    rw [List.drop_zero, List.nil_append] at this
    exact this
  · simp only [if_neg h]; exact Ev.now _
theorem com_l0 (x y : List S36) (lx : x.length ≤ 500) (ly : y.length ≤ 500) : ∀ (d i j : Nat) (acc : List S36), (x.length - i) + (y.length - j) ≤ d → i ≤ x.length → j ≤ y.length → acc.length ≤ i + j →
    Ev (fun k => ints_Common.l0 k x y acc (i : Int) (j : Int)) (lim (acc ++ com d (x.drop i) (y.drop j))) := by
  have fin : ∀ (i j : Nat) (acc : List S36), (i = x.length ∨ j = y.length) → i ≤ x.length → j ≤ y.length → Ev (fun k => ints_Common.l0 k x y acc (i : Int) (j : Int)) (lim acc) := by
    intro i j acc h hi hj
    apply Ev.succ
    by_cases q : i < x.length
    · have hj' : j = y.length := by omega
      subst hj'
      simp only [ints_Common.l0, if_pos (show (i : Int) < (x.length : Int) by omega), decide_eq_false (show ¬ (y.length : Int) < (y.length : Int) by omega)]
      apply Ev.succ
      simp only [ints_Common.j1, Bool.false_eq_true, if_false, limited_f, Option.bind_some]
      exact Ev.now _
    · simp only [ints_Common.l0, if_neg (show ¬ (i : Int) < (x.length : Int) by omega)]
      apply Ev.succ
      simp only [ints_Common.j1, Bool.false_eq_true, if_false, limited_f, Option.bind_some]
      exact Ev.now _
  intro d
  induction d with
  | zero =>
    intro i j acc hd hi hj ha
    have := fin i j acc (by omega) hi hj
    rw [show com 0 (x.drop i) (y.drop j) = [] from rfl, List.append_nil]; exact this
  | succ d ih =>
    intro i j acc hd hi hj ha
    by_cases q1 : i < x.length
    · by_cases q2 : j < y.length
      · have hr1 := rd_R x i q1
        have hr2 := rd_R y j q2
        rw [List.drop_eq_getElem_cons q1, List.drop_eq_getElem_cons q2]
        have e : com (d + 1) (x[i] :: x.drop (i + 1)) (y[j] :: y.drop (j + 1)) = (if mx x[i].f0 y[j].f0 ≤ mn x[i].f1 y[j].f1 then [⟨mx x[i].f0 y[j].f0, mn x[i].f1 y[j].f1⟩] else []) ++ (if x[i].f1 < y[j].f1 then com d (x.drop (i + 1)) (y[j] :: y.drop (j + 1)) else com d (x[i] :: x.drop (i + 1)) (y.drop (j + 1))) := rfl
        rw [e, ← List.drop_eq_getElem_cons q1, ← List.drop_eq_getElem_cons q2]
        generalize x[i] = a at *
        generalize y[j] = b at *
        have c1 : (i : Int) < (x.length : Int) := Int.ofNat_lt.2 q1
        have c2 : (j : Int) < (y.length : Int) := Int.ofNat_lt.2 q2
        have z1 : (0 : Int) ≤ (i : Int) := Int.natCast_nonneg i
        have z2 : (0 : Int) ≤ (j : Int) := Int.natCast_nonneg j
        have step : ∀ acc2 : List S36, acc2.length ≤ i + j + 1 → Ev (fun k => if a.f1 < b.f1 then ints_Common.l0 k x y acc2 (wrap64 ((i : Int) + 1)) (j : Int) else ints_Common.l0 k x y acc2 (i : Int) (wrap64 ((j : Int) + 1))) (lim (acc2 ++ (if a.f1 < b.f1 then com d (x.drop (i + 1)) (y.drop j) else com d (x.drop i) (y.drop (j + 1))))) := by
          intro acc2 h2
          by_cases q3 : a.f1 < b.f1
          · simp only [if_pos q3, wj i (by omega)]
            exact ih (i + 1) j acc2 (by omega) q1 hj (by omega)
          · simp only [if_neg q3, wj j (by omega)]
            exact ih i (j + 1) acc2 (by omega) hi q2 (by omega)
        apply Ev.succ
        simp only [ints_Common.l0, if_pos c1, decide_eq_true c2]
        apply Ev.succ
        simp only [ints_Common.j1, if_true, if_pos c1, if_pos c2, if_pos z1, if_pos z2, hr1, hr2]
        by_cases q4 : mx a.f0 b.f0 ≤ mn a.f1 b.f1
        · simp only [if_pos q4, if_pos (show acc.length < 8796093022208 by omega), Option.bind_some]
          have R := step (acc ++ [⟨mx a.f0 b.f0, mn a.f1 b.f1⟩]) (by rw [List.length_append, List.length_singleton]; omega)
          rw [List.append_assoc] at R
          exact R
        · simp only [if_neg q4, List.nil_append]
          exact step acc (by omega)
      · have := fin i j acc (by omega) hi hj
        have hj' : j = y.length := by omega
        subst hj'
        rw [List.drop_length]
        have e : com (d + 1) (x.drop i) [] = [] := by cases x.drop i <;> rfl
        rw [e, List.append_nil]; exact this
    · have := fin i j acc (by omega) hi hj
      have hi' : i = x.length := by omega
      subst hi'
      rw [List.drop_length]
      have e : com (d + 1) ([] : List S36) (y.drop j) = [] := rfl
      rw [e, List.append_nil]; exact this
theorem common_ev (x y : List S36) : Ev (fun k => ints_Common.f k x y) (if g2E (errF x) (errF y) = 0 then lim (com (x.length + y.length) x y) else ([], g2E (errF x) (errF y))) := by
  simp only [ints_Common.f]
  refine Ev.bind (both_ev x y) ?_
  by_cases h : g2E (errF x) (errF y) = 0
  · obtain ⟨⟨lx, cx⟩, ly, cy⟩ := g2_cn h
    simp only [if_pos h]
    have := com_l0 x y lx ly (x.length + y.length) 0 0 [] (by omega) (by omega) (by omega) (by simp)
    rw [List.drop_zero, List.drop_zero, List.nil_append] at this
    exact this
  · simp only [if_neg h]; exact Ev.now _
theorem without_ev (x : List S36) (lo hi : Int) : Ev (fun k => ints_Without.f k x lo hi) (if g3E (errF x) lo hi = 0 then lim (outL lo hi x) else ([], g3E (errF x) lo hi)) := by
  simp only [ints_Without.f]
  refine Ev.bind (check_f x) ?_
  by_cases h : errF x = 0
  · have hc := errF_cn h
    have hl := (errF_zero h).1
    simp only [if_pos h]
    have bad : ∀ z : Bool, z = true → Ev (fun k => ints_Without.j0 k x lo hi z) ([], 11) := by
      rintro _ rfl
      apply Ev.succ
      simp only [ints_Without.j0, if_true]; exact Ev.now _
    by_cases q1 : lo < -9007199254740992
    · have e : g3E (errF x) lo hi = 11 := by
        unfold g3E
        rw [if_pos ⟨h, by rw [show rt lo = false by rw [← Bool.not_eq_true, rt_iff]; omega]; rfl⟩]
      rw [e, if_neg (by decide)]
      simp only [if_pos q1]; exact bad _ rfl
    · simp only [if_neg q1]
      by_cases q2 : hi > 9007199254740992
      · have e : g3E (errF x) lo hi = 11 := by
          unfold g3E
          rw [if_pos ⟨h, by rw [show rt hi = false by rw [← Bool.not_eq_true, rt_iff]; omega, Bool.and_false]; rfl⟩]
        rw [e, if_neg (by decide)]
        simp only [if_pos q2]; exact bad _ rfl
      · simp only [if_neg q2]
        by_cases q3 : lo > hi
        · have e : g3E (errF x) lo hi = 11 := by
            unfold g3E
            rw [if_pos ⟨h, by rw [decide_eq_false (show ¬ lo ≤ hi by omega), Bool.and_false]⟩]
          rw [e, if_neg (by decide)]
          exact bad _ (decide_eq_true q3)
        · have e : g3E (errF x) lo hi = 0 := by
            unfold g3E
            rw [if_neg (fun q => by
              rw [(rt_iff lo).2 (by omega), (rt_iff hi).2 (by omega), decide_eq_true (show lo ≤ hi by omega)] at q
              exact absurd q.2 (by decide)), h]
          rw [e, if_pos rfl]
          simp only [decide_eq_false q3]
          apply Ev.succ
          simp only [ints_Without.j0, Bool.false_eq_true, if_false]
          refine Ev.bind (out_ev x (by omega) (fun r hr => by have := cn_all hc r hr; omega) lo hi) ?_
          simp only [limited_f, Option.bind_some]
          exact Ev.now _
  · have e : g3E (errF x) lo hi = errF x := by unfold g3E; rw [if_neg (fun q => h q.1)]
    rw [e, if_neg h]
    simp only [if_neg h]; exact Ev.now _
end Go.Proofs.Ytcmdoffdfnnlcaa.PIj
