/- What Of, Union, Common, Minus, Without and made compute. No statement is proved here. -/
import Derived.Test.YtcmdoffdfnnlcaaIjPure
import Derived.Test.YtcmdoffdfnnlcaaIjWords
namespace Go.Proofs.Ytcmdoffdfnnlcaa.PIj
open Go.RowKit Go.Proofs.Ytcmdoffdfnnlcaa Go.Proofs.Ytcmdoffdfnnlcaa.Plug Go.Proofs.YtcmdoffdfnnlcaaW.PrintWords Go.Proofs.YtcmdoffdfnnlcaaW.PrintLast Go.Proofs.YtcmdoffdfnnlcaaW.PrintMore
set_option linter.unusedVariables false
set_option linter.unusedSimpArgs false
theorem w64 (n : Int) (h1 : -1000000000000000000 ≤ n) (h2 : n ≤ 1000000000000000000) : wrap64 n = n := wrap_eq (by omega) (by omega)
theorem wj (j : Nat) (h : j ≤ 1000000000000) : wrap64 ((j : Int) + 1) = ((j + 1 : Nat) : Int) := by rw [w64 _ (by omega) (by omega)]; omega
def pt (n : Int) : S36 := ⟨n, n⟩
theorem rt_iff (n : Int) : rt n = true ↔ -9007199254740992 ≤ n ∧ n ≤ 9007199254740992 := by unfold rt; rw [Bool.and_eq_true, decide_eq_true_eq, decide_eq_true_eq]
theorem errL_zero (l : List Int) : errL l = 0 ↔ ∀ n ∈ l, rt n = true := by
  induction l with
  | nil => simp [errL]
  | cons n t ih =>
    show (if rt n = true then errL t else 11) = 0 ↔ _
    rw [List.forall_mem_cons]
    by_cases h : rt n = true
    · rw [if_pos h, ih]; exact ⟨fun q => ⟨h, q⟩, fun q => q.2⟩
    · rw [if_neg h]; exact ⟨fun q => absurd q (by decide), fun q => absurd q.1 h⟩
theorem errL_cases (l : List Int) : errL l = 0 ∨ errL l = 11 := by
  induction l with
  | nil => exact .inl rfl
  | cons n t ih => show (if rt n = true then errL t else 11) = 0 ∨ (if rt n = true then errL t else 11) = 11; split; exact ih; exact .inr rfl
theorem of_l0 (l : List Int) (hl : l.length ≤ 1000000000) : ∀ (d j : Nat), l.length - j ≤ d → j ≤ l.length → (∀ n ∈ l.take j, rt n = true) →
    Ev (fun k => ints_Of.l0 k ((l.take j).map pt) l (l.length : Int) (j : Int)) (if errL (l.drop j) = 0 then lim (jn (l.map pt)) else ([], 11)) := by
  have fin : (∀ n ∈ l.take l.length, rt n = true) → Ev (fun k => ints_Of.l0 k ((l.take l.length).map pt) l (l.length : Int) ((l.length : Nat) : Int)) (if errL (l.drop l.length) = 0 then lim (jn (l.map pt)) else ([], 11)) := by
    intro hok
    rw [List.take_length] at *
    rw [List.drop_length, if_pos (show errL [] = 0 from rfl)]
    apply Ev.succ
    have hj : ints_joined.f (l.map pt) = some (jn (l.map pt)) := by
      unfold ints_joined.f
      rw [if_pos]
      refine ⟨fun x hx => ?_, by rw [List.length_map]; exact hl⟩
      obtain ⟨n, hn, rfl⟩ := List.mem_map.1 hx
      have := (rt_iff n).1 (hok n hn)
      exact ⟨this.1, this.2, this.1, this.2⟩
    simp only [ints_Of.l0, if_neg (show ¬ (l.length : Int) < (l.length : Int) by omega), hj, limited_f, Option.bind_some]
    exact Ev.now _
  intro d
  induction d with
  | zero =>
    intro j hd hj hok
    obtain rfl : j = l.length := by omega
    exact fin hok
  | succ d ih =>
    intro j hd hj hok
    by_cases hlt : j < l.length
    · have c1 : (j : Int) < (l.length : Int) := Int.ofNat_lt.2 hlt
      have c2 : (0 : Int) ≤ (j : Int) := Int.natCast_nonneg j
      have hrd : rd l (j : Int) = l[j] := by simp [rd, List.getD_eq_getElem?_getD, List.getElem?_eq_getElem hlt]
      rw [List.drop_eq_getElem_cons hlt]
      have ee : errL (l[j] :: l.drop (j + 1)) = if rt l[j] = true then errL (l.drop (j + 1)) else 11 := rfl
      rw [ee]
      apply Ev.succ
      simp only [ints_Of.l0, if_pos c1, if_pos c2, hrd]
      by_cases hr : rt l[j] = true
      · have h2 := (rt_iff _).1 hr
        rw [if_pos hr]
        have R := ih (j + 1) (by omega) hlt (fun n hn => by
          rw [List.take_succ_eq_append_getElem hlt] at hn
          rcases List.mem_append.1 hn with q | q
          · exact hok n q
          · rw [List.mem_singleton.1 q]; exact hr)
        rw [List.take_succ_eq_append_getElem hlt, List.map_append, List.map_singleton] at R
        simp only [if_neg (show ¬ l[j] < -9007199254740992 by omega), if_neg (show ¬ l[j] > 9007199254740992 by omega), if_pos (show ((l.take j).map pt).length < 8796093022208 by rw [List.length_map, List.length_take]; omega), wj j (by omega)]
        exact R
      · rw [if_neg hr, if_neg (by decide)]
        by_cases h1 : l[j] < -9007199254740992
        · simp only [if_pos h1]; exact Ev.now _
        · have h2 : l[j] > 9007199254740992 := by
            rcases Int.lt_or_le 9007199254740992 l[j] with q | q
            · exact q
            · exact absurd ((rt_iff _).2 ⟨by omega, q⟩) hr
          simp only [if_neg h1, if_pos h2]; exact Ev.now _
    · obtain rfl : j = l.length := by omega
      exact fin hok
theorem of_ev (l : List Int) (hl : l.length ≤ 1000000000) : Ev (fun k => ints_Of.f k l) (if errL l = 0 then lim (jn (l.map pt)) else ([], 11)) := by
  have := of_l0 l hl l.length 0 (by omega) (by omega) (by simp)
  exact this
theorem both_ev (x y : List S36) : Ev (fun k => ints_both.f k x y) (g2E (errF x) (errF y)) := by
  unfold g2E
  simp only [ints_both.f]
  refine Ev.bind (check_f x) ?_
  by_cases h : errF x = 0
  · simp only [if_pos h]
    exact Ev.bind (check_f y) (Ev.now _)
  · simp only [if_neg h]; exact Ev.now _
theorem rd_L0 (x y : List S36) : rd_L2 [x, y] 0 = x := rfl
theorem rd_L1 (x y : List S36) : rd_L2 [x, y] 1 = y := rfl
theorem cat_ev (x y : List S36) (hx : x.length ≤ 400000000) (hy : y.length ≤ 400000000) : Ev (fun k => ints_Range_13.f k [x, y]) (x ++ y) := by
  have e1 : wrap64 ((0 : Int) + (x.length : Int)) = (x.length : Int) := by rw [w64 _ (by omega) (by omega)]; omega
  have e2 : wrap64 ((x.length : Int) + (y.length : Int)) = (x.length : Int) + (y.length : Int) := w64 _ (by omega) (by omega)
  have e3 : wrap64 ((0 : Int) + 1) = 1 := by rw [w64 _ (by decide) (by decide)]; rfl
  have e4 : wrap64 ((1 : Int) + 1) = 2 := by rw [w64 _ (by decide) (by decide)]; rfl
  have eg : ints_Range_30.f ([] : List S36) ((x.length : Int) + (y.length : Int)) = some [] := by unfold ints_Range_30.f; rw [if_pos ⟨rfl, by omega, by omega⟩]
  have el : (([x, y] : List (List S36)).length : Int) = 2 := rfl
  simp only [ints_Range_13.f, el]
  apply Ev.succ
  simp only [ints_Range_13.l0, if_pos (show (0 : Int) < 2 by decide), if_pos (show (0 : Int) ≤ 0 by decide), el, rd_L0, e1, if_neg (show ¬ (x.length : Int) < 0 by omega), e3]
  apply Ev.succ
  simp only [ints_Range_13.l0, if_pos (show (1 : Int) < 2 by decide), if_pos (show (0 : Int) ≤ 1 by decide), el, rd_L1, e2, if_neg (show ¬ (x.length : Int) + (y.length : Int) < 0 by omega), e4]
  apply Ev.succ
  simp only [ints_Range_13.l0, if_neg (show ¬ (2 : Int) < 2 by decide), eg, Option.bind_some, el]
  apply Ev.succ
  simp only [ints_Range_13.l1, if_pos (show (0 : Int) < 2 by decide), if_pos (show (0 : Int) ≤ 0 by decide), el, rd_L0, e3, if_pos (show ([] : List S36).length + x.length < 8796093022208 by simp; omega), List.nil_append]
  apply Ev.succ
  simp only [ints_Range_13.l1, if_pos (show (1 : Int) < 2 by decide), if_pos (show (0 : Int) ≤ 1 by decide), el, rd_L1, e4, if_pos (show x.length + y.length < 8796093022208 by omega)]
  apply Ev.succ
  simp only [ints_Range_13.l1, if_neg (show ¬ (2 : Int) < 2 by decide)]
  exact Ev.now _
theorem cat2_ev (x y : List S36) (hx : x.length ≤ 400000000) (hy : y.length ≤ 400000000) : Ev (fun k => ints_Range_32.f k [x, y]) (x ++ y) := by
  have e1 : wrap64 ((0 : Int) + (x.length : Int)) = (x.length : Int) := by rw [w64 _ (by omega) (by omega)]; omega
  have e2 : wrap64 ((x.length : Int) + (y.length : Int)) = (x.length : Int) + (y.length : Int) := w64 _ (by omega) (by omega)
  have e3 : wrap64 ((0 : Int) + 1) = 1 := by rw [w64 _ (by decide) (by decide)]; rfl
  have e4 : wrap64 ((1 : Int) + 1) = 2 := by rw [w64 _ (by decide) (by decide)]; rfl
  have eg : ints_Range_38.f ([] : List S36) ((x.length : Int) + (y.length : Int)) = some [] := by unfold ints_Range_38.f; rw [if_pos ⟨rfl, by omega, by omega⟩]
  have el : (([x, y] : List (List S36)).length : Int) = 2 := rfl
  simp only [ints_Range_32.f, el]
  apply Ev.succ
  simp only [ints_Range_32.l0, if_pos (show (0 : Int) < 2 by decide), if_pos (show (0 : Int) ≤ 0 by decide), el, rd_L0, e1, if_neg (show ¬ (x.length : Int) < 0 by omega), e3]
  apply Ev.succ
  simp only [ints_Range_32.l0, if_pos (show (1 : Int) < 2 by decide), if_pos (show (0 : Int) ≤ 1 by decide), el, rd_L1, e2, if_neg (show ¬ (x.length : Int) + (y.length : Int) < 0 by omega), e4]
  apply Ev.succ
  simp only [ints_Range_32.l0, if_neg (show ¬ (2 : Int) < 2 by decide), eg, Option.bind_some, el]
  apply Ev.succ
  simp only [ints_Range_32.l1, if_pos (show (0 : Int) < 2 by decide), if_pos (show (0 : Int) ≤ 0 by decide), el, rd_L0, e3, if_pos (show ([] : List S36).length + x.length < 8796093022208 by simp; omega), List.nil_append]
  apply Ev.succ
  simp only [ints_Range_32.l1, if_pos (show (1 : Int) < 2 by decide), if_pos (show (0 : Int) ≤ 1 by decide), el, rd_L1, e4, if_pos (show x.length + y.length < 8796093022208 by omega)]
  apply Ev.succ
  simp only [ints_Range_32.l1, if_neg (show ¬ (2 : Int) < 2 by decide)]
  exact Ev.now _
theorem g2_cn {x y : List S36} (h : g2E (errF x) (errF y) = 0) : (x.length ≤ 500 ∧ cn (-9007199254740992) x) ∧ (y.length ≤ 500 ∧ cn (-9007199254740992) y) := by
  unfold g2E at h
  by_cases hx : errF x = 0
  · rw [if_pos hx] at h
    exact ⟨⟨(errF_zero hx).1, errF_cn hx⟩, ⟨(errF_zero h).1, errF_cn h⟩⟩
  · rw [if_neg hx] at h; exact absurd h hx
theorem union_ev (x y : List S36) : Ev (fun k => ints_Union.f k x y) (if g2E (errF x) (errF y) = 0 then lim (jn (x ++ y)) else ([], g2E (errF x) (errF y))) := by
  simp only [ints_Union.f]
  refine Ev.bind (both_ev x y) ?_
  by_cases h : g2E (errF x) (errF y) = 0
  · obtain ⟨⟨lx, cx⟩, ly, cy⟩ := g2_cn h
    simp only [if_pos h]
    refine Ev.bind (cat2_ev x y (by omega) (by omega)) ?_
    have hj : ints_joined.f (x ++ y) = some (jn (x ++ y)) := by
      unfold ints_joined.f
      rw [if_pos]
      refine ⟨fun r hr => ?_, by rw [List.length_append]; omega⟩
      rcases List.mem_append.1 hr with q | q
      · have := cn_all cx r q; exact ⟨by omega, by omega, by omega, by omega⟩
      · have := cn_all cy r q; exact ⟨by omega, by omega, by omega, by omega⟩
    simp only [hj, limited_f, Option.bind_some]
    exact Ev.now _
  · simp only [if_neg h]; exact Ev.now _
end Go.Proofs.Ytcmdoffdfnnlcaa.PIj
