/- The plain law of ValueGets: Get finds the first field with a name, and copies it. No statement is proved here. -/
import Derived.Test.YtilffmhmgoaejaaPValx5
import Derived.Test.YtilffmhmgoaejaaValFact
import Derived.Test.YtilffmhmgoaejaaValOpen
namespace Go.Proofs.Ytilffmhmgoaejaa.PVal
open Go.RowKit Go.Proofs.YtilffmhmgoaejaaW.PrintWords Go.Proofs.YtilffmhmgoaejaaW.PrintLast Go.Proofs.YtilffmhmgoaejaaW.PrintMore Go.Proofs.Ytilffmhmgoaejaa Go.Proofs.Ytilffmhmgoaejaa.Plug
set_option linter.unusedVariables false
set_option linter.unusedSimpArgs false
theorem sz_le (d : Nat) : ∀ x : S52g S63, szV x ≤ d → szV x ≤ wtV x := by
  induction d with
  | zero => intro x h; rw [szV_eq] at h; omega
  | succ d ih =>
    intro x h
    rw [szV_eq] at h ⊢
    rw [wtV_eq]
    have : ∀ l : List S63, szFs l ≤ d → szFs l ≤ wtFs l := by
      intro l
      induction l with
      | nil => intro _; exact Nat.le_refl _
      | cons a t iht =>
        intro hl
        have e1 : szFs (a :: t) = szF a + szFs t := rfl
        have e2 : wtFs (a :: t) = wtF a + wtFs t := rfl
        have := iht (by omega)
        have h3 := ih a.f1 (by rw [← szF_eq]; omega)
        rw [← szF_eq] at h3
        rw [wtF_eq] at e2
        omega
    have := this x.f3 (by omega)
    omega
theorem key_le (d : Nat) : ∀ x : S52g S63, szV x ≤ d → (keyV x).length + 2 ≤ 20 * wtV x := by
  induction d with
  | zero => intro x h; rw [szV_eq] at h; omega
  | succ d ih =>
    intro x h
    rw [szV_eq] at h
    rw [wtV_eq, keyV_eq]
    simp only [List.length_append, be8_len, tx_len, lb_len, List.length_cons, List.length_nil]
    have : ∀ l : List S63, szFs l ≤ d → (keyFs l).length ≤ 20 * wtFs l := by
      intro l
      induction l with
      | nil => intro _; exact Nat.le_refl _
      | cons a t iht =>
        intro hl
        have e1 : szFs (a :: t) = szF a + szFs t := rfl
        have e2 : wtFs (a :: t) = wtF a + wtFs t := rfl
        have e3 : keyFs (a :: t) = keyF a ++ keyFs t := rfl
        have := iht (by omega)
        have h3 := ih a.f1 (by rw [← szF_eq]; omega)
        rw [wtF_eq] at e2
        rw [e3, keyF_eq]
        simp only [List.length_append, tx_len, lb_len, List.length_cons, List.length_nil]
        omega
    have := this x.f3 (by omega)
    omega
theorem copy_f (x : S52g S63) (h : wtV x ≤ 1048576) : value_Copy.f x.f0 x.f1 x.f2 x.f3 = some (x.f0, x.f1, x.f2, x.f3) := by
  have := sz_le _ x (Nat.le_refl _)
  unfold value_Copy.f
  rw [if_pos]
  show szV ⟨x.f0, x.f1, x.f2, x.f3⟩ ≤ _
  have e : (⟨x.f0, x.f1, x.f2, x.f3⟩ : S52g S63) = x := by cases x; rfl
  rw [e]; omega
theorem key_f (x : S52g S63) (h : wtV x ≤ 1048576) : clapref1_Key.f x.f0 x.f1 x.f2 x.f3 = some ⟨(keyV x).toArray⟩ := by
  have := key_le _ x (Nat.le_refl _)
  unfold clapref1_Key.f
  have e : (⟨x.f0, x.f1, x.f2, x.f3⟩ : S52g S63) = x := by cases x; rfl
  rw [e, if_pos (by omega)]
/-- The first field with a name; none of a list. -/
def fnd (k : Int) (nm : ByteArray) : List S63 → Option S63
  | [] => none
  | f :: t => if f.f0.toList = nm.toList then (if k = 8 then fnd k nm t else some f) else fnd k nm t
def resV : Option S63 → S52g S63
  | some f => f.f1
  | none => ⟨0, 0, ⟨#[]⟩, []⟩
theorem fnd_wt (k : Int) (nm : ByteArray) (l : List S63) : wtV (resV (fnd k nm l)) ≤ 4 + wtFs l := by
  induction l with
  | nil => exact Nat.le_refl 4
  | cons f t ih =>
    have e2 : wtFs (f :: t) = wtF f + wtFs t := rfl
    rw [wtF_eq] at e2
    unfold fnd
    split
    · split
      · omega
      · show wtV f.f1 ≤ _; omega
    · omega
theorem rd_of (l : List S63) (i : Nat) (h : i < l.length) : rd_T63 l (i : Int) = l[i] := by simp [rd_T63, List.getD_eq_getElem?_getD, List.getElem?_eq_getElem h]
theorem get_ev (nm : ByteArray) (l : List S63) (hw : wtFs l ≤ 1048576) (hl : l.length ≤ 1048576) (a b : Int) (s : ByteArray) (fs : List S63) : ∀ (d i : Nat), l.length - i ≤ d → i ≤ l.length →
    Ev (fun k => value_Get.l0 k nm l (l.length : Int) i a b s fs) ((resV (fnd a nm (l.drop i))).f0, (resV (fnd a nm (l.drop i))).f1, (resV (fnd a nm (l.drop i))).f2, (resV (fnd a nm (l.drop i))).f3, (fnd a nm (l.drop i)).isSome) := by
  intro d
  induction d with
  | zero =>
    intro i h1 h2
    obtain rfl : i = l.length := by omega
    apply Ev.succ
    simp only [value_Get.l0, if_neg (show ¬ (l.length : Int) < l.length by omega), List.drop_length]
    exact Ev.now _
  | succ d ih =>
    intro i h1 h2
    by_cases q : i < l.length
    · apply Ev.succ
      simp only [value_Get.l0, if_pos (show (i : Int) < l.length by omega), if_pos (show (0 : Int) ≤ i by omega), rd_of l i q]
      rw [wrap_eq (by omega) (by omega), List.drop_eq_getElem_cons q]
      have hm : wtF l[i] ≤ wtFs l := wtFs_mem (List.getElem_mem q)
      rw [wtF_eq] at hm
      have IH := ih (i + 1) (by omega) (by omega)
      by_cases z : l[i].f0.toList = nm.toList
      · by_cases y : a = 8
        · have e : fnd a nm (l[i] :: l.drop (i + 1)) = fnd a nm (l.drop (i + 1)) := by conv => lhs; unfold fnd
                                                                                       rw [if_pos z, if_pos y]
          rw [e]
          simp only [if_pos z, if_pos y]
          exact_mod_cast IH
        · have e : fnd a nm (l[i] :: l.drop (i + 1)) = some l[i] := by unfold fnd; rw [if_pos z, if_neg y]
          rw [e]
          simp only [if_pos z, if_neg y, copy_f l[i].f1 (by omega), Option.bind_some]
          exact Ev.now _
      · have e : fnd a nm (l[i] :: l.drop (i + 1)) = fnd a nm (l.drop (i + 1)) := by conv => lhs; unfold fnd
                                                                                     rw [if_neg z]
        rw [e]
        simp only [if_neg z]
        exact_mod_cast IH
    · obtain rfl : i = l.length := by omega
      apply Ev.succ
      simp only [value_Get.l0, if_neg (show ¬ (l.length : Int) < l.length by omega), List.drop_length]
      exact Ev.now _
theorem law_ev (nm : ByteArray) (l : List S63) (hw : wtFs l ≤ 1048576) (hl : l.length ≤ 1048576) (a b : Int) (s : ByteArray) (fs : List S63) : ∀ (d i : Nat), l.length - i ≤ d → i ≤ l.length →
    Ev (fun k => claplaw1_ValueGets.l0 k nm (fnd a nm (l.drop i)).isSome l (l.length : Int) i a b s fs (resV (fnd a nm (l.drop i))).f0 (resV (fnd a nm (l.drop i))).f1 (resV (fnd a nm (l.drop i))).f2 (resV (fnd a nm (l.drop i))).f3) true := by
  have fin : ∀ i, i = l.length → Ev (fun k => claplaw1_ValueGets.l0 k nm (fnd a nm (l.drop i)).isSome l (l.length : Int) i a b s fs (resV (fnd a nm (l.drop i))).f0 (resV (fnd a nm (l.drop i))).f1 (resV (fnd a nm (l.drop i))).f2 (resV (fnd a nm (l.drop i))).f3) true := by
    intro i hi
    subst hi
    apply Ev.succ
    simp only [claplaw1_ValueGets.l0, if_neg (show ¬ (l.length : Int) < l.length by omega), List.drop_length]
    refine Ev.bind values_ev ?_
    have e : clapref1_Key.f 0 0 (⟨#[]⟩ : ByteArray) ([] : List S63) = some _ := key_f ⟨0, 0, ⟨#[]⟩, []⟩ (by decide)
    simp only [if_true, fnd, resV, Option.isSome_none, Bool.false_eq_true, if_false, e, Option.bind_some, beq_self_eq_true]
    exact Ev.now _
  intro d
  induction d with
  | zero => intro i h1 h2; exact fin i (by omega)
  | succ d ih =>
    intro i h1 h2
    by_cases q : i < l.length
    · apply Ev.succ
      simp only [claplaw1_ValueGets.l0, if_pos (show (i : Int) < l.length by omega), if_pos (show (0 : Int) ≤ i by omega), rd_of l i q]
      have hm : wtF l[i] ≤ wtFs l := wtFs_mem (List.getElem_mem q)
      rw [wtF_eq] at hm
      have IH := ih (i + 1) (by omega) (by omega)
      rw [List.drop_eq_getElem_cons q]
      by_cases z : l[i].f0.toList = nm.toList
      · by_cases y : a = 8
        · have e : fnd a nm (l[i] :: l.drop (i + 1)) = fnd a nm (l.drop (i + 1)) := by conv => lhs; unfold fnd
                                                                                       rw [if_pos z, if_pos y]
          rw [e]
          simp only [if_pos z]
          apply Ev.succ
          have y8 : (a != 8) = false := by simp [y]
          simp only [claplaw1_ValueGets.j1, y8, Bool.false_eq_true, if_false]
          rw [wrap_eq (by omega) (by omega)]
          exact_mod_cast IH
        · have e : fnd a nm (l[i] :: l.drop (i + 1)) = some l[i] := by unfold fnd; rw [if_pos z, if_neg y]
          rw [e]
          simp only [if_pos z]
          apply Ev.succ
          have y8 : (a != 8) = true := by simp [y]
          simp only [claplaw1_ValueGets.j1, y8, if_true]
          refine Ev.bind values_ev ?_
          simp only [resV, Option.isSome_some, if_true, key_f l[i].f1 (by omega), Option.bind_some, beq_self_eq_true]
          exact Ev.now _
      · have e : fnd a nm (l[i] :: l.drop (i + 1)) = fnd a nm (l.drop (i + 1)) := by conv => lhs; unfold fnd
                                                                                     rw [if_neg z]
        rw [e]
        simp only [if_neg z]
        apply Ev.succ
        simp only [claplaw1_ValueGets.j1, Bool.false_eq_true, if_false]
        rw [wrap_eq (by omega) (by omega)]
        exact_mod_cast IH
    · exact fin i (by omega)
theorem wtFs_len (l : List S63) : 4 * l.length ≤ wtFs l := by
  induction l with
  | nil => exact Nat.le_refl _
  | cons f t ih =>
    have e2 : wtFs (f :: t) = wtF f + wtFs t := rfl
    rw [wtF_eq, wtV_eq] at e2
    rw [List.length_cons]; omega
theorem ValueGets (x : S52g S63) (nm : ByteArray) (h : wtV x ≤ 1048576) (_ : rgV x) (_ : nm.size ≤ 1048576) : ∃ k, claplaw1_ValueGets.f k x.f0 x.f1 x.f2 x.f3 nm = some true := by
  refine Ev.rounds (g := fun k => claplaw1_ValueGets.f k x.f0 x.f1 x.f2 x.f3 nm) ?_
  rw [wtV_eq] at h
  have hl := wtFs_len x.f3
  have h1 := get_ev nm x.f3 (by omega) (by omega) x.f0 x.f1 x.f2 x.f3 x.f3.length 0 (by omega) (by omega)
  have h2 := law_ev nm x.f3 (by omega) (by omega) x.f0 x.f1 x.f2 x.f3 x.f3.length 0 (by omega) (by omega)
  simp only [claplaw1_ValueGets.f, value_Get.f]
  exact Ev.bind h1 h2
end Go.Proofs.Ytilffmhmgoaejaa.PVal
