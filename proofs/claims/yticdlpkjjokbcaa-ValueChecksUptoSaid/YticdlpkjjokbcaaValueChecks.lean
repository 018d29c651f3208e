/- The plain law of ValueChecks: Size, Deep and Check tell what the reference tells. No statement is proved here. -/
import Derived.Test.YticdlpkjjokbcaaPValx7
import Derived.Test.YticdlpkjjokbcaaVcWalk
import Derived.Test.YticdlpkjjokbcaaVcNode
import Derived.Test.YticdlpkjjokbcaaValFact
import Derived.Test.YticdlpkjjokbcaaValOpen
namespace Go.Proofs.Yticdlpkjjokbcaa.PVal
open Go.RowKit Go.Proofs.YticdlpkjjokbcaaW.PrintWords Go.Proofs.YticdlpkjjokbcaaW.PrintLast Go.Proofs.YticdlpkjjokbcaaW.PrintMore Go.Proofs.Yticdlpkjjokbcaa Go.Proofs.Yticdlpkjjokbcaa.Plug
set_option linter.unusedVariables false
set_option linter.unusedSimpArgs false
theorem maxL_le (l : List Int) : ∀ (m B : Int), maxL m l ≤ B ↔ m ≤ B ∧ ∀ x ∈ l, x ≤ B := by
  induction l with
  | nil => intro m B; simp [maxL]
  | cons a t ih =>
    intro m B
    show maxL (if m < a then a else m) t ≤ B ↔ _
    rw [ih, List.forall_mem_cons]
    constructor
    · rintro ⟨h1, h2⟩
      split at h1
      · exact ⟨by omega, h1, h2⟩
      · exact ⟨h1, by omega, h2⟩
    · rintro ⟨h1, h2, h3⟩
      refine ⟨?_, h3⟩
      split <;> assumption
theorem max_f (x : S24g S36) : slices_Max_int_int.f ((ndV x).map (·.2)) = some (dpV x) := by
  rw [ndV_eq, List.map_cons]
  show some (maxL 1 ((ndFs x.f3).map (·.2))) = _
  congr 1
  have key : ∀ B, maxL 1 ((ndFs x.f3).map (·.2)) ≤ B ↔ dpV x ≤ B := by
    intro B
    rw [maxL_le, ← dp_le _ x (Nat.le_refl _) B, ndV_eq, List.forall_mem_cons, List.forall_mem_map]
  exact Int.le_antisymm ((key _).2 (Int.le_refl _)) ((key _).1 (Int.le_refl _))
/-- The first error of the nodes in order. -/
def lsE : Bool → List (S24g S36) → Int
  | _, [] => 0
  | b, v :: t => if nodeE v.f0 v.f1 v.f2 v.f3 b = 0 then lsE false t else nodeE v.f0 v.f1 v.f2 v.f3 b
theorem lsE_cons (b : Bool) (v : S24g S36) (t : List (S24g S36)) : lsE b (v :: t) = if nodeE v.f0 v.f1 v.f2 v.f3 b = 0 then lsE false t else nodeE v.f0 v.f1 v.f2 v.f3 b := rfl
theorem lsE_append (a b : List (S24g S36)) : lsE false (a ++ b) = if lsE false a = 0 then lsE false b else lsE false a := by
  induction a with
  | nil => rfl
  | cons v t ih =>
    rw [List.cons_append, lsE_cons, lsE_cons, ih]
    by_cases h : nodeE v.f0 v.f1 v.f2 v.f3 false = 0
    · rw [if_pos h, if_pos h]
    · rw [if_neg h, if_neg h, if_neg h]
theorem rd_getT (l : List (S24g S36)) (j : Nat) (h : j < l.length) : rd_T24 l (j : Int) = l[j] := by simp [rd_T24, List.getD_eq_getElem?_getD, List.getElem?_eq_getElem h]
theorem err_l0 (l : List (S24g S36)) (hl : l.length ≤ 1000000000) (ok : ∀ v ∈ l, (Lit.int .i64 v.f0).wf = true ∧ v.f3.length ≤ 1000000000000) : ∀ (d j : Nat), l.length - j ≤ d → j ≤ l.length →
    Ev (fun k => clapref1_ValueErr.l0 k l (l.length : Int) (j : Int)) (lsE ((j : Int) == 0) (l.drop j)) := by
  intro d
  induction d with
  | zero =>
    intro j hd hj
    obtain rfl : j = l.length := by omega
    apply Ev.succ
    simp only [clapref1_ValueErr.l0, if_neg (show ¬ (l.length : Int) < (l.length : Int) by omega)]
    rw [List.drop_length]
    exact Ev.now _
  | succ d ih =>
    intro j hd hj
    by_cases hlt : j < l.length
    · have c1 : (j : Int) < (l.length : Int) := Int.ofNat_lt.2 hlt
      have c2 : (0 : Int) ≤ (j : Int) := Int.natCast_nonneg j
      have w2 : wrap64 ((j : Int) + 1) = ((j + 1 : Nat) : Int) := by rw [wsmall _ (by omega) (by omega)]; omega
      have R := ih (j + 1) (by omega) hlt
      have b1 : (((j + 1 : Nat) : Int) == 0) = false := by rw [beq_eq_false_iff_ne]; omega
      rw [b1] at R
      have q := ok _ (List.getElem_mem hlt)
      rw [List.drop_eq_getElem_cons hlt, lsE_cons]
      apply Ev.succ
      simp only [clapref1_ValueErr.l0, if_pos c1, if_pos c2, rd_getT l j hlt, clapref1_nodeErr.f, if_pos q, Option.bind_some, w2]
      by_cases h : nodeE l[j].f0 l[j].f1 l[j].f2 l[j].f3 ((j : Int) == 0) = 0
      · simp only [if_pos h]; exact R
      · simp only [if_neg h]; exact Ev.now _
    · obtain rfl : j = l.length := by omega
      apply Ev.succ
      simp only [clapref1_ValueErr.l0, if_neg (show ¬ (l.length : Int) < (l.length : Int) by omega)]
      rw [List.drop_length]
      exact Ev.now _
theorem node_l0 (l : List S36) (hll : l.length ≤ 1000000000) (IH : ∀ f ∈ l, Ev (fun k => value_node.f k f.f1.f0 f.f1.f1 f.f1.f2 f.f1.f3 false) (lsE false ((ndF f).map (·.1)))) : ∀ (d j : Nat), l.length - j ≤ d → j ≤ l.length →
    Ev (fun k => value_node.l0 k l (l.length : Int) (j : Int)) (lsE false ((ndFs (l.drop j)).map (·.1))) := by
  intro d
  induction d with
  | zero =>
    intro j hd hj
    obtain rfl : j = l.length := by omega
    apply Ev.succ
    simp only [value_node.l0, if_neg (show ¬ (l.length : Int) < (l.length : Int) by omega)]
    rw [List.drop_length]
    exact Ev.now _
  | succ d ih =>
    intro j hd hj
    by_cases hlt : j < l.length
    · have c1 : (j : Int) < (l.length : Int) := Int.ofNat_lt.2 hlt
      have c2 : (0 : Int) ≤ (j : Int) := Int.natCast_nonneg j
      have w2 : wrap64 ((j : Int) + 1) = ((j + 1 : Nat) : Int) := by rw [wsmall _ (by omega) (by omega)]; omega
      have R := ih (j + 1) (by omega) hlt
      have H := IH _ (List.getElem_mem hlt)
      have e1 : List.map (·.1) ((ndF l[j]).map (fun p : S24g S36 × Int => (p.1, p.2 + 1))) = (ndF l[j]).map (·.1) := by rw [List.map_map]; rfl
      rw [ndFs_step l j hlt, List.map_append, e1, lsE_append]
      apply Ev.succ
      simp only [value_node.l0, if_pos c1, if_pos c2, rd_getV l j hlt]
      refine Ev.bind H ?_
      by_cases h : lsE false ((ndF l[j]).map (·.1)) = 0
      · simp only [if_pos h, w2]; exact R
      · simp only [if_neg h]; exact Ev.now _
    · obtain rfl : j = l.length := by omega
      apply Ev.succ
      simp only [value_node.l0, if_neg (show ¬ (l.length : Int) < (l.length : Int) by omega)]
      rw [List.drop_length]
      exact Ev.now _
theorem node_j0 (z : Bool) (k n : Int) (s : ByteArray) (l : List S36) (L : Int) (H : Ev (fun q => value_node.l0 q l (l.length : Int) 0) L) : Ev (fun q => value_node.j0 q z k n s l) (if z = true then 3 else if nB k n = true then (if fE k s l = 0 then L else fE k s l) else 11) := by
  apply Ev.succ
  cases z
  · simp only [value_node.j0, Bool.false_eq_true, if_false, number_f, Option.bind_some]
    cases hb : nB k n
    · simp only [Bool.false_eq_true, if_false]; exact Ev.now _
    · simp only [if_true]
      refine Ev.bind (fields_ev k n s l) ?_
      by_cases h : fE k s l = 0
      · simp only [if_pos h]; exact H
      · simp only [if_neg h]; exact Ev.now _
  · simp only [value_node.j0, if_true]; exact Ev.now _
/-- Is the node refused for its kind, or for what it holds beside it? -/
def zB (k n : Int) (s : ByteArray) (l : List S36) (first : Bool) : Bool := if k < 0 ∨ 12 ≤ k ∨ k = 10 ∨ (k = 11 ∧ first = false) then true else uB k n s l
theorem node_step (k n : Int) (s : ByteArray) (l : List S36) (first : Bool) (L : Int) (H : Ev (fun q => value_node.l0 q l (l.length : Int) 0) L) : Ev (fun q => value_node.f q k n s l first) (if zB k n s l first = true then 3 else if nB k n = true then (if fE k s l = 0 then L else fE k s l) else 11) := by
  have J := node_j0 (zB k n s l first) k n s l L H
  apply Ev.succ
  unfold zB at J ⊢
  by_cases h1 : k < 0
  · rw [if_pos (show k < 0 ∨ 12 ≤ k ∨ k = 10 ∨ (k = 11 ∧ first = false) from .inl h1)] at J ⊢
    simp only [value_node.f, if_pos h1]; exact J
  by_cases h2 : k ≥ 12
  · rw [if_pos (show k < 0 ∨ 12 ≤ k ∨ k = 10 ∨ (k = 11 ∧ first = false) from .inr (.inl h2))] at J ⊢
    simp only [value_node.f, if_neg h1, if_pos h2]; exact J
  by_cases h3 : k = 10
  · rw [if_pos (show k < 0 ∨ 12 ≤ k ∨ k = 10 ∨ (k = 11 ∧ first = false) from .inr (.inr (.inl h3)))] at J ⊢
    simp only [value_node.f, if_neg h1, if_neg h2, if_pos h3]; exact J
  by_cases h4 : k = 11
  · cases first
    · rw [if_pos (show k < 0 ∨ 12 ≤ k ∨ k = 10 ∨ (k = 11 ∧ false = false) from .inr (.inr (.inr ⟨h4, rfl⟩)))] at J ⊢
      simp only [value_node.f, if_neg h1, if_neg h2, if_neg h3, if_pos h4, Bool.false_eq_true, if_false]; exact J
    · have e : ¬ (k < 0 ∨ 12 ≤ k ∨ k = 10 ∨ (k = 11 ∧ true = false)) := by simp; omega
      rw [if_neg e] at J ⊢
      simp only [value_node.f, if_neg h1, if_neg h2, if_neg h3, if_pos h4, if_true, unused_f, Option.bind_some]; exact J
  · have e : ¬ (k < 0 ∨ 12 ≤ k ∨ k = 10 ∨ (k = 11 ∧ first = false)) := by
      intro q; rcases q with q | q | q | q
      · exact h1 q
      · exact h2 q
      · exact h3 q
      · exact h4 q.1
    rw [if_neg e] at J ⊢
    simp only [value_node.f, if_neg h1, if_neg h2, if_neg h3, if_neg h4, unused_f, Option.bind_some]; exact J
theorem node_val (k n : Int) (s : ByteArray) (l : List S36) (first : Bool) (L : Int) (hn : (Lit.int .i64 n).wf = true) : (if zB k n s l first = true then 3 else if nB k n = true then (if fE k s l = 0 then L else fE k s l) else 11) = (if nodeE k n s l first = 0 then L else nodeE k n s l first) := by
  rw [node_eq k n s l first hn]
  unfold zB ownE
  by_cases h : k < 0 ∨ 12 ≤ k ∨ k = 10 ∨ (k = 11 ∧ first = false)
  · simp only [if_pos h]; rfl
  · simp only [if_neg h]
    cases uB k n s l
    · cases nB k n
      · rfl
      · simp only [Bool.false_eq_true, if_false, if_true]
    · rfl
theorem node_ev (d : Nat) : ∀ (x : S24g S36), szV x ≤ d → szV x ≤ 1000000000 → rgV x → ∀ first, Ev (fun q => value_node.f q x.f0 x.f1 x.f2 x.f3 first) (lsE first ((ndV x).map (·.1))) := by
  induction d with
  | zero => intro x h; rw [szV_eq] at h; omega
  | succ d ih =>
    intro x h hb hr first
    rw [szV_eq] at h hb
    rw [rgV_eq] at hr
    have := szFs_lenV x.f3
    have L := node_l0 x.f3 (by omega) (fun f hf => by
      have h1 := szFs_mem hf
      rw [szF_eq] at h1
      have h2 := rgFs_of hr.2.2 f hf
      rw [rgF_eq] at h2
      rw [ndF_eq]
      exact ih f.f1 (by omega) (by omega) h2 false) x.f3.length 0 (by omega) (by omega)
    rw [List.drop_zero] at L
    have R := node_step x.f0 x.f1 x.f2 x.f3 first _ L
    rw [node_val _ _ _ _ _ _ hr.2.1] at R
    rw [ndV_eq, List.map_cons, lsE_cons]
    exact R
theorem nd_ok (d : Nat) : ∀ (x : S24g S36), szV x ≤ d → szV x ≤ 1000000000 → rgV x → ∀ p ∈ ndV x, (Lit.int .i64 p.1.f0).wf = true ∧ p.1.f3.length ≤ 1000000000000 := by
  induction d with
  | zero => intro x h; rw [szV_eq] at h; omega
  | succ d ih =>
    intro x h hb hr
    rw [szV_eq] at h hb
    rw [rgV_eq] at hr
    have := szFs_lenV x.f3
    rw [ndV_eq, List.forall_mem_cons]
    refine ⟨⟨hr.1, by show x.f3.length ≤ _; omega⟩, ?_⟩
    have H : ∀ f ∈ x.f3, ∀ p ∈ ndF f, (Lit.int .i64 p.1.f0).wf = true ∧ p.1.f3.length ≤ 1000000000000 := fun f hf => by
      have h1 := szFs_mem hf
      rw [szF_eq] at h1
      have h2 := rgFs_of hr.2.2 f hf
      rw [rgF_eq] at h2
      rw [ndF_eq]
      exact ih f.f1 (by omega) (by omega) h2
    clear this h hb hr ih
    generalize x.f3 = l at H
    induction l with
    | nil => intro p hp; cases hp
    | cons a t iht =>
      have e : ndFs (a :: t) = (ndF a).map (fun p => (p.1, p.2 + 1)) ++ ndFs t := rfl
      rw [e, List.forall_mem_append, List.forall_mem_map]
      exact ⟨fun p hp => H a (List.mem_cons_self ..) p hp, iht (fun f hf => H f (List.mem_cons_of_mem _ hf))⟩
theorem sz_wt (d : Nat) : ∀ x : S24g S36, szV x ≤ d → szV x ≤ wtV x := by
  induction d with
  | zero => intro x h; rw [szV_eq] at h; omega
  | succ d ih =>
    intro x h
    rw [szV_eq] at h ⊢
    rw [wtV_eq]
    have : ∀ l : List S36, szFs l ≤ d → szFs l ≤ wtFs l := by
      intro l
      induction l with
      | nil => intro _; exact Nat.le_refl _
      | cons a t iht =>
        intro hl
        have e1 : szFs (a :: t) = szF a + szFs t := rfl
        have e2 : wtFs (a :: t) = wtF a + wtFs t := rfl
        have := iht (by omega)
        have h3 := ih a.f1 (by rw [← szF_eq]; omega)
        rw [← szF_eq] at h3
        rw [wtF_eq] at e2
        omega
    have := this x.f3 (by omega)
    omega
/-- What Check and ValueErr tell. -/
def chk (x : S24g S36) : Int := if ((szV x : Nat) : Int) > 2000 then 2 else if dpV x > 40 then 2 else lsE true ((ndV x).map (·.1))
theorem check_ev (x : S24g S36) (hb : szV x ≤ 1000000000) (hr : rgV x) : Ev (fun k => value_Check.f k x.f0 x.f1 x.f2 x.f3) (chk x) := by
  unfold chk
  simp only [value_Check.f]
  refine Ev.bind (size_ev _ x (Nat.le_refl _) hb) ?_
  by_cases h1 : ((szV x : Nat) : Int) > 2000
  · simp only [if_pos h1]; exact Ev.now _
  · simp only [if_neg h1]
    refine Ev.bind (deep_ev _ x (Nat.le_refl _) hb) ?_
    by_cases h2 : dpV x > 40
    · simp only [if_pos h2]; exact Ev.now _
    · simp only [if_neg h2]
      exact Ev.bind (node_ev _ x (Nat.le_refl _) hb hr true) (Ev.now _)
theorem err_ev (x : S24g S36) (hb : szV x ≤ 1000000000) (hr : rgV x) : Ev (fun k => clapref1_ValueErr.f k x.f0 x.f1 x.f2 x.f3) (chk x) := by
  have hlen : ((ndV x).map (·.1)).length = szV x := by rw [List.length_map]; exact nd_len _ x (Nat.le_refl _)
  unfold chk
  simp only [clapref1_ValueErr.f]
  refine Ev.bind (walk_ev _ x (Nat.le_refl _) hb) ?_
  simp only [hlen, max_f, Option.bind_some]
  by_cases h1 : ((szV x : Nat) : Int) > 2000
  · simp only [if_pos h1]
    apply Ev.succ
    simp only [clapref1_ValueErr.j0, if_true]; exact Ev.now _
  · simp only [if_neg h1]
    apply Ev.succ
    by_cases h2 : dpV x > 40
    · simp only [if_pos h2, clapref1_ValueErr.j0, decide_eq_true_eq]; exact Ev.now _
    · simp only [if_neg h2, clapref1_ValueErr.j0, decide_eq_true_eq]
      have E := err_l0 ((ndV x).map (·.1)) (by rw [hlen]; exact hb) (List.forall_mem_map.2 (nd_ok _ x (Nat.le_refl _) hb hr)) _ 0 (Nat.le_refl _) (Nat.zero_le _)
      rw [List.drop_zero] at E
      exact E
theorem ValueChecks (x : S24g S36) (h : wtV x ≤ 1048576) (hr : rgV x) : ∃ k, claplaw1_ValueChecks.f k x.f0 x.f1 x.f2 x.f3 = some true := by
  have hb : szV x ≤ 1000000000 := Nat.le_trans (Nat.le_trans (sz_wt _ x (Nat.le_refl _)) h) (by decide)
  have hlen : ((ndV x).map (·.1)).length = szV x := by rw [List.length_map]; exact nd_len _ x (Nat.le_refl _)
  refine Ev.rounds (g := fun k => claplaw1_ValueChecks.f k x.f0 x.f1 x.f2 x.f3) ?_
  simp only [claplaw1_ValueChecks.f]
  refine Ev.bind (walk_ev _ x (Nat.le_refl _) hb) ?_
  refine Ev.bind values_ev ?_
  simp only [if_true, hlen, max_f, Option.bind_some]
  refine Ev.bind (size_ev _ x (Nat.le_refl _) hb) ?_
  simp only [if_true]
  refine Ev.bind (deep_ev _ x (Nat.le_refl _) hb) ?_
  simp only [if_true]
  refine Ev.bind (check_ev x hb hr) ?_
  refine Ev.bind (err_ev x hb hr) ?_
  simp only [beq_self_eq_true]
  exact Ev.now _
end Go.Proofs.Yticdlpkjjokbcaa.PVal
