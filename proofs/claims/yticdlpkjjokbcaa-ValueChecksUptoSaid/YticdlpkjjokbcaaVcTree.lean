/- What Size, Deep and the reference's Walk compute. No statement is proved here. -/
import Derived.Test.YticdlpkjjokbcaaPValx1
import Derived.Test.YticdlpkjjokbcaaValWords
import Derived.Test.YticdlpkjjokbcaaPlugMax
namespace Go.Proofs.Yticdlpkjjokbcaa.PVal
open Go.RowKit Go.Proofs.YticdlpkjjokbcaaW.PrintWords Go.Proofs.YticdlpkjjokbcaaW.PrintLast Go.Proofs.YticdlpkjjokbcaaW.PrintMore Go.Proofs.Yticdlpkjjokbcaa Go.Proofs.Yticdlpkjjokbcaa.Plug
set_option linter.unusedVariables false
set_option linter.unusedSimpArgs false
mutual
/-- How many levels a value has. -/
def dpV : S24g S36 → Int
  | ⟨_, _, _, fs⟩ => dpFs 0 fs + 1
def dpF : S36 → Int
  | ⟨_, v⟩ => dpV v
def dpFs : Int → List S36 → Int
  | m, [] => m
  | m, f :: t => dpFs (mx m (dpF f)) t
end
theorem dpV_eq (v : S24g S36) : dpV v = dpFs 0 v.f3 + 1 := by cases v; rfl
theorem dpF_eq (f : S36) : dpF f = dpV f.f1 := by cases f; rfl
mutual
/-- The nodes in order, with their levels. -/
def ndV : S24g S36 → List (S24g S36 × Int)
  | ⟨k, n, s, fs⟩ => (⟨k, n, s, fs⟩, 1) :: ndFs fs
def ndF : S36 → List (S24g S36 × Int)
  | ⟨_, v⟩ => ndV v
def ndFs : List S36 → List (S24g S36 × Int)
  | [] => []
  | f :: t => (ndF f).map (fun p => (p.1, p.2 + 1)) ++ ndFs t
end
theorem ndV_eq (v : S24g S36) : ndV v = (v, 1) :: ndFs v.f3 := by cases v; rfl
theorem ndF_eq (f : S36) : ndF f = ndV f.f1 := by cases f; rfl
theorem rd_getV (l : List S36) (j : Nat) (h : j < l.length) : rd_T36 l (j : Int) = l[j] := by simp [rd_T36, List.getD_eq_getElem?_getD, List.getElem?_eq_getElem h]
theorem szFs_step (l : List S36) (j : Nat) (h : j < l.length) : szFs (l.drop j) = szF l[j] + szFs (l.drop (j + 1)) := by rw [List.drop_eq_getElem_cons h]; rfl
theorem dpFs_step (m : Int) (l : List S36) (j : Nat) (h : j < l.length) : dpFs m (l.drop j) = dpFs (mx m (dpF l[j])) (l.drop (j + 1)) := by rw [List.drop_eq_getElem_cons h]; rfl
theorem ndFs_step (l : List S36) (j : Nat) (h : j < l.length) : ndFs (l.drop j) = (ndF l[j]).map (fun p => (p.1, p.2 + 1)) ++ ndFs (l.drop (j + 1)) := by rw [List.drop_eq_getElem_cons h]; rfl
theorem wsmall (n : Int) (h0 : 0 ≤ n) (h1 : n ≤ 1000000000000) : wrap64 n = n := wrap_eq (by omega) (by omega)
theorem size_loop (l : List S36) (hl : szFs l ≤ 1000000000) (hll : l.length ≤ 1000000000) (IH : ∀ f ∈ l, Ev (fun k => value_Size.f k f.f1.f0 f.f1.f1 f.f1.f2 f.f1.f3) ((szF f : Nat) : Int)) : ∀ (d j : Nat) (a : Nat), l.length - j ≤ d → j ≤ l.length → a + szFs (l.drop j) ≤ 1000000001 →
    Ev (fun k => value_Size.l0 k (a : Int) l (l.length : Int) (j : Int)) ((a + szFs (l.drop j) : Nat) : Int) := by
  intro d
  induction d with
  | zero =>
    intro j a hd hj ha
    obtain rfl : j = l.length := by omega
    apply Ev.succ
    simp only [value_Size.l0, if_neg (show ¬ (l.length : Int) < (l.length : Int) by omega)]
    rw [List.drop_length, show szFs ([] : List S36) = 0 from rfl, Nat.add_zero]
    exact Ev.now _
  | succ d ih =>
    intro j a hd hj ha
    by_cases hlt : j < l.length
    · have hst := szFs_step l j hlt
      have hm : l[j] ∈ l := List.getElem_mem hlt
      have H := IH _ hm
      have hrd := rd_getV l j hlt
      generalize l[j] = f at *
      generalize szF f = z at *
      have w1 : wrap64 ((a : Int) + (z : Int)) = ((a + z : Nat) : Int) := by rw [wsmall _ (by omega) (by omega)]; omega
      have w2 : wrap64 ((j : Int) + 1) = ((j + 1 : Nat) : Int) := by rw [wsmall _ (by omega) (by omega)]; omega
      have h3 : a + z + szFs (l.drop (j + 1)) ≤ 1000000001 := by rw [hst, ← Nat.add_assoc] at ha; exact ha
      have h4 : l.length - (j + 1) ≤ d := by clear ha h3 hst; omega
      have R := ih (j + 1) (a + z) h4 hlt h3
      have c1 : (j : Int) < (l.length : Int) := Int.ofNat_lt.2 hlt
      have c2 : (0 : Int) ≤ (j : Int) := Int.natCast_nonneg j
      rw [show a + szFs (l.drop j) = a + z + szFs (l.drop (j + 1)) by rw [hst, Nat.add_assoc]]
      clear IH ih hst
      apply Ev.succ
      simp only [value_Size.l0, if_pos c1, if_pos c2, hrd]
      refine Ev.bind H ?_
      simp only [w1, w2]
      exact R
    · obtain rfl : j = l.length := by omega
      apply Ev.succ
      simp only [value_Size.l0, if_neg (show ¬ (l.length : Int) < (l.length : Int) by omega)]
      rw [List.drop_length, show szFs ([] : List S36) = 0 from rfl, Nat.add_zero]
      exact Ev.now _
theorem szFs_lenV (l : List S36) : l.length ≤ szFs l := by
  induction l with
  | nil => simp
  | cons a t ih =>
    have : 1 ≤ szF a := by rw [szF_eq, szV_eq]; omega
    show _ ≤ szF a + szFs t; rw [List.length_cons]; omega
theorem size_ev (n : Nat) : ∀ x : S24g S36, szV x ≤ n → szV x ≤ 1000000000 → Ev (fun k => value_Size.f k x.f0 x.f1 x.f2 x.f3) ((szV x : Nat) : Int) := by
  induction n with
  | zero => intro x h; rw [szV_eq] at h; omega
  | succ n ih =>
    intro x h hb
    rw [szV_eq] at h hb ⊢
    apply Ev.succ
    have := szFs_lenV x.f3
    have L := size_loop x.f3 (by omega) (by omega) (fun f hf => by
      have h1 := szFs_mem hf
      rw [szF_eq] at h1 ⊢
      exact ih f.f1 (by omega) (by omega)) x.f3.length 0 1 (by omega) (by omega) (by rw [List.drop_zero]; omega)
    rw [List.drop_zero] at L
    exact L
end Go.Proofs.Yticdlpkjjokbcaa.PVal
