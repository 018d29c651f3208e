/- Deep and the reference's Walk compute the words of the tree. No statement is proved here. -/
import Derived.Test.YticdlpkjjokbcaaVcTree
namespace Go.Proofs.Yticdlpkjjokbcaa.PVal
open Go.RowKit Go.Proofs.YticdlpkjjokbcaaW.PrintWords Go.Proofs.YticdlpkjjokbcaaW.PrintLast Go.Proofs.YticdlpkjjokbcaaW.PrintMore Go.Proofs.Yticdlpkjjokbcaa Go.Proofs.Yticdlpkjjokbcaa.Plug
set_option linter.unusedVariables false
set_option linter.unusedSimpArgs false
theorem mx_le (a b c : Int) : mx a b ≤ c ↔ a ≤ c ∧ b ≤ c := by unfold mx; split <;> omega
theorem dpFs_le (l : List S36) : ∀ (m B : Int), dpFs m l ≤ B ↔ m ≤ B ∧ ∀ f ∈ l, dpF f ≤ B := by
  induction l with
  | nil => intro m B; simp [dpFs]
  | cons a t ih =>
    intro m B
    show dpFs (mx m (dpF a)) t ≤ B ↔ _
    rw [ih, mx_le]
    simp only [List.mem_cons, forall_eq_or_imp]
    exact and_assoc
theorem ndFs_all (l : List S36) (Q : Int → Prop) : (∀ p ∈ ndFs l, Q p.2) ↔ ∀ f ∈ l, ∀ p ∈ ndF f, Q (p.2 + 1) := by
  induction l with
  | nil => simp [ndFs]
  | cons a t ih =>
    have e : ndFs (a :: t) = (ndF a).map (fun p => (p.1, p.2 + 1)) ++ ndFs t := rfl
    rw [e, List.forall_mem_append, List.forall_mem_cons, ih]
    refine and_congr ?_ Iff.rfl
    constructor
    · intro h1 p hp; exact h1 (p.1, p.2 + 1) (List.mem_map.2 ⟨p, hp, rfl⟩)
    · intro h1 p hp
      obtain ⟨q, hq, rfl⟩ := List.mem_map.1 hp
      exact h1 q hq
theorem dp_le (n : Nat) : ∀ (x : S24g S36), szV x ≤ n → ∀ B, (∀ p ∈ ndV x, p.2 ≤ B) ↔ dpV x ≤ B := by
  induction n with
  | zero => intro x h; rw [szV_eq] at h; omega
  | succ n ih =>
    intro x h B
    rw [szV_eq] at h
    rw [ndV_eq, dpV_eq]
    simp only [List.mem_cons, forall_eq_or_imp]
    rw [ndFs_all x.f3 (fun z => z ≤ B)]
    rw [show (dpFs 0 x.f3 + 1 ≤ B) ↔ dpFs 0 x.f3 ≤ B - 1 by omega, dpFs_le]
    have e : (∀ f ∈ x.f3, ∀ p ∈ ndF f, p.2 + 1 ≤ B) ↔ ∀ f ∈ x.f3, dpF f ≤ B - 1 := by
      refine forall_congr' fun f => forall_congr' fun hf => ?_
      have h1 := szFs_mem hf
      rw [szF_eq] at h1
      rw [ndF_eq, dpF_eq, ← ih f.f1 (by omega)]
      exact forall_congr' fun p => forall_congr' fun _ => by omega
    rw [e]
    exact and_congr (by omega) Iff.rfl
theorem dp_sz (n : Nat) : ∀ (x : S24g S36), szV x ≤ n → 1 ≤ dpV x ∧ dpV x ≤ (szV x : Nat) := by
  induction n with
  | zero => intro x h; rw [szV_eq] at h; omega
  | succ n ih =>
    intro x h
    rw [szV_eq] at h
    constructor
    · have := (dp_le _ x (Nat.le_refl _) (dpV x)).2 (Int.le_refl _) (x, 1) (by rw [ndV_eq]; exact List.mem_cons_self ..)
      exact this
    · rw [dpV_eq, szV_eq]
      have : dpFs 0 x.f3 ≤ ((szFs x.f3 : Nat) : Int) := (dpFs_le _ _ _).2 ⟨Int.natCast_nonneg _, fun f hf => by
        have h1 := szFs_mem hf
        rw [szF_eq] at h1
        have := (ih f.f1 (by omega)).2
        rw [dpF_eq]; omega⟩
      omega
theorem ndFs_len (l : List S36) (h : ∀ f ∈ l, (ndF f).length = szF f) : (ndFs l).length = szFs l := by
  induction l with
  | nil => rfl
  | cons a t ih =>
    have e : ndFs (a :: t) = (ndF a).map (fun p => (p.1, p.2 + 1)) ++ ndFs t := rfl
    rw [e, List.length_append, List.length_map, h a (List.mem_cons_self ..), ih (fun f hf => h f (List.mem_cons_of_mem _ hf))]
    rfl
theorem nd_len (n : Nat) : ∀ (x : S24g S36), szV x ≤ n → (ndV x).length = szV x := by
  induction n with
  | zero => intro x h; rw [szV_eq] at h; omega
  | succ n ih =>
    intro x h
    rw [szV_eq] at h
    rw [ndV_eq, szV_eq, List.length_cons, ndFs_len _ (fun f hf => by
      have h1 := szFs_mem hf
      rw [szF_eq] at h1
      rw [ndF_eq, szF_eq]; exact ih f.f1 (by omega))]
    omega
theorem deep_loop (l : List S36) (hll : l.length ≤ 1000000000) (IH : ∀ f ∈ l, Ev (fun k => value_Deep.f k f.f1.f0 f.f1.f1 f.f1.f2 f.f1.f3) (dpF f)) (hb : dpFs 0 l ≤ 1000000000) : ∀ (d j : Nat) (m : Int), l.length - j ≤ d → j ≤ l.length → 0 ≤ m → dpFs m (l.drop j) = dpFs 0 l →
    Ev (fun k => value_Deep.l0 k m l (l.length : Int) (j : Int)) (dpFs 0 l + 1) := by
  intro d
  induction d with
  | zero =>
    intro j m hd hj h0 he
    obtain rfl : j = l.length := by omega
    apply Ev.succ
    simp only [value_Deep.l0, if_neg (show ¬ (l.length : Int) < (l.length : Int) by omega)]
    rw [List.drop_length] at he
    have he : m = dpFs 0 l := he
    rw [← he] at hb ⊢
    rw [wsmall _ (by omega) (by omega)]
    exact Ev.now _
  | succ d ih =>
    intro j m hd hj h0 he
    by_cases hlt : j < l.length
    · have hst := dpFs_step m l j hlt
      have H := IH _ (List.getElem_mem hlt)
      have hrd := rd_getV l j hlt
      rw [hst] at he
      generalize l[j] = f at *
      have h4 : 0 ≤ mx m (dpF f) := by unfold mx; split <;> omega
      have R := ih (j + 1) (mx m (dpF f)) (by omega) hlt h4 he
      have c1 : (j : Int) < (l.length : Int) := Int.ofNat_lt.2 hlt
      have c2 : (0 : Int) ≤ (j : Int) := Int.natCast_nonneg j
      have w2 : wrap64 ((j : Int) + 1) = ((j + 1 : Nat) : Int) := by rw [wsmall _ (by omega) (by omega)]; omega
      apply Ev.succ
      simp only [value_Deep.l0, if_pos c1, if_pos c2, hrd]
      refine Ev.bind H ?_
      simp only [w2]
      exact R
    · obtain rfl : j = l.length := by omega
      apply Ev.succ
      simp only [value_Deep.l0, if_neg (show ¬ (l.length : Int) < (l.length : Int) by omega)]
      rw [List.drop_length] at he
      have he : m = dpFs 0 l := he
      rw [← he] at hb ⊢
      rw [wsmall _ (by omega) (by omega)]
      exact Ev.now _
theorem deep_ev (n : Nat) : ∀ x : S24g S36, szV x ≤ n → szV x ≤ 1000000000 → Ev (fun k => value_Deep.f k x.f0 x.f1 x.f2 x.f3) (dpV x) := by
  induction n with
  | zero => intro x h; rw [szV_eq] at h; omega
  | succ n ih =>
    intro x h hb
    have hd := (dp_sz _ x (Nat.le_refl _)).2
    rw [szV_eq] at h hb hd
    rw [dpV_eq] at hd ⊢
    apply Ev.succ
    have := szFs_lenV x.f3
    exact deep_loop x.f3 (by omega) (fun f hf => by
      have h1 := szFs_mem hf
      rw [szF_eq] at h1
      rw [dpF_eq]
      exact ih f.f1 (by omega) (by omega)) (by omega) x.f3.length 0 0 (by omega) (by omega) (by omega) (by rw [List.drop_zero])
theorem walk_l1 (a : List (S24g S36)) (fs : List S36) (n j : Int) (lv : List Int) (hlv : ∀ x ∈ lv, 0 ≤ x ∧ x ≤ 1000000000) (hl : lv.length ≤ 1000000000) (r : List (S24g S36) × List Int) : ∀ (d i : Nat) (b : List Int), lv.length - i ≤ d → i ≤ lv.length → b.length + (lv.length - i) ≤ 2000000001 →
    Ev (fun k => clapref1_Walk.l0 k a (b ++ (lv.drop i).map (fun y => y + 1)) fs n (wrap64 (j + 1))) r → Ev (fun k => clapref1_Walk.l1 k a b fs n j lv (lv.length : Int) (i : Int)) r := by
  intro d
  induction d with
  | zero =>
    intro i b hd hi hb H
    obtain rfl : i = lv.length := by omega
    apply Ev.succ
    simp only [clapref1_Walk.l1, if_neg (show ¬ (lv.length : Int) < (lv.length : Int) by omega)]
    rw [List.drop_length, List.map_nil, List.append_nil] at H
    exact H
  | succ d ih =>
    intro i b hd hi hb H
    by_cases hlt : i < lv.length
    · have hx := hlv _ (List.getElem_mem hlt)
      have hrd : rd lv (i : Int) = lv[i] := by simp [rd, List.getD_eq_getElem?_getD, List.getElem?_eq_getElem hlt]
      have c1 : (i : Int) < (lv.length : Int) := Int.ofNat_lt.2 hlt
      have c2 : (0 : Int) ≤ (i : Int) := Int.natCast_nonneg i
      have w1 : wrap64 (lv[i] + 1) = lv[i] + 1 := wsmall _ (by omega) (by omega)
      have w2 : wrap64 ((i : Int) + 1) = ((i + 1 : Nat) : Int) := by rw [wsmall _ (by omega) (by omega)]; omega
      have R := ih (i + 1) (b ++ [lv[i] + 1]) (by omega) hlt (by rw [List.length_append, List.length_singleton]; omega) (by
        rw [List.drop_eq_getElem_cons hlt, List.map_cons] at H
        rw [List.append_assoc]; exact H)
      apply Ev.succ
      simp only [clapref1_Walk.l1, if_pos c1, if_pos c2, hrd, w1, w2, if_pos (show b.length < 17592186044416 by omega)]
      exact R
    · obtain rfl : i = lv.length := by omega
      apply Ev.succ
      simp only [clapref1_Walk.l1, if_neg (show ¬ (lv.length : Int) < (lv.length : Int) by omega)]
      rw [List.drop_length, List.map_nil, List.append_nil] at H
      exact H
theorem nd_lv (x : S24g S36) (h : szV x ≤ 1000000000) : ∀ y ∈ (ndV x).map (·.2), 0 ≤ y ∧ y ≤ 1000000000 := by
  have hd := (dp_sz _ x (Nat.le_refl _)).2
  have h2 := (dp_le _ x (Nat.le_refl _) (dpV x)).2 (Int.le_refl _)
  have h3 : ∀ (n : Nat) (x : S24g S36), szV x ≤ n → ∀ p ∈ ndV x, 0 ≤ p.2 := by
    intro n
    induction n with
    | zero => intro x h; rw [szV_eq] at h; omega
    | succ n ih =>
      intro x h
      rw [szV_eq] at h
      rw [ndV_eq]
      simp only [List.mem_cons, forall_eq_or_imp]
      refine ⟨by decide, (ndFs_all x.f3 (fun z => 0 ≤ z)).2 fun f hf p hp => ?_⟩
      have h1 := szFs_mem hf
      rw [szF_eq] at h1
      rw [ndF_eq] at hp
      have := ih f.f1 (by omega) p hp
      omega
  intro y hy
  obtain ⟨p, hp, rfl⟩ := List.mem_map.1 hy
  have q1 := h2 p hp
  have q2 := h3 _ x (Nat.le_refl _) p hp
  omega
theorem walk_l0 (l : List S36) (hll : l.length ≤ 1000000000) (hsz : szFs l ≤ 1000000000) (IH : ∀ f ∈ l, Ev (fun k => clapref1_Walk.f k f.f1.f0 f.f1.f1 f.f1.f2 f.f1.f3) ((ndF f).map (·.1), (ndF f).map (·.2))) : ∀ (d j : Nat) (a : List (S24g S36)) (b : List Int), l.length - j ≤ d → j ≤ l.length → a.length = b.length → a.length + szFs (l.drop j) ≤ 1000000001 →
    Ev (fun k => clapref1_Walk.l0 k a b l (l.length : Int) (j : Int)) (a ++ (ndFs (l.drop j)).map (·.1), b ++ (ndFs (l.drop j)).map (·.2)) := by
  intro d
  induction d with
  | zero =>
    intro j a b hd hj hab hs
    obtain rfl : j = l.length := by omega
    apply Ev.succ
    simp only [clapref1_Walk.l0, if_neg (show ¬ (l.length : Int) < (l.length : Int) by omega)]
    rw [List.drop_length]
    simp only [ndFs, List.map_nil, List.append_nil]
    exact Ev.now _
  | succ d ih =>
    intro j a b hd hj hab hs
    by_cases hlt : j < l.length
    · have hst := ndFs_step l j hlt
      have hsz1 := szFs_step l j hlt
      have hm := List.getElem_mem hlt
      have H := IH _ hm
      have hrd := rd_getV l j hlt
      have hf := szFs_mem hm
      rw [hst]
      rw [hsz1] at hs
      clear hst hsz1 hm IH
      generalize l[j] = f at *
      rw [szF_eq] at hs hf
      rw [ndF_eq] at H ⊢
      have hlen := nd_len _ f.f1 (Nat.le_refl _)
      have hlv := nd_lv f.f1 (Nat.le_trans hf hsz)
      have hF : szV f.f1 ≤ 1000000000 := Nat.le_trans hf hsz
      generalize szV f.f1 = z at *
      generalize ndV f.f1 = nd at *
      have hs' : a.length + z + szFs (l.drop (j + 1)) ≤ 1000000001 := by rw [Nat.add_assoc]; exact hs
      have ha : a.length ≤ 1000000001 := Nat.le_trans (Nat.le_add_right _ _) hs
      clear hs
      have c1 : (j : Int) < (l.length : Int) := Int.ofNat_lt.2 hlt
      have c2 : (0 : Int) ≤ (j : Int) := Int.natCast_nonneg j
      have w2 : wrap64 ((j : Int) + 1) = ((j + 1 : Nat) : Int) := by rw [wsmall _ (by omega) (by omega)]; omega
      apply Ev.succ
      simp only [clapref1_Walk.l0, if_pos c1, if_pos c2, hrd]
      refine Ev.bind H ?_
      have hlen1 : (nd.map (·.1)).length = z := by rw [List.length_map, hlen]
      have hlen2 : (nd.map (·.2)).length = z := by rw [List.length_map, hlen]
      have c3 : a.length + (nd.map (·.1)).length < 2513169434916 := by rw [hlen1]; clear hs'; omega
      have hbl : b.length + z ≤ 2000000001 := by rw [← hab]; clear hs'; omega
      have hjd : l.length - (j + 1) ≤ d := by clear hs' c3 hbl; omega
      simp only [if_pos c3]
      refine walk_l1 _ _ _ _ _ hlv (by rw [hlen2]; exact hF) _ z 0 b (by rw [hlen2]; exact Nat.le_refl _) (Nat.zero_le _) (by rw [hlen2]; exact hbl) ?_
      rw [List.drop_zero, w2]
      have R := ih (j + 1) (a ++ nd.map (·.1)) (b ++ (nd.map (·.2)).map (fun y => y + 1)) hjd hlt (by rw [List.length_append, List.length_append, hlen1, List.length_map, hlen2, hab]) (by rw [List.length_append, hlen1]; exact hs')
      have e1 : List.map (·.1) (nd.map (fun p : S24g S36 × Int => (p.1, p.2 + 1))) = nd.map (·.1) := by rw [List.map_map]; rfl
      have e2 : List.map (·.2) (nd.map (fun p : S24g S36 × Int => (p.1, p.2 + 1))) = (nd.map (·.2)).map (fun y => y + 1) := by rw [List.map_map, List.map_map]; rfl
      rw [List.map_append, List.map_append, e1, e2, ← List.append_assoc, ← List.append_assoc]
      exact R
    · obtain rfl : j = l.length := by omega
      apply Ev.succ
      simp only [clapref1_Walk.l0, if_neg (show ¬ (l.length : Int) < (l.length : Int) by omega)]
      rw [List.drop_length]
      simp only [ndFs, List.map_nil, List.append_nil]
      exact Ev.now _
theorem walk_ev (n : Nat) : ∀ x : S24g S36, szV x ≤ n → szV x ≤ 1000000000 → Ev (fun k => clapref1_Walk.f k x.f0 x.f1 x.f2 x.f3) ((ndV x).map (·.1), (ndV x).map (·.2)) := by
  induction n with
  | zero => intro x h; rw [szV_eq] at h; omega
  | succ n ih =>
    intro x h hb
    rw [szV_eq] at h hb
    rw [ndV_eq]
    apply Ev.succ
    have := szFs_lenV x.f3
    have L := walk_l0 x.f3 (by omega) (by omega) (fun f hf => by
      have h1 := szFs_mem hf
      rw [szF_eq] at h1
      rw [ndF_eq]
      exact ih f.f1 (by omega) (by omega)) x.f3.length 0 [x] [1] (by omega) (by omega) rfl (by rw [List.drop_zero]; show 1 + szFs x.f3 ≤ _; omega)
    rw [List.drop_zero] at L
    have e : (⟨x.f0, x.f1, x.f2, x.f3⟩ : S24g S36) = x := by cases x; rfl
    simp only [clapref1_Walk.f]
    rw [e]
    exact L
end Go.Proofs.Yticdlpkjjokbcaa.PVal
