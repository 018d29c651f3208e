/- The plain law of IntsPlaces. No statement is proved here. -/
import Derived.Test.YtnbdmmepdmmbmaaPIntsx5
import Derived.Test.YtnbdmmepdmmbmaaIntsPure
namespace Go.Proofs.Ytnbdmmepdmmbmaa.PInts
open Go.RowKit Go.Proofs.YtnbdmmepdmmbmaaW.PrintWords Go.Proofs.YtnbdmmepdmmbmaaW.PrintLast Go.Proofs.YtnbdmmepdmmbmaaW.PrintMore Go.Proofs.Ytnbdmmepdmmbmaa Go.Proofs.Ytnbdmmepdmmbmaa.Plug
set_option linter.unusedVariables false
set_option linter.unusedSimpArgs false
def atO : Int → List S44 → Option Int
  | _, [] => none
  | k, r :: t => if 0 ≤ k ∧ k < many r then some (r.f0 + k) else atO (k - many r) t
def lessG (n : Int) : List S44 → Int
  | [] => 0
  | r :: t => (if n > r.f0 then mn (many r) (n - r.f0) else 0) + lessG n t
theorem atO_cons (k : Int) (r : S44) (t : List S44) : atO k (r :: t) = if 0 ≤ k ∧ k < many r then some (r.f0 + k) else atO (k - many r) t := rfl
theorem atG_cons (k : Int) (r : S44) (t : List S44) : atG k (r :: t) = if k < many r then (r.f0 + k, 0) else atG (k - many r) t := rfl
theorem plG_cons (acc n : Int) (r : S44) (t : List S44) : plG acc n (r :: t) = if n < r.f0 then (0, 4) else if n ≤ r.f1 then (acc + n - r.f0, 0) else plG (acc + many r) n t := rfl
theorem lessG_cons (n : Int) (r : S44) (t : List S44) : lessG n (r :: t) = (if n > r.f0 then mn (many r) (n - r.f0) else 0) + lessG n t := rfl
theorem at_same : ∀ (l : List S44) (k : Int), 0 ≤ k → atG k l = match atO k l with | some v => (v, 0) | none => (0, 4)
  | [], k, _ => rfl
  | r :: t, k, h => by
    rw [atG_cons, atO_cons]
    by_cases c : k < many r
    · rw [if_pos c, if_pos ⟨h, c⟩]
    · rw [if_neg c, if_neg (fun q => c q.2)]
      exact at_same t _ (by omega)
theorem any_none (n : Int) : ∀ (l : List S44) (last : Int), errG last l = 0 → n ≤ last + 1 → l.any (inR n) = false ∧ lessG n l = 0
  | [], _, _, _ => ⟨rfl, rfl⟩
  | r :: t, last, h, hn => by
    obtain ⟨o, h1, h2⟩ := ok_cons h
    have o3 := o.2.2
    obtain ⟨a, b⟩ := any_none n t r.f1 h2 (by omega)
    refine ⟨?_, ?_⟩
    · rw [List.any_cons, a, Bool.or_false]; unfold inR; rw [decide_eq_false (by omega), Bool.false_and]
    · rw [lessG_cons, if_neg (by omega), b]; rfl
theorem mn_l {a b : Int} (h : a ≤ b) : mn a b = a := by unfold mn; split <;> omega
theorem mn_r {a b : Int} (h : b ≤ a) : mn a b = b := by unfold mn; split <;> omega
theorem place_same (n : Int) : ∀ (l : List S44) (acc last : Int), errG last l = 0 → plG acc n l = if l.any (inR n) = true then (acc + lessG n l, 0) else (0, 4)
  | [], acc, _, _ => rfl
  | r :: t, acc, last, h => by
    obtain ⟨o, h1, h2⟩ := ok_cons h
    have o3 := o.2.2
    rw [plG_cons, List.any_cons, lessG_cons]
    by_cases a : n < r.f0
    · have e : inR n r = false := by unfold inR; rw [decide_eq_false (by omega), Bool.false_and]
      rw [if_pos a, e, (any_none n t r.f1 h2 (by omega)).1]; rfl
    · rw [if_neg a]
      by_cases b : n ≤ r.f1
      · have e : inR n r = true := by unfold inR; rw [decide_eq_true (by omega), decide_eq_true b]; rfl
        rw [if_pos b, e, (any_none n t r.f1 h2 (by omega)).2]
        simp only [Bool.true_or, if_true]
        congr 1
        by_cases c : n > r.f0
        · rw [if_pos c, mn_r (by unfold many; omega)]; omega
        · rw [if_neg c]; omega
      · have e : inR n r = false := by unfold inR; rw [decide_eq_false b, Bool.and_false]
        rw [if_neg b, e, Bool.false_or, place_same n t _ r.f1 h2, if_pos (show n > r.f0 by omega), mn_l (by unfold many; omega)]
        by_cases q : t.any (inR n) = true
        · rw [if_pos q, if_pos q]; congr 1; omega
        · rw [if_neg q, if_neg q]
theorem in_small (n : Int) : ∀ (l : List S44) (last : Int), errG last l = 0 → l.any (inR n) = true → n ≤ 9007199254740992
  | [], _, _, h => by simp at h
  | r :: t, last, h, hq => by
    obtain ⟨o, h1, h2⟩ := ok_cons h
    have o2 := o.2.1
    rw [List.any_cons] at hq
    cases e : inR n r
    · rw [e, Bool.false_or] at hq; exact in_small n t _ h2 hq
    · unfold inR at e; simp at e; omega
def pickA (o : Option Int) (at_ : Int) : Int := match o with | some v => v | none => at_
def pickI (o : Option Int) (is_ : Bool) : Bool := match o with | some _ => true | none => is_
set_option maxHeartbeats 1000000 in
theorem l1_ev (l : List S44) (hl : l.length ≤ 500) (n kk x12 x13 x14 x15 x10 : Int) (hk : kk ≤ 9223372036854775807) : ∀ (d i : Nat) (sum less at_ last : Int) (is_ : Bool), l.length - i ≤ d → i ≤ l.length → errG last (l.drop i) = 0 → -9007199254740994 ≤ last → last ≤ 9007199254740992 →
    0 ≤ sum → sum + cntG (l.drop i) ≤ 100000000000000000 → x10 = sum + cntG (l.drop i) → (n ≤ 9007199254740992 → 0 ≤ less ∧ less + cntG (l.drop i) ≤ 100000000000000000) →
    ∃ L, (n ≤ 9007199254740992 → L = less + lessG n (l.drop i)) ∧ ∀ res : Bool, Ev (fun k => claplaw1_IntsPlaces.j4 k l n kk x12 x13 x14 x15 L (pickA (atO (kk - sum) (l.drop i)) at_) (pickI (atO (kk - sum) (l.drop i)) is_) false) res →
      Ev (fun k => claplaw1_IntsPlaces.l1 k l n kk x10 0 x12 x13 x14 x15 sum less at_ is_ l (l.length : Int) i) res := by
  intro d
  induction d with
  | zero =>
    intro i sum less at_ last is_ h1 h2 h3 h4 h5 h6 h7 h8 h9
    obtain rfl : i = l.length := by omega
    rw [List.drop_length] at h8 ⊢
    refine ⟨less, fun _ => by simp only [lessG]; omega, fun res hr => ?_⟩
    apply Ev.succ
    simp only [cntG, Int.add_zero] at h8
    simp only [claplaw1_IntsPlaces.l1, if_neg (show ¬ (l.length : Int) < l.length by omega), if_pos h8, bne_self_eq_false]
    exact hr
  | succ d ih =>
    intro i sum less at_ last is_ h1 h2 h3 h4 h5 h6 h7 h8 h9
    by_cases q : i < l.length
    · rw [List.drop_eq_getElem_cons q] at h3 h7 h8 h9 ⊢
      generalize hr : l[i] = r at h3 h7 h8 h9 ⊢
      obtain ⟨o, e1, e2⟩ := ok_cons h3
      have hb := cnt_bd _ _ e2 o.2.1.2
      have ho1 := o.1; have ho2 := o.2.1; have ho3 := o.2.2
      have hc : cntG (r :: l.drop (i + 1)) = many r + cntG (l.drop (i + 1)) := rfl
      rw [hc] at h7 h8 h9
      have hmr : many r = r.f1 - r.f0 + 1 := rfl
      have W1 := Lib.hid (wrap_eq (show -9223372036854775808 ≤ (i : Int) + 1 by omega) (by omega))
      have W2 := Lib.hid (wrap_eq (show -9223372036854775808 ≤ r.f1 - r.f0 by omega) (by omega))
      have W3 := Lib.hid (wrap_eq (show -9223372036854775808 ≤ r.f1 - r.f0 + 1 by omega) (by omega))
      have W4 := Lib.hid (wrap_eq (show -9223372036854775808 ≤ sum + (r.f1 - r.f0 + 1) by omega) (by omega))
      -- the new count of lesser numbers
      obtain ⟨less', hless, hl9⟩ : ∃ less', (if n > r.f0 then wrap64 (less + mn (r.f1 - r.f0 + 1) (wrap64 (n - r.f0))) else less) = less' ∧ (n ≤ 9007199254740992 → less' = less + (if n > r.f0 then mn (many r) (n - r.f0) else 0)) := by
        refine ⟨_, rfl, fun hn => ?_⟩
        by_cases c : n > r.f0
        · rw [if_pos c, if_pos c, wrap_eq (show -9223372036854775808 ≤ n - r.f0 by omega) (by omega), ← hmr]
          have h9' := h9 hn
          have hm1 : mn (many r) (n - r.f0) ≤ many r := by unfold mn; split <;> omega
          have hm0 : 0 ≤ mn (many r) (n - r.f0) := by unfold mn; split <;> omega
          rw [wrap_eq (by omega) (by omega)]
        · rw [if_neg c, if_neg c]; omega
      have hbnd : n ≤ 9007199254740992 → 0 ≤ less' ∧ less' + cntG (l.drop (i + 1)) ≤ 100000000000000000 := fun hn => by
        have h9' := h9 hn
        rw [hl9 hn]
        by_cases c : n > r.f0
        · rw [if_pos c]
          have hm1 : mn (many r) (n - r.f0) ≤ many r := by unfold mn; split <;> omega
          have hm0 : 0 ≤ mn (many r) (n - r.f0) := by unfold mn; split <;> omega
          omega
        · rw [if_neg c]; omega
      have HLESS := Lib.hid hless
      have HL9 := Lib.hid hl9
      clear hless hl9
      have hrd : rd_T44 l (i : Int) = r := by rw [rd_of l i q, hr]
      rw [atO_cons, lessG_cons]
      by_cases c : 0 ≤ kk - sum ∧ kk - sum < many r
      · obtain ⟨L, hL, hEv⟩ := ih (i + 1) (sum + many r) less' (r.f0 + (kk - sum)) r.f1 true (by omega) (by omega) e2 (by omega) (by omega) (by omega) (by omega) (by omega) hbnd
        refine ⟨L, fun hn => by rw [hL hn, HL9.out hn]; omega, fun res hres => ?_⟩
        have hnone : atO (kk - (sum + many r)) (l.drop (i + 1)) = none := by
          have : ∀ (t : List S44) (x last : Int), errG last t = 0 → x < 0 → atO x t = none := by
            intro t
            induction t with
            | nil => intro x _ _ _; rfl
            | cons s u ihu =>
              intro x last he hx
              obtain ⟨os, s1, s2⟩ := ok_cons he
              have := os.2.2
              rw [atO_cons, if_neg (by omega)]
              exact ihu _ s.f1 s2 (by unfold many; omega)
          exact this _ _ _ e2 (by omega)
        rw [if_pos c] at hres
        have hE := hEv res (by rw [hnone]; exact hres)
        apply Ev.succ
        simp only [claplaw1_IntsPlaces.l1, if_pos (show (i : Int) < l.length by omega), if_pos (show (0 : Int) ≤ i by omega), hrd, if_pos (show kk ≥ sum by omega)]
        rw [W2.out, W3.out, wrap_eq (show -9223372036854775808 ≤ kk - sum by omega) (by omega), decide_eq_true (show kk - sum < r.f1 - r.f0 + 1 from c.2)]
        apply Ev.succ
        simp only [claplaw1_IntsPlaces.j3, if_true]
        rw [W4.out, W1.out, wrap_eq (show -9223372036854775808 ≤ r.f0 + kk by omega) (by omega), wrap_eq (show -9223372036854775808 ≤ r.f0 + kk - sum by omega) (by omega), show r.f0 + kk - sum = r.f0 + (kk - sum) by omega]
        by_cases cn : n > r.f0
        · have hless := HLESS.out; simp only [if_pos cn] at hless ⊢; rw [hless]; exact_mod_cast hE
        · have hless := HLESS.out; simp only [if_neg cn] at hless ⊢; rw [hless]; exact_mod_cast hE
      · obtain ⟨L, hL, hEv⟩ := ih (i + 1) (sum + many r) less' at_ r.f1 is_ (by omega) (by omega) e2 (by omega) (by omega) (by omega) (by omega) (by omega) hbnd
        refine ⟨L, fun hn => by rw [hL hn, HL9.out hn]; omega, fun res hres => ?_⟩
        rw [if_neg c, show kk - sum - many r = kk - (sum + many r) by omega] at hres
        have hE := hEv res hres
        have fin : Ev (fun k => claplaw1_IntsPlaces.j3 k l n kk x10 0 x12 x13 x14 x15 sum less at_ is_ (r.f1 - r.f0 + 1) l (l.length : Int) (i : Int) false r.f0 r.f1) res := by
          apply Ev.succ
          simp only [claplaw1_IntsPlaces.j3, Bool.false_eq_true, if_false]
          rw [W4.out, W1.out]
          by_cases cn : n > r.f0
          · have hless := HLESS.out; simp only [if_pos cn] at hless ⊢; rw [hless]; exact_mod_cast hE
          · have hless := HLESS.out; simp only [if_neg cn] at hless ⊢; rw [hless]; exact_mod_cast hE
        apply Ev.succ
        simp only [claplaw1_IntsPlaces.l1, if_pos (show (i : Int) < l.length by omega), if_pos (show (0 : Int) ≤ i by omega), hrd]
        rw [W2.out, W3.out]
        by_cases cs : kk ≥ sum
        · simp only [if_pos cs]
          rw [wrap_eq (show -9223372036854775808 ≤ kk - sum by omega) (by omega), decide_eq_false (show ¬ kk - sum < r.f1 - r.f0 + 1 from fun q => c ⟨by omega, q⟩)]
          exact fin
        · simp only [if_neg cs]; exact fin
    · obtain rfl : i = l.length := by omega
      rw [List.drop_length] at h8 ⊢
      refine ⟨less, fun _ => by simp only [lessG]; omega, fun res hr => ?_⟩
      apply Ev.succ
      simp only [cntG, Int.add_zero] at h8
      simp only [claplaw1_IntsPlaces.l1, if_neg (show ¬ (l.length : Int) < l.length by omega), if_pos h8, bne_self_eq_false]
      exact hr
theorem j4_ev (l : List S44) (hl : l.length ≤ 500) (he : errG (-9007199254740994) l = 0) (n kk L : Int) (hL : n ≤ 9007199254740992 → L = lessG n l) :
    Ev (fun k => claplaw1_IntsPlaces.j4 k l n kk (if kk < 0 then (0, 1) else atG kk l).1 (if kk < 0 then (0, 1) else atG kk l).2 (plG 0 n l).1 (plG 0 n l).2 L (pickA (atO kk l) 0) (pickI (atO kk l) false) false) true := by
  have hmem := member_f l (by omega) n
  have hpl := place_same n l 0 _ he
  have hm2 : l.any (inR n) = true → (plG 0 n l).1 = L ∧ (plG 0 n l).2 = 0 := fun h => by
    rw [hpl, if_pos h, hL (in_small n l _ he h)]; exact ⟨by show 0 + _ = _; omega, rfl⟩
  have hm3 : l.any (inR n) = false → (plG 0 n l).1 = 0 ∧ (plG 0 n l).2 = 4 := fun h => by
    rw [hpl, h]; exact ⟨rfl, rfl⟩
  apply Ev.succ
  simp only [claplaw1_IntsPlaces.j4, Bool.false_eq_true, if_false]
  by_cases hk : kk < 0
  · simp only [if_pos hk, if_true]
    refine Ev.bind hmem ?_
    cases hq : l.any (inR n)
    · simp only [Bool.false_eq_true, if_false, if_true, if_pos (hm3 hq).1, (hm3 hq).2]; exact Ev.now _
    · simp only [if_true, if_pos (hm2 hq).1, (hm2 hq).2]; exact Ev.now _
  · simp only [if_neg hk, at_same l kk (by omega)]
    cases ho : atO kk l with
    | some v =>
      simp only [pickA, pickI, if_true]
      refine Ev.bind hmem ?_
      cases hq : l.any (inR n)
      · simp only [Bool.false_eq_true, if_false, if_true, if_pos (hm3 hq).1, (hm3 hq).2]; exact Ev.now _
      · simp only [if_true, if_pos (hm2 hq).1, (hm2 hq).2]; exact Ev.now _
    | none =>
      simp only [pickA, pickI, if_true, Bool.false_eq_true, if_false]
      refine Ev.bind hmem ?_
      cases hq : l.any (inR n)
      · simp only [Bool.false_eq_true, if_false, if_true, if_pos (hm3 hq).1, (hm3 hq).2]; exact Ev.now _
      · simp only [if_true, if_pos (hm2 hq).1, (hm2 hq).2]; exact Ev.now _
theorem l0_ev (l m : List S44) (hl : l.length ≤ 9223372036854775807) (n kk x9 x10 x11 x12 x13 x14 x15 : Int) (hj : Ev (fun k => claplaw1_IntsPlaces.j1 k l n kk x9 x10 x11 x12 x13 x14 x15 false) true) : ∀ (d i : Nat) (s : Bool), l.length - i ≤ d → i ≤ l.length →
    (s = true → l.length = m.length) → (s && allE (l.drop i) (m.drop i)) = sameG l m →
    Ev (fun k => claplaw1_IntsPlaces.l0 k l m n kk x9 x10 x11 x12 x13 x14 x15 s (l.length : Int) i) true := by
  have fin : ∀ i, i = l.length → Ev (fun k => claplaw1_IntsPlaces.l0 k l m n kk x9 x10 x11 x12 x13 x14 x15 (sameG l m) (l.length : Int) (i : Nat)) true := by
    rintro i rfl
    apply Ev.succ
    simp only [claplaw1_IntsPlaces.l0, if_neg (show ¬ (l.length : Int) < l.length by omega), claplaw1_ranged.f, Option.bind_some, if_true, ints_Has.f, if_pos hl]
    refine Ev.bind (member_f l hl n) ?_
    have e : (l.any (inP n) != l.any (inR n)) = false := by rw [show inP n = inR n from rfl]; simp
    simp only [e, Bool.false_eq_true, if_false]
    refine Ev.bind (same_f l m hl) ?_
    simp only [bne_self_eq_false]
    exact hj
  intro d
  induction d with
  | zero =>
    intro i s h1 h2 h3 h4
    obtain rfl : i = l.length := by omega
    have e : s = sameG l m := by
      rw [List.drop_length] at h4
      simpa [allE] using h4
    rw [e]; exact fin _ rfl
  | succ d ih =>
    intro i s h1 h2 h3 h4
    by_cases q : i < l.length
    · apply Ev.succ
      have w1 := wrap_eq (show -9223372036854775808 ≤ (i : Int) + 1 by omega) (by omega)
      cases s with
      | false =>
        simp only [claplaw1_IntsPlaces.l0, if_pos (show (i : Int) < l.length by omega), Bool.false_eq_true, if_false]
        rw [w1]
        exact_mod_cast ih (i + 1) false (by omega) (by omega) (fun h => by cases h) (by rw [Bool.false_and] at h4 ⊢; exact h4)
      | true =>
        have hlm := h3 rfl
        simp only [claplaw1_IntsPlaces.l0, if_pos (show (i : Int) < l.length by omega), if_true, if_pos (show (0 : Int) ≤ i by omega), if_pos (show (i : Int) < (m.length : Int) by omega), rd_of l i q, rd_of m i (by omega)]
        rw [w1]
        rw [List.drop_eq_getElem_cons q, List.drop_eq_getElem_cons (show i < m.length by omega)] at h4
        simp only [allE, Bool.true_and] at h4
        exact_mod_cast ih (i + 1) (eqR l[i] (m[i]'(by omega))) (by omega) (by omega) (fun _ => hlm) h4
    · obtain rfl : i = l.length := by omega
      have e : s = sameG l m := by
        rw [List.drop_length] at h4
        simpa [allE] using h4
      rw [e]; exact fin _ rfl
theorem IntsPlaces (l m : List S44) (n kk : Int) (hl : l.length ≤ 9223372036854775807) (hk : kk ≤ 9223372036854775807) : ∃ k, claplaw1_IntsPlaces.f k l m n kk = some true := by
  refine Ev.rounds (g := fun k => claplaw1_IntsPlaces.f k l m n kk) ?_
  simp only [claplaw1_IntsPlaces.f]
  refine Ev.bind (setErr_f l) (Ev.bind (count_f l) (Ev.bind (at_f l kk hk) (Ev.bind (place_f l n) ?_)))
  have hs : ((l.length : Int) == (m.length : Int)) = decide (l.length = m.length) := by
    by_cases h : l.length = m.length
    · rw [decide_eq_true h, h]; simp
    · rw [decide_eq_false h, beq_eq_false_iff_ne]; omega
  rw [hs]
  refine l0_ev l m hl n kk _ _ _ _ _ _ _ ?_ l.length 0 _ (by omega) (by omega) (fun h => of_decide_eq_true h) (by simp [sameG])
  apply Ev.succ
  by_cases he : errF l = 0
  · obtain ⟨hl5, he5⟩ := errF_zero he
    simp only [claplaw1_IntsPlaces.j1, Bool.false_eq_true, if_false, if_pos he]
    have hb := cnt_bd l _ he5 (by omega)
    obtain ⟨L, hL, hEv⟩ := l1_ev l hl5 n kk (if kk < 0 then (0, 1) else atG kk l).1 (if kk < 0 then (0, 1) else atG kk l).2 (plG 0 n l).1 (plG 0 n l).2 (cntG l) hk l.length 0 0 0 0 (-9007199254740994) false (by omega) (by omega) he5 (by omega) (by omega) (by omega) (by simp only [List.drop_zero]; omega) (by simp) (fun _ => ⟨by omega, by simp only [List.drop_zero]; omega⟩)
    refine hEv true ?_
    rw [List.drop_zero, Int.sub_zero]
    exact j4_ev l hl5 he5 n kk L (fun h => by have := hL h; simpa using this)
  · simp only [claplaw1_IntsPlaces.j1, Bool.false_eq_true, if_false, if_neg he, if_true, beq_self_eq_true]
    exact Ev.now _
end Go.Proofs.Ytnbdmmepdmmbmaa.PInts
