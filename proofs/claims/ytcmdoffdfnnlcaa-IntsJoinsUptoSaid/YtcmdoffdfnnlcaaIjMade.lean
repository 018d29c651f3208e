/- What made computes: the set of the numbers for which a condition holds that changes at edges alone. No statement is proved here. -/
import Derived.Test.YtcmdoffdfnnlcaaIjSet
import Derived.Test.YtcmdoffdfnnlcaaPIjx5
namespace Go.Proofs.Ytcmdoffdfnnlcaa.PIj
open Go.RowKit Go.Proofs.Ytcmdoffdfnnlcaa Go.Proofs.Ytcmdoffdfnnlcaa.Plug Go.Proofs.YtcmdoffdfnnlcaaW.PrintWords Go.Proofs.YtcmdoffdfnnlcaaW.PrintLast Go.Proofs.YtcmdoffdfnnlcaaW.PrintMore
set_option linter.unusedVariables false
set_option linter.unusedSimpArgs false
/-- The end of the stretch that begins ahead of these edges. -/
def hiT : List Int → Int
  | [] => 9007199254740992
  | d :: _ => d - 1
def goodE (is_ : Int → Bool) (low : Int) : Bool := decide (-9007199254740992 ≤ low) && decide (low ≤ 9007199254740992) && is_ low
def mdO (is_ : Int → Bool) : S36 → List Int → List S36
  | o, [] => [o]
  | o, low :: t => if goodE is_ low = true then (if o.f1 = low - 1 then mdO is_ ⟨o.f0, hiT t⟩ t else o :: mdO is_ ⟨low, hiT t⟩ t) else mdO is_ o t
def mdN (is_ : Int → Bool) : List Int → List S36
  | [] => []
  | low :: t => if goodE is_ low = true then mdO is_ ⟨low, hiT t⟩ t else mdN is_ t
/-- As the program gathers them, the last one first. -/
def mdGo (is_ : Int → Bool) : List S36 → List Int → List S36
  | out, [] => out
  | [], low :: t => if goodE is_ low = true then mdGo is_ [⟨low, hiT t⟩] t else mdGo is_ [] t
  | o :: out, low :: t => if goodE is_ low = true then (if o.f1 = low - 1 then mdGo is_ (⟨o.f0, hiT t⟩ :: out) t else mdGo is_ (⟨low, hiT t⟩ :: o :: out) t) else mdGo is_ (o :: out) t
theorem mdGo_O (is_ : Int → Bool) (t : List Int) : ∀ (o : S36) (out : List S36), (mdGo is_ (o :: out) t).reverse = out.reverse ++ mdO is_ o t := by
  induction t with
  | nil => intro o out; show (o :: out).reverse = _; rw [List.reverse_cons]; rfl
  | cons low t ih =>
    intro o out
    show (if goodE is_ low = true then (if o.f1 = low - 1 then mdGo is_ (⟨o.f0, hiT t⟩ :: out) t else mdGo is_ (⟨low, hiT t⟩ :: o :: out) t) else mdGo is_ (o :: out) t).reverse = out.reverse ++ (if goodE is_ low = true then (if o.f1 = low - 1 then mdO is_ ⟨o.f0, hiT t⟩ t else o :: mdO is_ ⟨low, hiT t⟩ t) else mdO is_ o t)
    split
    · split
      · exact ih _ _
      · rw [ih, List.reverse_cons, List.append_assoc]; rfl
    · exact ih _ _
theorem mdGo_N (is_ : Int → Bool) (t : List Int) : (mdGo is_ [] t).reverse = mdN is_ t := by
  induction t with
  | nil => rfl
  | cons low t ih =>
    show (if goodE is_ low = true then mdGo is_ [⟨low, hiT t⟩] t else mdGo is_ [] t).reverse = if goodE is_ low = true then mdO is_ ⟨low, hiT t⟩ t else mdN is_ t
    split
    · rw [mdGo_O]; rfl
    · exact ih
/-- Edges in order, between which the condition doesn't change. -/
def segs (is_ : Int → Bool) : List Int → Prop
  | [] => True
  | c :: t => c ≤ 9007199254740993 ∧ c ≤ hiT t + 1 ∧ (∀ d u, t = d :: u → c < d) ∧ (∀ n, c ≤ n → n ≤ hiT t → is_ n = is_ c) ∧ segs is_ t
def tailB (is_ : Int → Bool) (t : List Int) (n : Int) : Bool := match t with
  | [] => false
  | c :: _ => decide (c ≤ n) && decide (n ≤ 9007199254740992) && is_ n
theorem tail_step (is_ : Int → Bool) (c : Int) (t : List Int) (h : segs is_ (c :: t)) (n : Int) : tailB is_ (c :: t) n = ((decide (c ≤ n) && decide (n ≤ hiT t) && is_ c && decide (n ≤ 9007199254740992)) || tailB is_ t n) := by
  obtain ⟨h1, h2, h3, h4, h5⟩ := h
  show (decide (c ≤ n) && decide (n ≤ 9007199254740992) && is_ n) = _
  by_cases a : c ≤ n
  · by_cases b : n ≤ hiT t
    · rw [h4 n a b, decide_eq_true a, decide_eq_true b]
      cases t with
      | nil =>
        have b' : n ≤ 9007199254740992 := b
        rw [decide_eq_true b']; show (true && true && is_ c) = ((true && true && is_ c && true) || false); simp
      | cons d u =>
        have b' : n ≤ d - 1 := b
        have e : tailB is_ (d :: u) n = false := by
          show (decide (d ≤ n) && decide (n ≤ 9007199254740992) && is_ n) = false
          rw [decide_eq_false (by omega)]; rfl
        rw [e]
        cases is_ c <;> simp
    · rw [decide_eq_true a, decide_eq_false b]
      cases t with
      | nil =>
        have b' : ¬ n ≤ 9007199254740992 := b
        rw [decide_eq_false b']; rfl
      | cons d u =>
        have b' : ¬ n ≤ d - 1 := b
        show _ = ((true && false && is_ c && _) || (decide (d ≤ n) && decide (n ≤ 9007199254740992) && is_ n))
        rw [decide_eq_true (show d ≤ n by omega)]; simp
  · rw [decide_eq_false a]
    cases t with
    | nil => rfl
    | cons d u =>
      have := h3 d u rfl
      show _ = ((false && _ && is_ c && _) || (decide (d ≤ n) && decide (n ≤ 9007199254740992) && is_ n))
      rw [decide_eq_false (show ¬ d ≤ n by omega)]; simp
theorem hiT_le (is_ : Int → Bool) (t : List Int) (h : segs is_ t) : hiT t ≤ 9007199254740992 := by
  cases t with
  | nil => exact Int.le_refl _
  | cons d u => have := h.1; show d - 1 ≤ _; omega
theorem mdO_ok (is_ : Int → Bool) (t : List Int) : ∀ (o : S36) (b : Int), segs is_ t → b ≤ o.f0 → o.f0 ≤ o.f1 → o.f1 ≤ hiT t → (∀ c ∈ t, -9007199254740992 ≤ c) → cn b (mdO is_ o t) ∧ ∀ n, memB (mdO is_ o t) n = (inR o n || tailB is_ t n) := by
  induction t with
  | nil => intro o b _ h1 h2 h3 _; exact ⟨⟨h1, h2, h3, trivial⟩, fun n => rfl⟩
  | cons c t ih =>
    intro o b hs h1 h2 h3 hm
    have hs' := hs
    obtain ⟨s1, s2, s3, s4, s5⟩ := hs
    have h3' : o.f1 ≤ c - 1 := h3
    have hc := hm c (List.mem_cons_self ..)
    have hm' : ∀ c ∈ t, -9007199254740992 ≤ c := fun d hd => hm d (List.mem_cons_of_mem _ hd)
    have e : mdO is_ o (c :: t) = if goodE is_ c = true then (if o.f1 = c - 1 then mdO is_ ⟨o.f0, hiT t⟩ t else o :: mdO is_ ⟨c, hiT t⟩ t) else mdO is_ o t := rfl
    have hh := hiT_le is_ t s5
    rw [e]
    by_cases g : goodE is_ c = true
    · rw [if_pos g]
      unfold goodE at g
      rw [Bool.and_eq_true, Bool.and_eq_true, decide_eq_true_eq, decide_eq_true_eq] at g
      obtain ⟨⟨-, g1⟩, g2⟩ := g
      have hch : c ≤ hiT t := by
        cases t with
        | nil => exact g1
        | cons d u => have := s3 d u rfl; show c ≤ d - 1; omega
      by_cases hadj : o.f1 = c - 1
      · rw [if_pos hadj]
        have I := ih ⟨o.f0, hiT t⟩ b s5 h1 (by show o.f0 ≤ hiT t; omega) (Int.le_refl _) hm'
        refine ⟨I.1, fun n => ?_⟩
        rw [I.2 n, tail_step is_ c t hs' n, g2, ← Bool.or_assoc]
        congr 1
        rw [Bool.eq_iff_iff, Bool.or_eq_true, inR_iff, inR_iff, Bool.and_true, Bool.and_eq_true, Bool.and_eq_true, decide_eq_true_eq, decide_eq_true_eq, decide_eq_true_eq]
        show o.f0 ≤ n ∧ n ≤ hiT t ↔ _
        omega
      · rw [if_neg hadj]
        have I := ih ⟨c, hiT t⟩ (o.f1 + 2) s5 (by show o.f1 + 2 ≤ c; omega) hch (Int.le_refl _) hm'
        refine ⟨⟨h1, h2, by omega, I.1⟩, fun n => ?_⟩
        rw [mem_cons, I.2 n, tail_step is_ c t hs' n, g2]
        congr 2
        rw [Bool.eq_iff_iff, inR_iff, Bool.and_true, Bool.and_eq_true, Bool.and_eq_true, decide_eq_true_eq, decide_eq_true_eq, decide_eq_true_eq]
        show c ≤ n ∧ n ≤ hiT t ↔ _
        omega
    · rw [if_neg g]
      have hot : o.f1 ≤ hiT t := by
        cases t with
        | nil => show o.f1 ≤ 9007199254740992; omega
        | cons d u => have := s3 d u rfl; show o.f1 ≤ d - 1; omega
      have I := ih o b s5 h1 h2 hot hm'
      refine ⟨I.1, fun n => ?_⟩
      rw [I.2 n, tail_step is_ c t hs' n]
      congr 1
      have gf : (decide (c ≤ n) && decide (n ≤ hiT t) && is_ c && decide (n ≤ 9007199254740992)) = false := by
        rw [← Bool.not_eq_true]
        intro q
        rw [Bool.and_eq_true, Bool.and_eq_true, Bool.and_eq_true, decide_eq_true_eq, decide_eq_true_eq, decide_eq_true_eq] at q
        apply g
        unfold goodE
        rw [decide_eq_true hc, decide_eq_true (show c ≤ 9007199254740992 by omega), q.1.2]; rfl
      rw [gf, Bool.false_or]
theorem mdN_ok (is_ : Int → Bool) (t : List Int) : ∀ (b : Int), segs is_ t → (∀ c ∈ t, b ≤ c ∧ -9007199254740992 ≤ c) → cn b (mdN is_ t) ∧ ∀ n, memB (mdN is_ t) n = tailB is_ t n := by
  induction t with
  | nil => intro b _ _; exact ⟨trivial, fun n => rfl⟩
  | cons c t ih =>
    intro b hs hm
    have hs' := hs
    obtain ⟨s1, s2, s3, s4, s5⟩ := hs
    have hc := hm c (List.mem_cons_self ..)
    have hm' : ∀ c ∈ t, b ≤ c ∧ -9007199254740992 ≤ c := fun d hd => hm d (List.mem_cons_of_mem _ hd)
    have e : mdN is_ (c :: t) = if goodE is_ c = true then mdO is_ ⟨c, hiT t⟩ t else mdN is_ t := rfl
    have hh := hiT_le is_ t s5
    rw [e]
    by_cases g : goodE is_ c = true
    · rw [if_pos g]
      unfold goodE at g
      rw [Bool.and_eq_true, Bool.and_eq_true, decide_eq_true_eq, decide_eq_true_eq] at g
      obtain ⟨⟨-, g1⟩, g2⟩ := g
      have hch : c ≤ hiT t := by
        cases t with
        | nil => exact g1
        | cons d u => have := s3 d u rfl; show c ≤ d - 1; omega
      have I := mdO_ok is_ t ⟨c, hiT t⟩ b s5 hc.1 hch (Int.le_refl _) (fun d hd => (hm' d hd).2)
      refine ⟨I.1, fun n => ?_⟩
      rw [I.2 n, tail_step is_ c t hs' n, g2]
      congr 1
      rw [Bool.eq_iff_iff, inR_iff, Bool.and_true, Bool.and_eq_true, Bool.and_eq_true, decide_eq_true_eq, decide_eq_true_eq, decide_eq_true_eq]
      show c ≤ n ∧ n ≤ hiT t ↔ _
      omega
    · rw [if_neg g]
      have I := ih b s5 hm'
      refine ⟨I.1, fun n => ?_⟩
      rw [I.2 n, tail_step is_ c t hs' n]
      have gf : (decide (c ≤ n) && decide (n ≤ hiT t) && is_ c && decide (n ≤ 9007199254740992)) = false := by
        rw [← Bool.not_eq_true]
        intro q
        rw [Bool.and_eq_true, Bool.and_eq_true, Bool.and_eq_true, decide_eq_true_eq, decide_eq_true_eq, decide_eq_true_eq] at q
        apply g
        unfold goodE
        rw [decide_eq_true hc.2, decide_eq_true (show c ≤ 9007199254740992 by omega), q.1.2]; rfl
      rw [gf, Bool.false_or]
/-! The edges in order, each once. -/
theorem comp_up (zs : List Int) (hs : zs.Pairwise (fun a b => a ≤ b)) : ∀ m, m ≤ zs.length → (Lib.compactUpTo zs.toArray m).Pairwise (fun a b => a < b) ∧ ∀ x, x ∈ Lib.compactUpTo zs.toArray m ↔ x ∈ zs.take m := by
  intro m
  induction m with
  | zero => intro _; exact ⟨List.Pairwise.nil, fun x => by simp [Lib.compactUpTo]⟩
  | succ m ih =>
    intro hm
    have I := ih (by omega)
    have hlt : m < zs.length := by omega
    have hg : zs.toArray[m]! = zs[m] := by rw [getElem!_pos zs.toArray m (by simpa using hlt)]; simp
    have hle : ∀ x ∈ zs.take m, x ≤ zs[m] := by
      intro x hx
      obtain ⟨i, hi, rfl⟩ := List.mem_iff_getElem.1 hx
      rw [List.length_take] at hi
      rw [List.getElem_take]
      exact (List.pairwise_iff_getElem.1 hs) i m (by omega) hlt (by omega)
    have hk : Lib.keeps zs.toArray m = true ↔ zs[m] ∉ zs.take m := by
      by_cases h0 : m = 0
      · subst h0; simp [Lib.keeps]
      · have h1 : zs.toArray[m - 1]! = zs[m - 1]'(by omega) := by rw [getElem!_pos zs.toArray (m - 1) (by simp; omega)]; simp
        have hkd : Lib.keeps zs.toArray m = true ↔ ¬ zs[m] = zs[m - 1]'(by omega) := by
          unfold Lib.keeps
          simp [h0, hg, h1]
        rw [hkd]
        constructor
        · intro hne hin
          obtain ⟨i, hi, hx⟩ := List.mem_iff_getElem.1 hin
          rw [List.length_take] at hi
          rw [List.getElem_take] at hx
          have a1 : zs[m - 1]'(by omega) ≤ zs[m] := (List.pairwise_iff_getElem.1 hs) (m - 1) m (by omega) hlt (by omega)
          have a2 : zs[i]'(by omega) ≤ zs[m - 1]'(by omega) := by
            rcases Nat.lt_or_ge i (m - 1) with q | q
            · exact (List.pairwise_iff_getElem.1 hs) i (m - 1) (by omega) (by omega) q
            · have : i = m - 1 := by omega
              subst this; exact Int.le_refl _
          omega
        · intro hn he
          apply hn
          rw [he]
          exact List.mem_iff_getElem.2 ⟨m - 1, by rw [List.length_take]; omega, by rw [List.getElem_take]⟩
    rw [Lib.compactUpTo_succ, hg]
    by_cases q : Lib.keeps zs.toArray m = true
    · rw [if_pos q]
      have hn := hk.1 q
      refine ⟨List.pairwise_append.2 ⟨I.1, List.pairwise_singleton _ _, fun a ha b hb => ?_⟩, fun x => ?_⟩
      · obtain rfl := List.mem_singleton.1 hb
        have ha' := (I.2 a).1 ha
        have := hle a ha'
        rcases Int.lt_or_eq_of_le this with r | r
        · exact r
        · exact absurd (r ▸ ha') hn
      · rw [List.mem_append, I.2 x, List.take_succ_eq_append_getElem hlt, List.mem_append]
    · rw [if_neg q, List.append_nil]
      have hin : zs[m] ∈ zs.take m := by
        by_cases r : zs[m] ∈ zs.take m
        · exact r
        · exact absurd (hk.2 r) q
      refine ⟨I.1, fun x => ?_⟩
      rw [I.2 x, List.take_succ_eq_append_getElem hlt, List.mem_append]
      constructor
      · exact fun h => .inl h
      · rintro (h | h)
        · exact h
        · obtain rfl := List.mem_singleton.1 h; exact hin
def edgesOf (E : List Int) : List Int := Lib.compact (E.mergeSort leI)
theorem edgesOf_ok (E : List Int) : (edgesOf E).Pairwise (fun a b => a < b) ∧ ∀ x, x ∈ edgesOf E ↔ x ∈ E := by
  have hs : (E.mergeSort leI).Pairwise (fun a b => a ≤ b) := by
    have h := List.pairwise_mergeSort (le := leI) (fun a b c h1 h2 => by
      unfold leI at *
      rw [decide_eq_true_eq] at *
      omega) (fun a b => by
      unfold leI
      rw [Bool.or_eq_true, decide_eq_true_eq, decide_eq_true_eq]
      omega) E
    refine h.imp fun {r s} hrs => ?_
    unfold leI at hrs
    rwa [decide_eq_true_eq] at hrs
  have h := comp_up _ hs _ (Nat.le_refl _)
  rw [List.take_length] at h
  exact ⟨h.1, fun x => (h.2 x).trans (List.mergeSort_perm E leI).mem_iff⟩
/-- The condition changes at edges alone. -/
theorem segs_of (is_ : Int → Bool) (E : List Int) (hch : ∀ n, -9007199254740992 < n → n ≤ 9007199254740992 → is_ n ≠ is_ (n - 1) → n ∈ E) (hE : ∀ x ∈ E, -9007199254740992 ≤ x ∧ x ≤ 9007199254740993) : ∀ t : List Int, t.Pairwise (fun a b => a < b) → (∀ x ∈ t, x ∈ E) → (∀ c u, t = c :: u → ∀ x ∈ E, c ≤ x → x ∈ t) → segs is_ t := by
  intro t
  induction t with
  | nil => intro _ _ _; trivial
  | cons c t ih =>
    intro hp hin hall
    rw [List.pairwise_cons] at hp
    have hcE := hE c (hin c (List.mem_cons_self ..))
    have hT : ∀ x ∈ E, c < x → x ∈ t := fun x hx hcx => by
      rcases List.mem_cons.1 (hall c t rfl x hx (by omega)) with q | q
      · omega
      · exact q
    have hlt : ∀ d u, t = d :: u → c < d := fun d u e => hp.1 d (by rw [e]; exact List.mem_cons_self ..)
    refine ⟨hcE.2, ?_, hlt, ?_, ih hp.2 (fun x hx => hin x (List.mem_cons_of_mem _ hx)) (fun d u e x hx hdx => hT x hx (by have := hlt d u e; omega))⟩
    · cases t with
      | nil => show c ≤ 9007199254740992 + 1; omega
      | cons d u => have := hlt d u rfl; show c ≤ d - 1 + 1; omega
    · intro n hcn hnh
      have hno : ∀ m, c < m → m ≤ hiT t → m ∉ E := fun m h1 h2 hm => by
        have hmt := hT m hm h1
        cases t with
        | nil => cases hmt
        | cons d u =>
          have h2' : m ≤ d - 1 := h2
          rw [List.pairwise_cons] at hp
          rcases List.mem_cons.1 hmt with q | q
          · omega
          · have := hp.2.1 m q; omega
      have hM : hiT t ≤ 9007199254740992 := by
        cases t with
        | nil => exact Int.le_refl _
        | cons d u => have := (hE d (hin d (by simp))).2; show d - 1 ≤ _; omega
      obtain ⟨k, hk⟩ : ∃ k : Nat, n = c + k := ⟨(n - c).toNat, by omega⟩
      subst hk
      clear hcn
      induction k with
      | zero => simp
      | succ k ihk =>
        have h1 := ihk (by omega)
        have e : c + ((k + 1 : Nat) : Int) - 1 = c + (k : Int) := by omega
        by_cases q : is_ (c + ((k + 1 : Nat) : Int)) = is_ (c + ((k + 1 : Nat) : Int) - 1)
        · rw [q, e, h1]
        · exact absurd (hch _ (by omega) (by omega) q) (hno _ (by omega) hnh)
theorem made_set (is_ : Int → Bool) (E : List Int) (h0 : -9007199254740992 ∈ E) (hE : ∀ x ∈ E, -9007199254740992 ≤ x ∧ x ≤ 9007199254740993) (hch : ∀ n, -9007199254740992 < n → n ≤ 9007199254740992 → is_ n ≠ is_ (n - 1) → n ∈ E) :
    cn (-9007199254740992) (mdN is_ (edgesOf E)) ∧ ∀ n, memB (mdN is_ (edgesOf E)) n = (decide (-9007199254740992 ≤ n) && decide (n ≤ 9007199254740992) && is_ n) := by
  have K := edgesOf_ok E
  have hs := segs_of is_ E hch hE (edgesOf E) K.1 (fun x hx => (K.2 x).1 hx) (fun c u e x hx _ => (K.2 x).2 hx)
  have R := mdN_ok is_ (edgesOf E) (-9007199254740992) hs (fun c hc => ⟨(hE c ((K.2 c).1 hc)).1, (hE c ((K.2 c).1 hc)).1⟩)
  refine ⟨R.1, fun n => ?_⟩
  rw [R.2 n]
  have h1 := (K.2 _).2 h0
  cases q : edgesOf E with
  | nil => rw [q] at h1; cases h1
  | cons c t =>
    have hc : c = -9007199254740992 := by
      have a := (hE c ((K.2 c).1 (by rw [q]; exact List.mem_cons_self ..))).1
      rw [q] at h1
      rcases List.mem_cons.1 h1 with r | r
      · exact r.symm
      · have p := K.1
        rw [q, List.pairwise_cons] at p
        have := p.1 _ r; omega
    subst hc
    rfl
end Go.Proofs.Ytcmdoffdfnnlcaa.PIj
