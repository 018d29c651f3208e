/- Sets of numbers as ranges in order: plain facts, no program. No statement is proved here. -/
import Derived.Test.YtcmdoffdfnnlcaaIjBox
import Derived.Test.YtcmdoffdfnnlcaaPlugJoined
namespace Go.Proofs.Ytcmdoffdfnnlcaa.PIj
open Go.RowKit Go.Proofs.Ytcmdoffdfnnlcaa Go.Proofs.Ytcmdoffdfnnlcaa.Plug Go.Proofs.YtcmdoffdfnnlcaaW.PrintWords Go.Proofs.YtcmdoffdfnnlcaaW.PrintLast Go.Proofs.YtcmdoffdfnnlcaaW.PrintMore
set_option linter.unusedVariables false
set_option linter.unusedSimpArgs false
/-- Ranges in order from b on, between any two of which a number is missing. -/
def cn : Int → List S36 → Prop
  | _, [] => True
  | b, r :: t => b ≤ r.f0 ∧ r.f0 ≤ r.f1 ∧ r.f1 ≤ 9007199254740992 ∧ cn (r.f1 + 2) t
def inR (r : S36) (n : Int) : Bool := decide (r.f0 ≤ n) && decide (n ≤ r.f1)
theorem mem_cons (r : S36) (t : List S36) (n : Int) : memB (r :: t) n = (inR r n || memB t n) := rfl
theorem mem_nil (n : Int) : memB ([] : List S36) n = false := rfl
theorem inR_iff (r : S36) (n : Int) : inR r n = true ↔ r.f0 ≤ n ∧ n ≤ r.f1 := by unfold inR; rw [Bool.and_eq_true, decide_eq_true_eq, decide_eq_true_eq]
theorem inR_no (r : S36) (n : Int) : inR r n = false ↔ n < r.f0 ∨ r.f1 < n := by
  rw [← Bool.not_eq_true, inR_iff]; omega
theorem mem_append (a b : List S36) (n : Int) : memB (a ++ b) n = (memB a n || memB b n) := by
  induction a with
  | nil => rfl
  | cons r t ih => rw [List.cons_append, mem_cons, mem_cons, ih, Bool.or_assoc]
theorem mem_iff (l : List S36) (n : Int) : memB l n = true ↔ ∃ r ∈ l, r.f0 ≤ n ∧ n ≤ r.f1 := by
  induction l with
  | nil => simp [memB]
  | cons r t ih => rw [mem_cons, Bool.or_eq_true, inR_iff, ih]; simp
theorem cn_mono {b c : Int} {l : List S36} (h : cn b l) (hc : c ≤ b) : cn c l := by
  cases l with
  | nil => trivial
  | cons r t => exact ⟨by have := h.1; omega, h.2⟩
theorem cn_lo {l : List S36} : ∀ {b n : Int}, cn b l → memB l n = true → b ≤ n ∧ n ≤ 9007199254740992 := by
  induction l with
  | nil => intro b n _ h; cases h
  | cons r t ih =>
    intro b n h hm
    obtain ⟨h1, h2, h3, h4⟩ := h
    rw [mem_cons, Bool.or_eq_true, inR_iff] at hm
    rcases hm with hm | hm
    · omega
    · have := ih h4 hm; omega
theorem cn_no {l : List S36} {b n : Int} (h : cn b l) (hn : n < b) : memB l n = false := by
  cases q : memB l n with
  | false => rfl
  | true => have := cn_lo h q; omega
theorem cn_ext {l1 : List S36} : ∀ {l2 : List S36} {b c : Int}, cn b l1 → cn c l2 → (∀ n, memB l1 n = memB l2 n) → l1 = l2 := by
  induction l1 with
  | nil =>
    intro l2 b c _ h2 he
    cases l2 with
    | nil => rfl
    | cons r t =>
      have := he r.f0
      rw [mem_nil, mem_cons, (inR_iff r r.f0).2 ⟨Int.le_refl _, h2.2.1⟩] at this
      cases this
  | cons r t ih =>
    intro l2 b c h1 h2 he
    cases l2 with
    | nil =>
      have := he r.f0
      rw [mem_nil, mem_cons, (inR_iff r r.f0).2 ⟨Int.le_refl _, h1.2.1⟩] at this
      cases this
    | cons s u =>
      obtain ⟨a1, a2, a3, a4⟩ := h1
      obtain ⟨b1, b2, b3, b4⟩ := h2
      have p1 := he r.f0
      have p2 := he s.f0
      rw [mem_cons, mem_cons, (inR_iff r r.f0).2 ⟨Int.le_refl _, a2⟩, Bool.true_or] at p1
      rw [mem_cons, mem_cons, (inR_iff s s.f0).2 ⟨Int.le_refl _, b2⟩, Bool.true_or] at p2
      have q1 : s.f0 ≤ r.f0 := by
        rcases Bool.or_eq_true _ _ ▸ p1.symm with q | q
        · exact ((inR_iff _ _).1 q).1
        · have := (cn_lo b4 q).1; omega
      have q2 : r.f0 ≤ s.f0 := by
        rcases Bool.or_eq_true _ _ ▸ p2 with q | q
        · exact ((inR_iff _ _).1 q).1
        · have := (cn_lo a4 q).1; omega
      have e0 : r.f0 = s.f0 := by omega
      have e1 : r.f1 = s.f1 := by
        rcases Int.lt_trichotomy r.f1 s.f1 with q | q | q
        · have p := he (r.f1 + 1)
          rw [mem_cons, mem_cons, (inR_iff s (r.f1 + 1)).2 (by omega), Bool.true_or, (inR_no r (r.f1 + 1)).2 (by omega), cn_no a4 (by omega)] at p
          cases p
        · exact q
        · have p := he (s.f1 + 1)
          rw [mem_cons, mem_cons, (inR_iff r (s.f1 + 1)).2 (by omega), Bool.true_or, (inR_no s (s.f1 + 1)).2 (by omega), cn_no b4 (by omega)] at p
          cases p
      obtain rfl : r = s := s_ext e0 e1
      congr 1
      refine ih a4 b4 fun n => ?_
      have p := he n
      rw [mem_cons, mem_cons] at p
      by_cases hn : r.f1 < n
      · rw [(inR_no r n).2 (.inr hn)] at p; simpa using p
      · rw [cn_no a4 (by omega), cn_no b4 (by omega)]
theorem cn_append {l1 l2 : List S36} {u : Int} : ∀ {b : Int}, cn b l1 → (∀ r ∈ l1, r.f1 ≤ u) → b ≤ u + 2 → cn (u + 2) l2 → cn b (l1 ++ l2) := by
  induction l1 with
  | nil => intro b _ _ hb h2; exact cn_mono h2 hb
  | cons r t ih =>
    intro b h1 hu hb h2
    obtain ⟨a1, a2, a3, a4⟩ := h1
    have := hu r (List.mem_cons_self ..)
    exact ⟨a1, a2, a3, ih a4 (fun x hx => hu x (List.mem_cons_of_mem _ hx)) (by omega) h2⟩
/-! Joined ranges. -/
def jn1 (o : S36) : List S36 → List S36
  | [] => [o]
  | r :: t => if o.f1 ≥ r.f0 - 1 then jn1 ⟨o.f0, mx o.f1 r.f1⟩ t else o :: jn1 r t
theorem joinGo_eq (l : List S36) : ∀ (o : S36) (out : List S36), (joinGo (o :: out) l).reverse = out.reverse ++ jn1 o l := by
  induction l with
  | nil => intro o out; show (o :: out).reverse = _; rw [List.reverse_cons]; rfl
  | cons r t ih =>
    intro o out
    show (if o.f1 ≥ r.f0 - 1 then joinGo (⟨o.f0, mx o.f1 r.f1⟩ :: out) t else joinGo (r :: o :: out) t).reverse = out.reverse ++ (if o.f1 ≥ r.f0 - 1 then jn1 ⟨o.f0, mx o.f1 r.f1⟩ t else o :: jn1 r t)
    split
    · exact ih _ _
    · rw [ih, List.reverse_cons, List.append_assoc]; rfl
theorem jn1_ok (l : List S36) : ∀ (o : S36) (b : Int), b ≤ o.f0 → o.f0 ≤ o.f1 → o.f1 ≤ 9007199254740992 → (∀ r ∈ l, o.f0 ≤ r.f0 ∧ r.f0 ≤ r.f1 ∧ r.f1 ≤ 9007199254740992) → l.Pairwise (fun r s => r.f0 ≤ s.f0) → cn b (jn1 o l) ∧ ∀ n, memB (jn1 o l) n = (inR o n || memB l n) := by
  induction l with
  | nil => intro o b h1 h2 h3 _ _; exact ⟨⟨h1, h2, h3, trivial⟩, fun n => rfl⟩
  | cons r t ih =>
    intro o b h1 h2 h3 h4 h5
    have hr := h4 r (List.mem_cons_self ..)
    rw [List.pairwise_cons] at h5
    have ht : ∀ s ∈ t, r.f0 ≤ s.f0 ∧ s.f0 ≤ s.f1 ∧ s.f1 ≤ 9007199254740992 := fun s hs => ⟨h5.1 s hs, (h4 s (List.mem_cons_of_mem _ hs)).2⟩
    have e : jn1 o (r :: t) = if o.f1 ≥ r.f0 - 1 then jn1 ⟨o.f0, mx o.f1 r.f1⟩ t else o :: jn1 r t := rfl
    have hmx : mx o.f1 r.f1 = if o.f1 < r.f1 then r.f1 else o.f1 := rfl
    by_cases hc : o.f1 ≥ r.f0 - 1
    · rw [e, if_pos hc]
      have I := ih ⟨o.f0, mx o.f1 r.f1⟩ b h1 (by show o.f0 ≤ mx o.f1 r.f1; rw [hmx]; split <;> omega) (by show mx o.f1 r.f1 ≤ _; rw [hmx]; split <;> omega) (fun s hs => ⟨by have := (ht s hs).1; show o.f0 ≤ _; omega, (ht s hs).2⟩) h5.2
      refine ⟨I.1, fun n => ?_⟩
      rw [I.2 n, mem_cons, ← Bool.or_assoc]
      congr 1
      rw [Bool.eq_iff_iff, Bool.or_eq_true, inR_iff, inR_iff, inR_iff]
      show o.f0 ≤ n ∧ n ≤ mx o.f1 r.f1 ↔ _
      rw [hmx]; split <;> omega
    · rw [e, if_neg hc]
      have I := ih r (o.f1 + 2) (by omega) hr.2.1 hr.2.2 ht h5.2
      exact ⟨⟨h1, h2, h3, I.1⟩, fun n => by rw [mem_cons, I.2 n, mem_cons]⟩
theorem sortR_sorted (l : List S36) : (sortR l).Pairwise (fun r s => r.f0 ≤ s.f0) := by
  have h := List.pairwise_mergeSort (le := leR) (fun a b c h1 h2 => by
    unfold leR at *
    rw [decide_eq_true_eq] at *
    omega) (fun a b => by
    unfold leR
    rw [Bool.or_eq_true, decide_eq_true_eq, decide_eq_true_eq]
    omega) l
  refine h.imp fun {r s} hrs => ?_
  unfold leR at hrs
  rw [decide_eq_true_eq] at hrs
  omega
theorem jn_ok (l : List S36) (h : ∀ r ∈ l, -9007199254740992 ≤ r.f0 ∧ r.f0 ≤ r.f1 ∧ r.f1 ≤ 9007199254740992) : cn (-9007199254740992) (jn l) ∧ ∀ n, memB (jn l) n = memB l n := by
  have hm : ∀ n, memB (sortR l) n = memB l n := fun n => by
    rw [Bool.eq_iff_iff, mem_iff, mem_iff]
    exact ⟨fun ⟨r, hr, q⟩ => ⟨r, sortR_mem.1 hr, q⟩, fun ⟨r, hr, q⟩ => ⟨r, sortR_mem.2 hr, q⟩⟩
  have hs := sortR_sorted l
  have hv : ∀ r ∈ sortR l, -9007199254740992 ≤ r.f0 ∧ r.f0 ≤ r.f1 ∧ r.f1 ≤ 9007199254740992 := fun r hr => h r (sortR_mem.1 hr)
  unfold jn
  cases q : sortR l with
  | nil => rw [q] at hm; exact ⟨trivial, hm⟩
  | cons o t =>
    rw [q] at hm hs hv
    have e : joinGo [] (o :: t) = joinGo [o] t := rfl
    rw [e, joinGo_eq]
    rw [List.pairwise_cons] at hs
    have ho := hv o (List.mem_cons_self ..)
    have J := jn1_ok t o (-9007199254740992) ho.1 ho.2.1 ho.2.2 (fun r hr => ⟨hs.1 r hr, (hv r (List.mem_cons_of_mem _ hr)).2⟩) hs.2
    exact ⟨J.1, fun n => by show memB (jn1 o t) n = _; rw [J.2 n, ← hm n]; rfl⟩
/-! What lies outside of a set. -/
def outL (lo hi : Int) : List S36 → List S36
  | [] => if lo ≤ hi then [⟨lo, hi⟩] else []
  | r :: t => if r.f1 < lo then outL lo hi t else if r.f0 > hi then (if lo ≤ hi then [⟨lo, hi⟩] else []) else (if r.f0 > lo then [⟨lo, r.f0 - 1⟩] else []) ++ outL (r.f1 + 1) hi t
theorem end_ok (lo hi : Int) (hh : hi ≤ 9007199254740992) : cn lo (if lo ≤ hi then [(⟨lo, hi⟩ : S36)] else []) ∧ (∀ r ∈ (if lo ≤ hi then [(⟨lo, hi⟩ : S36)] else []), r.f1 ≤ hi) ∧ ∀ n, memB (if lo ≤ hi then [(⟨lo, hi⟩ : S36)] else []) n = (decide (lo ≤ n) && decide (n ≤ hi)) := by
  by_cases h : lo ≤ hi
  · rw [if_pos h]
    refine ⟨⟨Int.le_refl _, h, hh, trivial⟩, fun r hr => by obtain rfl := List.mem_singleton.1 hr; exact Int.le_refl _, fun n => ?_⟩
    rw [mem_cons, mem_nil, Bool.or_false]; rfl
  · rw [if_neg h]
    refine ⟨trivial, (fun r hr => by cases hr), fun n => ?_⟩
    rw [mem_nil, eq_comm, ← Bool.not_eq_true, Bool.and_eq_true, decide_eq_true_eq, decide_eq_true_eq]; omega
theorem outL_ok (l : List S36) : ∀ (b lo hi : Int), cn b l → hi ≤ 9007199254740992 → cn lo (outL lo hi l) ∧ (∀ r ∈ outL lo hi l, r.f1 ≤ hi) ∧ ∀ n, memB (outL lo hi l) n = (decide (lo ≤ n) && decide (n ≤ hi) && !memB l n) := by
  induction l with
  | nil =>
    intro b lo hi _ hh
    have E := end_ok lo hi hh
    exact ⟨E.1, E.2.1, fun n => by show memB (if lo ≤ hi then _ else _) n = _; rw [E.2.2 n, mem_nil]; simp⟩
  | cons r t ih =>
    intro b lo hi h hh
    obtain ⟨a1, a2, a3, a4⟩ := h
    have e : outL lo hi (r :: t) = if r.f1 < lo then outL lo hi t else if r.f0 > hi then (if lo ≤ hi then [⟨lo, hi⟩] else []) else (if r.f0 > lo then [⟨lo, r.f0 - 1⟩] else []) ++ outL (r.f1 + 1) hi t := rfl
    rw [e]
    by_cases c1 : r.f1 < lo
    · rw [if_pos c1]
      have I := ih _ lo hi a4 hh
      refine ⟨I.1, I.2.1, fun n => ?_⟩
      rw [I.2.2 n, mem_cons]
      by_cases hn : lo ≤ n
      · rw [(inR_no r n).2 (by omega), Bool.false_or]
      · rw [decide_eq_false hn]; simp
    · rw [if_neg c1]
      by_cases c2 : r.f0 > hi
      · rw [if_pos c2]
        have E := end_ok lo hi hh
        refine ⟨E.1, E.2.1, fun n => ?_⟩
        rw [E.2.2 n, mem_cons]
        by_cases hn : n ≤ hi
        · rw [(inR_no r n).2 (by omega), cn_no a4 (by omega)]; simp
        · rw [decide_eq_false hn]; simp
      · rw [if_neg c2]
        have I := ih _ (r.f1 + 1) hi a4 hh
        have hp : ∀ n, memB (if r.f0 > lo then [(⟨lo, r.f0 - 1⟩ : S36)] else []) n = (decide (lo ≤ n) && decide (n < r.f0)) := by
          intro n
          by_cases c3 : r.f0 > lo
          · rw [if_pos c3, mem_cons, mem_nil, Bool.or_false, Bool.eq_iff_iff, inR_iff, Bool.and_eq_true, decide_eq_true_eq, decide_eq_true_eq]
            show lo ≤ n ∧ n ≤ r.f0 - 1 ↔ _
            omega
          · rw [if_neg c3, mem_nil, eq_comm, ← Bool.not_eq_true, Bool.and_eq_true, decide_eq_true_eq, decide_eq_true_eq]; omega
        refine ⟨?_, ?_, fun n => ?_⟩
        · by_cases c3 : r.f0 > lo
          · rw [if_pos c3]
            exact ⟨Int.le_refl _, by show lo ≤ r.f0 - 1; omega, by show r.f0 - 1 ≤ _; omega, cn_mono I.1 (by show r.f0 - 1 + 2 ≤ _; omega)⟩
          · rw [if_neg c3]; exact cn_mono I.1 (by omega)
        · intro s hs
          rcases List.mem_append.1 hs with q | q
          · by_cases c3 : r.f0 > lo
            · rw [if_pos c3] at q
              obtain rfl := List.mem_singleton.1 q
              show r.f0 - 1 ≤ hi; omega
            · rw [if_neg c3] at q; cases q
          · exact I.2.1 s q
        · rw [mem_append, hp, I.2.2 n, mem_cons]
          by_cases h1 : n < r.f0
          · rw [decide_eq_true h1, decide_eq_false (show ¬ r.f1 + 1 ≤ n by omega), (inR_no r n).2 (.inl h1), cn_no a4 (by omega), decide_eq_true (show n ≤ hi by omega)]; simp
          · rw [decide_eq_false h1]
            by_cases h2 : n ≤ r.f1
            · rw [decide_eq_false (show ¬ r.f1 + 1 ≤ n by omega), (inR_iff r n).2 (by omega)]; simp
            · rw [decide_eq_true (show r.f1 + 1 ≤ n by omega), (inR_no r n).2 (by omega), decide_eq_true (show lo ≤ n by omega)]; simp
/-! What one set has and another one hasn't. -/
def minL (y : List S36) : List S36 → List S36
  | [] => []
  | r :: t => outL r.f0 r.f1 y ++ minL y t
theorem minL_ok (y : List S36) {c : Int} (hy : cn c y) (x : List S36) : ∀ b, cn b x → cn b (minL y x) ∧ ∀ n, memB (minL y x) n = (memB x n && !memB y n) := by
  induction x with
  | nil => intro b _; exact ⟨trivial, fun n => rfl⟩
  | cons r t ih =>
    intro b h
    obtain ⟨a1, a2, a3, a4⟩ := h
    have I := ih _ a4
    have O := outL_ok y c r.f0 r.f1 hy a3
    refine ⟨cn_append (cn_mono O.1 a1) O.2.1 (by omega) I.1, fun n => ?_⟩
    show memB (outL r.f0 r.f1 y ++ minL y t) n = _
    rw [mem_append, O.2.2 n, I.2 n, mem_cons]
    show ((inR r n && !memB y n) || (memB t n && !memB y n)) = _
    rw [← Bool.and_or_distrib_right]
/-! What two sets have in common. -/
def com : Nat → List S36 → List S36 → List S36
  | 0, _, _ => []
  | _ + 1, [], _ => []
  | _ + 1, _ :: _, [] => []
  | d + 1, a :: x, b :: y => (if mx a.f0 b.f0 ≤ mn a.f1 b.f1 then [⟨mx a.f0 b.f0, mn a.f1 b.f1⟩] else []) ++ (if a.f1 < b.f1 then com d x (b :: y) else com d (a :: x) y)
theorem mx_def (a b : Int) : mx a b = if a < b then b else a := rfl
theorem mn_def (a b : Int) : mn a b = if b < a then b else a := rfl
theorem com_ok (d : Nat) : ∀ (x y : List S36) (p q c : Int), x.length + y.length ≤ d → cn p x → cn q y → (c ≤ p ∨ c ≤ q) → cn c (com d x y) ∧ ∀ n, memB (com d x y) n = (memB x n && memB y n) := by
  induction d with
  | zero =>
    intro x y p q c hd _ _ _
    obtain rfl : x = [] := List.eq_nil_of_length_eq_zero (by omega)
    exact ⟨trivial, fun n => rfl⟩
  | succ d ih =>
    intro x y p q c hd hx hy hc
    cases x with
    | nil => exact ⟨trivial, fun n => rfl⟩
    | cons a x =>
      cases y with
      | nil => exact ⟨trivial, fun n => by rw [mem_nil, Bool.and_false]; rfl⟩
      | cons b y =>
        have hx' := hx
        have hy' := hy
        obtain ⟨a1, a2, a3, a4⟩ := hx
        obtain ⟨b1, b2, b3, b4⟩ := hy
        simp only [List.length_cons] at hd
        have hh : ∀ n, memB (if mx a.f0 b.f0 ≤ mn a.f1 b.f1 then [(⟨mx a.f0 b.f0, mn a.f1 b.f1⟩ : S36)] else []) n = (inR a n && inR b n) := by
          intro n
          rw [Bool.eq_iff_iff, Bool.and_eq_true, inR_iff, inR_iff]
          by_cases h : mx a.f0 b.f0 ≤ mn a.f1 b.f1
          · rw [if_pos h, mem_cons, mem_nil, Bool.or_false, inR_iff]
            show mx a.f0 b.f0 ≤ n ∧ n ≤ mn a.f1 b.f1 ↔ _
            rw [mx_def, mn_def]; split <;> split <;> omega
          · rw [if_neg h, mem_nil]
            rw [mx_def, mn_def] at h
            constructor
            · intro q; cases q
            · intro q; exfalso; revert h; split <;> split <;> omega
        have e : com (d + 1) (a :: x) (b :: y) = (if mx a.f0 b.f0 ≤ mn a.f1 b.f1 then [⟨mx a.f0 b.f0, mn a.f1 b.f1⟩] else []) ++ (if a.f1 < b.f1 then com d x (b :: y) else com d (a :: x) y) := rfl
        rw [e]
        by_cases hlt : a.f1 < b.f1
        · rw [if_pos hlt]
          have hmn : mn a.f1 b.f1 = a.f1 := by rw [mn_def, if_neg (by omega)]
          have I1 := ih x (b :: y) _ q (a.f1 + 2) (by simp only [List.length_cons]; omega) a4 hy' (.inl (Int.le_refl _))
          refine ⟨?_, fun n => ?_⟩
          · by_cases h : mx a.f0 b.f0 ≤ mn a.f1 b.f1
            · rw [if_pos h]
              refine ⟨?_, h, by show mn a.f1 b.f1 ≤ _; omega, ?_⟩
              · show c ≤ mx a.f0 b.f0; rw [mx_def]; split <;> omega
              · show cn (mn a.f1 b.f1 + 2) _; rw [hmn]; exact I1.1
            · rw [if_neg h]
              exact (ih x (b :: y) _ q c (by simp only [List.length_cons]; omega) a4 hy' (by omega)).1
          · rw [mem_append, hh, I1.2 n, mem_cons, mem_cons]
            cases ha : inR a n with
            | false => simp
            | true =>
              rw [inR_iff] at ha
              rw [cn_no a4 (by omega), cn_no b4 (by omega)]; simp
        · rw [if_neg hlt]
          have hmn : mn a.f1 b.f1 = b.f1 := by rw [mn_def]; split <;> omega
          have I1 := ih (a :: x) y p _ (b.f1 + 2) (by simp only [List.length_cons]; omega) hx' b4 (.inr (Int.le_refl _))
          refine ⟨?_, fun n => ?_⟩
          · by_cases h : mx a.f0 b.f0 ≤ mn a.f1 b.f1
            · rw [if_pos h]
              refine ⟨?_, h, by show mn a.f1 b.f1 ≤ _; omega, ?_⟩
              · show c ≤ mx a.f0 b.f0; rw [mx_def]; split <;> omega
              · show cn (mn a.f1 b.f1 + 2) _; rw [hmn]; exact I1.1
            · rw [if_neg h]
              exact (ih (a :: x) y p _ c (by simp only [List.length_cons]; omega) hx' b4 (by omega)).1
          · rw [mem_append, hh, I1.2 n, mem_cons, mem_cons]
            cases hb : inR b n with
            | false => simp
            | true =>
              rw [inR_iff] at hb
              rw [cn_no b4 (by omega), cn_no a4 (by omega)]; simp
end Go.Proofs.Ytcmdoffdfnnlcaa.PIj
