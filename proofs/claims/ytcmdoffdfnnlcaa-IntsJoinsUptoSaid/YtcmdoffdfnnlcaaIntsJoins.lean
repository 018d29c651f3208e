/- The plain law of IntsJoins: Of, Union, Common, Minus and Without tell the sets that the reference makes. No statement is proved here. -/
import Derived.Test.YtcmdoffdfnnlcaaIjEv3
import Derived.Test.YtcmdoffdfnnlcaaPIjx3
namespace Go.Proofs.Ytcmdoffdfnnlcaa.PIj
open Go.RowKit Go.Proofs.Ytcmdoffdfnnlcaa Go.Proofs.Ytcmdoffdfnnlcaa.Plug Go.Proofs.YtcmdoffdfnnlcaaW.PrintWords Go.Proofs.YtcmdoffdfnnlcaaW.PrintLast Go.Proofs.YtcmdoffdfnnlcaaW.PrintMore
set_option linter.unusedVariables false
set_option linter.unusedSimpArgs false
theorem mdO_len (is_ : Int → Bool) (t : List Int) : ∀ o, (mdO is_ o t).length ≤ t.length + 1 := by
  induction t with
  | nil => intro o; exact Nat.le_refl _
  | cons c t ih =>
    intro o
    show (if goodE is_ c = true then (if o.f1 = c - 1 then mdO is_ ⟨o.f0, hiT t⟩ t else o :: mdO is_ ⟨c, hiT t⟩ t) else mdO is_ o t).length ≤ t.length + 1 + 1
    have h1 := ih ⟨o.f0, hiT t⟩
    have h2 := ih ⟨c, hiT t⟩
    have h3 := ih o
    split
    · split
      · omega
      · rw [List.length_cons]; omega
    · omega
theorem mdN_len (is_ : Int → Bool) (t : List Int) : (mdN is_ t).length ≤ t.length := by
  induction t with
  | nil => exact Nat.le_refl _
  | cons c t ih =>
    show (if goodE is_ c = true then mdO is_ ⟨c, hiT t⟩ t else mdN is_ t).length ≤ t.length + 1
    have h1 := mdO_len is_ t ⟨c, hiT t⟩
    split <;> omega
theorem edgesOf_len (E : List Int) : (edgesOf E).length ≤ E.length := by
  have hml : (E.mergeSort leI).length = E.length := List.length_mergeSort E
  rw [← hml]; exact Lib.compact_length_le _
theorem same_ev (is_ : Int → Bool) (E : List Int) (g : Int) (R : List S36) (hl : E.length ≤ 1000000000) (hR : g = 0 → cn (-9007199254740992) R ∧ ∀ n, memB R n = (decide (-9007199254740992 ≤ n) && decide (n ≤ 9007199254740992) && is_ n)) (h0 : -9007199254740992 ∈ E) (hE : ∀ x ∈ E, -9007199254740992 ≤ x ∧ x ≤ 9007199254740993) (hch : g = 0 → ∀ n, -9007199254740992 < n → n ≤ 9007199254740992 → is_ n ≠ is_ (n - 1) → n ∈ E) :
    Ev (fun k => claplaw1_result.f k (if g = 0 then (lim R).1 else []) (if g = 0 then (lim R).2 else g) (mdN is_ (edgesOf E)) g) true := by
  have hlen : (mdN is_ (edgesOf E)).length ≤ 1000000000000 := by
    have := mdN_len is_ (edgesOf E)
    have := edgesOf_len E
    omega
  by_cases hg : g = 0
  · have M := made_set is_ E h0 hE (hch hg)
    have e : R = mdN is_ (edgesOf E) := cn_ext (hR hg).1 M.1 (fun n => by rw [(hR hg).2 n, M.2 n])
    rw [e]
    exact result_ev _ g hlen
  · have := result_ev (mdN is_ (edgesOf E)) g hlen
    simp only [if_neg hg] at this ⊢
    exact this
theorem edR_mem (x : List S36) (n : Int) : n ∈ edR x ↔ ∃ r ∈ x, n = r.f0 ∨ n = r.f1 + 1 := by
  induction x with
  | nil => simp [edR]
  | cons r t ih =>
    show n ∈ [r.f0, r.f1 + 1] ++ edR t ↔ _
    rw [List.mem_append, ih]
    simp
theorem mem_change (x : List S36) (n : Int) (h : memB x n ≠ memB x (n - 1)) : n ∈ edR x := by
  rw [edR_mem]
  cases h1 : memB x n with
  | true =>
    have h2 : memB x (n - 1) = false := by
      cases q : memB x (n - 1) with
      | false => rfl
      | true => rw [h1, q] at h; exact absurd rfl h
    obtain ⟨r, hr, a, b⟩ := (mem_iff x n).1 h1
    refine ⟨r, hr, ?_⟩
    rcases Int.lt_or_le (n - 1) r.f0 with q | q
    · left; omega
    · exact absurd ((mem_iff x (n - 1)).2 ⟨r, hr, q, by omega⟩) (by rw [h2]; decide)
  | false =>
    have h2 : memB x (n - 1) = true := by
      cases q : memB x (n - 1) with
      | true => rfl
      | false => rw [h1, q] at h; exact absurd rfl h
    obtain ⟨r, hr, a, b⟩ := (mem_iff x (n - 1)).1 h2
    refine ⟨r, hr, ?_⟩
    rcases Int.lt_or_le r.f1 n with q | q
    · right; omega
    · exact absurd ((mem_iff x n).2 ⟨r, hr, by omega, q⟩) (by rw [h1]; decide)
theorem edL_mem (l : List Int) (n : Int) : n ∈ edL l ↔ ∃ m ∈ l, rt m = true ∧ (n = m ∨ n = m + 1) := by
  induction l with
  | nil => simp [edL]
  | cons m t ih =>
    show n ∈ (if rt m = true then [m, m + 1] else []) ++ edL t ↔ _
    rw [List.mem_append, ih]
    by_cases h : rt m = true
    · rw [if_pos h]; simp [h]
    · rw [if_neg h]; simp [h]
theorem edR_bd {x : List S36} (hc : cn (-9007199254740992) x) : ∀ n ∈ edR x, -9007199254740992 ≤ n ∧ n ≤ 9007199254740993 := by
  intro n hn
  obtain ⟨r, hr, q⟩ := (edR_mem x n).1 hn
  have := cn_all hc r hr
  omega
theorem in_rng {x : List S36} (hc : cn (-9007199254740992) x) (n : Int) : memB x n = (decide (-9007199254740992 ≤ n) && decide (n ≤ 9007199254740992) && memB x n) := by
  cases h : memB x n with
  | false => simp
  | true =>
    have := cn_lo hc h
    rw [decide_eq_true this.1, decide_eq_true this.2]; rfl
theorem ranged_ok : ∃ k, claplaw1_ranged.f k = some true := by
  refine Ev.rounds (g := fun k => claplaw1_ranged.f k) ?_
  have J := jn_ok ([7, 2, 1, 3].map pt) (by simp [pt])
  have e : jn ([7, 2, 1, 3].map pt) = [⟨1, 3⟩, ⟨7, 7⟩] := by
    refine cn_ext J.1 (c := -9007199254740992) ⟨by decide, by decide, by decide, by decide, by decide, by decide, trivial⟩ fun n => ?_
    rw [J.2 n, Bool.eq_iff_iff, mem_iff, mem_iff]
    simp [pt]
    omega
  have O := of_ev [7, 2, 1, 3] (by simp)
  rw [if_pos (show errL [7, 2, 1, 3] = 0 by decide), e] at O
  simp only [claplaw1_ranged.f]
  refine Ev.bind O ?_
  have hl : lim [⟨1, 3⟩, (⟨7, 7⟩ : S36)] = ([⟨1, 3⟩, ⟨7, 7⟩], 0) := rfl
  simp only [hl, if_true]
  exact Ev.bind (equal_ev _ (by simp)) (Ev.now _)
theorem ed2_ok (x y : List S36) (hx : x.length ≤ 1048576) (hy : y.length ≤ 1048576) : (ed2E x y (errF x) (errF y)).length ≤ 4194305 ∧ -9007199254740992 ∈ ed2E x y (errF x) (errF y) ∧ (∀ n ∈ ed2E x y (errF x) (errF y), -9007199254740992 ≤ n ∧ n ≤ 9007199254740993) ∧ (g2E (errF x) (errF y) = 0 → ∀ n, memB x n ≠ memB x (n - 1) ∨ memB y n ≠ memB y (n - 1) → n ∈ ed2E x y (errF x) (errF y)) := by
  unfold ed2E
  by_cases h : g2E (errF x) (errF y) = 0
  · obtain ⟨⟨lx, cx⟩, ly, cy⟩ := g2_cn h
    rw [if_pos h]
    refine ⟨by rw [List.length_cons, edR_len, List.length_append]; omega, List.mem_cons_self .., ?_, fun _ n hn => ?_⟩
    · rw [List.forall_mem_cons]
      refine ⟨by omega, fun n hn => ?_⟩
      rw [edR_append, List.mem_append] at hn
      rcases hn with q | q
      · exact edR_bd cx n q
      · exact edR_bd cy n q
    · rw [List.mem_cons, edR_append, List.mem_append]
      rcases hn with q | q
      · exact .inr (.inl (mem_change x n q))
      · exact .inr (.inr (mem_change y n q))
  · rw [if_neg h]
    exact ⟨by simp, List.mem_cons_self .., by simp, fun q => absurd q h⟩
theorem law_in (x y : List S36) (l : List Int) (lo hi : Int) (hx : x.length ≤ 1048576) (hy : y.length ≤ 1048576) (hl : l.length ≤ 1048576) : ∃ (e f : Int) (s1 s2 s3 s4 s5 m1 m2 m3 m4 m5 : List S36) (h1 h2 h3 h4 h5 : Int), LawIn x y l lo hi e f s1 s2 s3 s4 s5 m1 m2 m3 m4 m5 h1 h2 h3 h4 h5 := by
  obtain ⟨n2, z2, b2, c2⟩ := ed2_ok x y hx hy
  have p2 : 0 < (ed2E x y (errF x) (errF y)).length := List.length_pos_of_mem z2
  have g2s : ∀ (is_ : Int → Bool) (R : List S36), (g2E (errF x) (errF y) = 0 → cn (-9007199254740992) R ∧ ∀ n, memB R n = (decide (-9007199254740992 ≤ n) && decide (n ≤ 9007199254740992) && is_ n)) → (∀ n, is_ n ≠ is_ (n - 1) → memB x n ≠ memB x (n - 1) ∨ memB y n ≠ memB y (n - 1)) → Ev (fun k => claplaw1_result.f k (if g2E (errF x) (errF y) = 0 then lim R else ([], g2E (errF x) (errF y))).1 (if g2E (errF x) (errF y) = 0 then lim R else ([], g2E (errF x) (errF y))).2 (mdN is_ (edgesOf (ed2E x y (errF x) (errF y)))) (g2E (errF x) (errF y))) true := by
    intro is_ R hR hch
    have S := same_ev is_ (ed2E x y (errF x) (errF y)) (g2E (errF x) (errF y)) R (by omega) hR z2 b2 (fun hg n _ _ hne => c2 hg n (hch n hne))
    by_cases hg : g2E (errF x) (errF y) = 0
    · simp only [if_pos hg] at S ⊢; exact S
    · simp only [if_neg hg] at S ⊢; exact S
  -- the numbers of l
  have E1l := edL_len l
  have E1b : ∀ n ∈ (-9007199254740992 :: edL l), -9007199254740992 ≤ n ∧ n ≤ 9007199254740993 := by
    rw [List.forall_mem_cons]
    refine ⟨by omega, fun n hn => ?_⟩
    obtain ⟨m, _, hr, q⟩ := (edL_mem l n).1 hn
    have := (rt_iff m).1 hr
    omega
  have S1 := same_ev (fun n => decide (n ∈ l)) (-9007199254740992 :: edL l) (errL l) (jn (l.map pt)) (by rw [List.length_cons]; omega) (fun hg => by
    have hall := (errL_zero l).1 hg
    have J := jn_ok (l.map pt) (fun r hr => by
      obtain ⟨n, hn, rfl⟩ := List.mem_map.1 hr
      have := (rt_iff n).1 (hall n hn)
      exact ⟨this.1, Int.le_refl _, this.2⟩)
    refine ⟨J.1, fun n => ?_⟩
    rw [J.2 n, Bool.eq_iff_iff, mem_iff, Bool.and_eq_true, Bool.and_eq_true, decide_eq_true_eq, decide_eq_true_eq, decide_eq_true_eq]
    constructor
    · rintro ⟨r, hr, a, b⟩
      obtain ⟨m, hm, rfl⟩ := List.mem_map.1 hr
      have a' : m ≤ n := a
      have b' : n ≤ m := b
      have e : n = m := by omega
      have := (rt_iff m).1 (hall m hm)
      exact ⟨by omega, e ▸ hm⟩
    · rintro ⟨_, hn⟩
      exact ⟨pt n, List.mem_map.2 ⟨n, hn, rfl⟩, Int.le_refl _, Int.le_refl _⟩) (List.mem_cons_self ..) E1b (fun hg n _ _ hne => by
    have hall := (errL_zero l).1 hg
    refine List.mem_cons_of_mem _ ((edL_mem l n).2 ?_)
    by_cases q : n ∈ l
    · exact ⟨n, q, hall n q, .inl rfl⟩
    · by_cases r : n - 1 ∈ l
      · exact ⟨n - 1, r, hall _ r, .inr (by omega)⟩
      · simp [q, r] at hne)
  -- what lies outside
  have hg3 : g3E (errF x) lo hi = 0 → errF x = 0 ∧ (-9007199254740992 ≤ lo ∧ lo ≤ 9007199254740992) ∧ (-9007199254740992 ≤ hi ∧ hi ≤ 9007199254740992) ∧ lo ≤ hi := by
    intro hg
    unfold g3E at hg
    by_cases q : errF x = 0 ∧ (rt lo && rt hi && decide (lo ≤ hi)) = false
    · rw [if_pos q] at hg; exact absurd hg (by decide)
    · rw [if_neg q] at hg
      have hb : (rt lo && rt hi && decide (lo ≤ hi)) = true := by
        cases r : (rt lo && rt hi && decide (lo ≤ hi)) with
        | true => rfl
        | false => exact absurd ⟨hg, r⟩ q
      rw [Bool.and_eq_true, Bool.and_eq_true, rt_iff, rt_iff, decide_eq_true_eq] at hb
      exact ⟨hg, hb.1.1, hb.1.2, hb.2⟩
  have E3 : (ed3E x y (errF x) (errF y) lo hi).length ≤ 1000000000 ∧ -9007199254740992 ∈ ed3E x y (errF x) (errF y) lo hi ∧ (∀ n ∈ ed3E x y (errF x) (errF y) lo hi, -9007199254740992 ≤ n ∧ n ≤ 9007199254740993) := by
    unfold ed3E
    by_cases hg : g3E (errF x) lo hi = 0
    · obtain ⟨he, a, b, ab⟩ := hg3 hg
      rw [if_pos hg]
      refine ⟨by rw [List.length_append, List.length_append, edR_len]; simp only [List.length_cons, List.length_nil]; omega, by rw [List.append_assoc]; exact List.mem_append_left _ z2, fun n hn => ?_⟩
      rcases List.mem_append.1 hn with q | q
      · rcases List.mem_append.1 q with r | r
        · exact b2 n r
        · simp at r; omega
      · exact edR_bd (errF_cn he) n q
    · rw [if_neg hg]; exact ⟨by omega, z2, b2⟩
  have S5 := same_ev (fun n => decide (lo ≤ n) && decide (n ≤ hi) && !memB x n) (ed3E x y (errF x) (errF y) lo hi) (g3E (errF x) lo hi) (outL lo hi x) E3.1 (fun hg => by
    obtain ⟨he, a, b, ab⟩ := hg3 hg
    have O := outL_ok x _ lo hi (errF_cn he) b.2
    refine ⟨cn_mono O.1 a.1, fun n => ?_⟩
    rw [O.2.2 n]
    by_cases h1 : lo ≤ n
    · by_cases h2 : n ≤ hi
      · rw [decide_eq_true (show -9007199254740992 ≤ n by omega), decide_eq_true (show n ≤ 9007199254740992 by omega), Bool.true_and, Bool.true_and]
      · rw [decide_eq_false h2]; simp
    · rw [decide_eq_false h1]; simp) E3.2.1 E3.2.2 (fun hg n _ _ hne => by
    obtain ⟨he, a, b, ab⟩ := hg3 hg
    have hE : ed3E x y (errF x) (errF y) lo hi = ed2E x y (errF x) (errF y) ++ [lo, hi + 1] ++ edR x := by unfold ed3E; rw [if_pos hg]
    rw [hE, List.mem_append, List.mem_append]
    by_cases q1 : n = lo
    · exact .inl (.inr (by simp [q1]))
    · by_cases q2 : n = hi + 1
      · exact .inl (.inr (by simp [q2]))
      · refine .inr (mem_change x n fun hm => hne ?_)
        show (decide (lo ≤ n) && decide (n ≤ hi) && !memB x n) = (decide (lo ≤ n - 1) && decide (n - 1 ≤ hi) && !memB x (n - 1))
        rw [hm, show decide (lo ≤ n) = decide (lo ≤ n - 1) from decide_eq_decide.2 (by omega), show decide (n ≤ hi) = decide (n - 1 ≤ hi) from decide_eq_decide.2 (by omega)])
  have mk := fun (is_ : Int → Bool) => Ev.rounds (made_ev is_ (ed2E x y (errF x) (errF y)) p2 (by omega) b2)
  have dx : ∀ n, memB x n = memB x (n - 1) ∨ memB x n ≠ memB x (n - 1) := fun n => Decidable.em _
  have dy : ∀ n, memB y n = memB y (n - 1) ∨ memB y n ≠ memB y (n - 1) := fun n => Decidable.em _
  refine ⟨errF x, errF y, (if errL l = 0 then lim (jn (l.map pt)) else ([], 11)).1, (if g2E (errF x) (errF y) = 0 then lim (jn (x ++ y)) else ([], g2E (errF x) (errF y))).1, (if g2E (errF x) (errF y) = 0 then lim (com (x.length + y.length) x y) else ([], g2E (errF x) (errF y))).1, (if g2E (errF x) (errF y) = 0 then lim (minL y x) else ([], g2E (errF x) (errF y))).1, (if g3E (errF x) lo hi = 0 then lim (outL lo hi x) else ([], g3E (errF x) lo hi)).1,
    mdN (fun n => decide (n ∈ l)) (edgesOf (-9007199254740992 :: edL l)), mdN (fun n => memB x n || memB y n) (edgesOf (ed2E x y (errF x) (errF y))), mdN (fun n => memB x n && memB y n) (edgesOf (ed2E x y (errF x) (errF y))), mdN (fun n => memB x n && !memB y n) (edgesOf (ed2E x y (errF x) (errF y))), mdN (fun n => decide (lo ≤ n) && decide (n ≤ hi) && !memB x n) (edgesOf (ed3E x y (errF x) (errF y) lo hi)),
    (if errL l = 0 then lim (jn (l.map pt)) else ([], 11)).2, (if g2E (errF x) (errF y) = 0 then lim (jn (x ++ y)) else ([], g2E (errF x) (errF y))).2, (if g2E (errF x) (errF y) = 0 then lim (com (x.length + y.length) x y) else ([], g2E (errF x) (errF y))).2, (if g2E (errF x) (errF y) = 0 then lim (minL y x) else ([], g2E (errF x) (errF y))).2, (if g3E (errF x) lo hi = 0 then lim (outL lo hi x) else ([], g3E (errF x) lo hi)).2, ?_⟩
  exact {
    ee := Ev.rounds (setErr_f x)
    ff := Ev.rounds (setErr_f y)
    rg := ranged_ok
    ce := Ev.rounds (check_f x)
    cf := Ev.rounds (check_f y)
    of := Ev.rounds (of_ev l (by omega))
    mm1 := Ev.rounds (made_ev (fun n => decide (n ∈ l)) (-9007199254740992 :: edL l) (by simp) (by rw [List.length_cons]; omega) E1b)
    r1 := Ev.rounds (by
      rcases errL_cases l with q | q
      · simp only [q, if_true] at S1 ⊢; exact S1
      · simp only [q, if_neg (show ¬ (11 : Int) = 0 by decide)] at S1 ⊢; exact S1)
    ab := Ev.rounds (cat_ev x y (by omega) (by omega))
    un := Ev.rounds (union_ev x y)
    mm2 := mk _
    r2 := Ev.rounds (g2s (fun n => memB x n || memB y n) (jn (x ++ y)) (fun hg => by
      obtain ⟨⟨lx, cx⟩, ly, cy⟩ := g2_cn hg
      have J := jn_ok (x ++ y) (fun r hr => by
        rcases List.mem_append.1 hr with q | q
        · exact cn_all cx r q
        · exact cn_all cy r q)
      refine ⟨J.1, fun n => ?_⟩
      rw [J.2 n, mem_append, Bool.and_or_distrib_left, ← in_rng cx n, ← in_rng cy n]) (fun n hne => by
      rcases dx n with q | q
      · rcases dy n with r | r
        · exact absurd (by show (memB x n || memB y n) = (memB x (n - 1) || memB y (n - 1)); rw [q, r]) hne
        · exact .inr r
      · exact .inl q))
    co := Ev.rounds (common_ev x y)
    mm3 := mk _
    r3 := Ev.rounds (g2s (fun n => memB x n && memB y n) (com (x.length + y.length) x y) (fun hg => by
      obtain ⟨⟨lx, cx⟩, ly, cy⟩ := g2_cn hg
      have J := com_ok (x.length + y.length) x y _ _ (-9007199254740992) (Nat.le_refl _) cx cy (.inl (Int.le_refl _))
      refine ⟨J.1, fun n => ?_⟩
      rw [J.2 n, ← Bool.and_assoc, ← in_rng cx n]) (fun n hne => by
      rcases dx n with q | q
      · rcases dy n with r | r
        · exact absurd (by show (memB x n && memB y n) = (memB x (n - 1) && memB y (n - 1)); rw [q, r]) hne
        · exact .inr r
      · exact .inl q))
    mi := Ev.rounds (minus_ev x y)
    mm4 := mk _
    r4 := Ev.rounds (g2s (fun n => memB x n && !memB y n) (minL y x) (fun hg => by
      obtain ⟨⟨lx, cx⟩, ly, cy⟩ := g2_cn hg
      have J := minL_ok y cy x _ cx
      refine ⟨J.1, fun n => ?_⟩
      rw [J.2 n, ← Bool.and_assoc, ← in_rng cx n]) (fun n hne => by
      rcases dx n with q | q
      · rcases dy n with r | r
        · exact absurd (by show (memB x n && !memB y n) = (memB x (n - 1) && !memB y (n - 1)); rw [q, r]) hne
        · exact .inr r
      · exact .inl q))
    ok := fun hg r hr => by
      obtain ⟨⟨lx, cx⟩, ly, cy⟩ := g2_cn hg
      rcases List.mem_append.1 hr with q | q
      · exact cn_all cx r q
      · exact cn_all cy r q
    okx := fun he r hr => cn_all (errF_cn he) r hr
    wi := Ev.rounds (without_ev x lo hi)
    mm5 := Ev.rounds (made_ev (fun n => decide (lo ≤ n) && decide (n ≤ hi) && !memB x n) (ed3E x y (errF x) (errF y) lo hi) (List.length_pos_of_mem E3.2.1) E3.1 E3.2.2)
    r5 := Ev.rounds (by
      by_cases hg : g3E (errF x) lo hi = 0
      · simp only [if_pos hg] at S5 ⊢; exact S5
      · simp only [if_neg hg] at S5 ⊢; exact S5) }
end Go.Proofs.Ytcmdoffdfnnlcaa.PIj
