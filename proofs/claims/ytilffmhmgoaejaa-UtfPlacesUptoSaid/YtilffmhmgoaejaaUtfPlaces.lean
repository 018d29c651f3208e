/- The plain statement of the law UtfPlaces: at all strings of at most 1048576 bytes and all numbers its function returns true. -/
import Derived.Test.YtilffmhmgoaejaaUtfTexts
namespace Go.Proofs.Ytilffmhmgoaejaa.PUtf
open Go.RowKit Go.Proofs.YtilffmhmgoaejaaW.PrintWords Go.Proofs.YtilffmhmgoaejaaW.PrintLast Go.Proofs.YtilffmhmgoaejaaW.PrintMore Go.Proofs.Ytilffmhmgoaejaa Go.Proofs.Ytilffmhmgoaejaa.Plug
set_option linter.unusedVariables false
set_option linter.unusedSimpArgs false
theorem mx_1 (x : Int) (h : 0 ≤ x) : mx x 1 = if x = 0 then 1 else x := by unfold mx; split <;> (try split) <;> omega
theorem mx_nx (l : List UInt8) (h : l ≠ []) : mx (nxL l).2 1 = (stL l : Nat) := by
  have r := nxL_range l
  obtain ⟨_, _, r3⟩ := stL_range l h
  rw [mx_1 _ (by omega), r3]
  rcases chL_good l with ⟨g1, g2⟩ | ⟨g1, g2⟩
  · rw [if_pos g1, g2]
  · rw [if_neg g1, g2]
/-- A character ends in a line feed just where it is one. -/
theorem feed_nx (n c0 c1 c2 c3 : Int) : nxI n c0 c1 c2 c3 = (0, 0) ∨ (nxI n c0 c1 c2 c3).2 = 1 ∨ (128 ≤ c0 ∧ (((nxI n c0 c1 c2 c3).2 = 2 ∧ 128 ≤ c1) ∨ ((nxI n c0 c1 c2 c3).2 = 3 ∧ 128 ≤ c2) ∨ ((nxI n c0 c1 c2 c3).2 = 4 ∧ 128 ≤ c3))) := by
  unfold nxI
  by_cases q1 : c0 < 128
  · rw [if_pos q1]; exact .inr (.inl rfl)
  rw [if_neg q1]
  by_cases q2 : 192 ≤ c0 ∧ c0 < 224
  · rw [if_pos q2]
    split
    · exact .inr (.inr ⟨by omega, .inl ⟨rfl, by omega⟩⟩)
    · exact .inl rfl
  rw [if_neg q2]
  by_cases q3 : 224 ≤ c0 ∧ c0 < 240
  · rw [if_pos q3]
    split
    · exact .inr (.inr ⟨by omega, .inr (.inl ⟨rfl, by omega⟩)⟩)
    · exact .inl rfl
  rw [if_neg q3]
  split
  · split
    · exact .inr (.inr ⟨by omega, .inr (.inr ⟨rfl, by omega⟩)⟩)
    · exact .inl rfl
  · exact .inl rfl
theorem feed (l : List UInt8) (h : l ≠ []) : nb8 l (stL l - 1) = 10 ↔ nb8 l 0 = 10 := by
  have key := feed_nx l.length (nb8 l 0) (nb8 l 1) (nb8 l 2) (nb8 l 3)
  have hx : nxL l = nxI l.length (nb8 l 0) (nb8 l 1) (nb8 l 2) (nb8 l 3) := rfl
  rw [← hx] at key
  have e : (nxL l).2 ≠ 0 → stL l = (nxL l).2.toNat := fun q => by unfold stL chL; rw [if_neg q]
  rcases key with q | q | ⟨q0, ⟨q, q1⟩ | ⟨q, q1⟩ | ⟨q, q1⟩⟩
  · have : stL l = 1 := by unfold stL chL; rw [q]; rfl
    rw [this]
  · rw [e (by omega), q]; exact Iff.rfl
  · rw [e (by omega), q]; show nb8 l 1 = 10 ↔ _; omega
  · rw [e (by omega), q]; show nb8 l 2 = 10 ↔ _; omega
  · rw [e (by omega), q]; show nb8 l 3 = 10 ↔ _; omega
/-- The next line and column behind a character. -/
def lc (b : Bool) (x : Int × Int) : Int × Int := if b = true then (x.1 + 1, 1) else (x.1, x.2 + 1)
def placeL (l : List UInt8) (a : Int) : Nat → Int × Int → List (Int × Int × Bool) → Int × Int
  | _, x, [] => x
  | p, x, c :: t => if (p : Int) + c.2.1 > a then x else placeL l a (p + c.2.1.toNat) (lc (decide (nb8 l p = 10)) x) t
def cutL (n : Int) : Nat → List (Int × Int × Bool) → Nat
  | p, [] => p
  | p, c :: t => if (p : Int) + c.2.1 > n then p else cutL n (p + c.2.1.toNat) t
theorem cutL_ge (n : Int) (C : List (Int × Int × Bool)) : ∀ p, p ≤ cutL n p C := by
  induction C with
  | nil => intro p; exact Nat.le_refl _
  | cons c t ih => intro p; unfold cutL; split
                   · exact Nat.le_refl _
                   · exact Nat.le_trans (Nat.le_add_right _ _) (ih _)
theorem place_ev (s : ByteArray) (hs : s.size ≤ 1048576) (a : Int) (ha : a ≤ s.size) : ∀ (d p : Nat) (x : Int × Int), s.size - p ≤ d → (p : Int) ≤ a → p ≤ s.size → 0 ≤ x.1 ∧ x.1 ≤ p + 1 → 0 ≤ x.2 ∧ x.2 ≤ p + 1 →
    Ev (fun k => utf_Place.l0 k s a x.1 x.2 p) ((placeL (lb s) a p x (chs ((lb s).drop p))).1, (placeL (lb s) a p x (chs ((lb s).drop p))).2, 0) := by
  intro d
  induction d with
  | zero =>
    intro p x hd hp hp2 h1 h2
    apply Ev.succ
    have he : (lb s).drop p = [] := List.drop_eq_nil_of_le (by rw [lb_len]; omega)
    simp only [utf_Place.l0, if_neg (show ¬ (p : Int) < a by omega), he, chs_nil, placeL]; exact Ev.now _
  | succ d ih =>
    intro p x hd hp hp2 h1 h2
    apply Ev.succ
    by_cases q : p < s.size
    · have hne : (lb s).drop p ≠ [] := by intro z; have := congrArg List.length z; rw [List.length_drop, lb_len] at this; simp at this; omega
      obtain ⟨r1, r2, r3⟩ := stL_range _ hne
      rw [List.length_drop, lb_len] at r2
      rw [chs_cons _ hne]
      simp only [placeL, ← r3, Int.toNat_natCast, List.drop_drop]
      by_cases q2 : (p : Int) < a
      · simp only [utf_Place.l0, if_pos q2, if_pos (show (0 : Int) ≤ p by omega), if_pos (show (p : Int) ≤ s.size by omega), Int.toNat_natCast]
        have hsz : (s.extract p s.size).size = s.size - p := by rw [← lb_len, lb_from, List.length_drop, lb_len]
        have hc := next_ev (s.extract p s.size) (by omega)
        rw [lb_from] at hc
        refine Ev.bind hc ?_
        rw [mx_nx _ hne, wrap_eq (x := (p : Int) + (stL ((lb s).drop p) : Nat)) (by omega) (by omega)]
        by_cases q3 : (p : Int) + (stL ((lb s).drop p) : Nat) > a
        · simp only [if_pos q3]; exact Ev.now _
        · simp only [if_neg q3, if_pos (show (p : Int) < s.size by omega), bt_lb]
          have he : (p : Int) + (stL ((lb s).drop p) : Nat) = ((p + stL ((lb s).drop p) : Nat) : Int) := by omega
          rw [he]
          by_cases q4 : nb8 (lb s) p = 10
          · simp only [if_pos q4, lc, decide_eq_true q4, if_true]
            rw [wrap_eq (by omega) (by omega)]
            exact ih (p + stL ((lb s).drop p)) (x.1 + 1, 1) (by omega) (by omega) (by omega) ⟨by simp only; omega, by simp only; omega⟩ ⟨by simp only; omega, by simp only; omega⟩
          · simp only [if_neg q4, lc, decide_eq_false q4, Bool.false_eq_true, if_false]
            rw [wrap_eq (x := x.2 + 1) (by omega) (by omega)]
            exact ih (p + stL ((lb s).drop p)) (x.1, x.2 + 1) (by omega) (by omega) (by omega) ⟨by simp only; omega, by simp only; omega⟩ ⟨by simp only; omega, by simp only; omega⟩
      · simp only [utf_Place.l0, if_neg q2, if_pos (show (p : Int) + (stL ((lb s).drop p) : Nat) > a by omega)]; exact Ev.now _
    · have he : (lb s).drop p = [] := List.drop_eq_nil_of_le (by rw [lb_len]; omega)
      simp only [utf_Place.l0, if_neg (show ¬ (p : Int) < a by omega), he, chs_nil, placeL]; exact Ev.now _
theorem cut_ev (s : ByteArray) (hs : s.size ≤ 1048576) (n : Int) (hn : n < s.size) : ∀ (d p : Nat), s.size - p ≤ d → ((p : Int) ≤ n ∨ p = 0) → p ≤ s.size →
    Ev (fun k => utf_Cut.l0 k s n p) (s.extract 0 (cutL n p (chs ((lb s).drop p)))) := by
  intro d
  induction d with
  | zero =>
    intro p hd hp hp2
    apply Ev.succ
    have he : (lb s).drop p = [] := List.drop_eq_nil_of_le (by rw [lb_len]; omega)
    simp only [utf_Cut.l0, if_neg (show ¬ (p : Int) < n by omega), he, chs_nil, cutL, if_pos (show (0 : Int) ≤ p by omega), if_pos (show (p : Int) ≤ s.size by omega), Int.toNat_natCast]; exact Ev.now _
  | succ d ih =>
    intro p hd hp hp2
    apply Ev.succ
    by_cases q : p < s.size
    · have hne : (lb s).drop p ≠ [] := by intro z; have := congrArg List.length z; rw [List.length_drop, lb_len] at this; simp at this; omega
      obtain ⟨r1, r2, r3⟩ := stL_range _ hne
      rw [List.length_drop, lb_len] at r2
      rw [chs_cons _ hne]
      simp only [cutL, ← r3, Int.toNat_natCast, List.drop_drop]
      by_cases q2 : (p : Int) < n
      · simp only [utf_Cut.l0, if_pos q2, if_pos (show (0 : Int) ≤ p by omega), if_pos (show (p : Int) ≤ s.size by omega), Int.toNat_natCast]
        have hsz : (s.extract p s.size).size = s.size - p := by rw [← lb_len, lb_from, List.length_drop, lb_len]
        have hc := next_ev (s.extract p s.size) (by omega)
        rw [lb_from] at hc
        refine Ev.bind hc ?_
        rw [mx_nx _ hne, wrap_eq (x := (p : Int) + (stL ((lb s).drop p) : Nat)) (by omega) (by omega)]
        by_cases q3 : (p : Int) + (stL ((lb s).drop p) : Nat) > n
        · simp only [if_pos q3]; exact Ev.now _
        · simp only [if_neg q3]
          have he : (p : Int) + (stL ((lb s).drop p) : Nat) = ((p + stL ((lb s).drop p) : Nat) : Int) := by omega
          rw [he]
          exact ih (p + stL ((lb s).drop p)) (by omega) (by omega) (by omega)
      · simp only [utf_Cut.l0, if_neg q2, if_pos (show (p : Int) + (stL ((lb s).drop p) : Nat) > n by omega), if_pos (show (0 : Int) ≤ p by omega), if_pos (show (p : Int) ≤ s.size by omega), Int.toNat_natCast]; exact Ev.now _
    · have he : (lb s).drop p = [] := List.drop_eq_nil_of_le (by rw [lb_len]; omega)
      simp only [utf_Cut.l0, if_neg (show ¬ (p : Int) < n by omega), he, chs_nil, cutL, if_pos (show (0 : Int) ≤ p by omega), if_pos (show (p : Int) ≤ s.size by omega), Int.toNat_natCast]; exact Ev.now _
/-- What the law's loop gathers. -/
def gath (l : List UInt8) (a n : Int) : Nat → Int × Int → Nat → List (Int × Int × Bool) → (Int × Int) × Nat
  | _, x, c, [] => (x, c)
  | p, x, c, e :: t => gath l a n (p + e.2.1.toNat) (if (p : Int) + e.2.1 ≤ a then lc (decide (nb8 l p = 10)) x else x) (if (p : Int) + e.2.1 ≤ n then p + e.2.1.toNat else c) t
theorem gath_place (l : List UInt8) (a n : Int) (C : List (Int × Int × Bool)) (hC : ∀ e ∈ C, 0 ≤ e.2.1) : ∀ (p : Nat) (x : Int × Int) (c : Nat), ((p : Int) > a → (gath l a n p x c C).1 = x) ∧ (gath l a n p x c C).1 = placeL l a p x C := by
  induction C with
  | nil => intro p x c; exact ⟨fun _ => rfl, rfl⟩
  | cons e t ih =>
    intro p x c
    have he := hC e (List.mem_cons_self)
    have ih := ih (fun e q => hC e (List.mem_cons_of_mem _ q))
    unfold gath placeL
    refine ⟨fun h => ?_, ?_⟩
    · rw [if_neg (show ¬ (p : Int) + e.2.1 ≤ a by omega)]; exact (ih (p + e.2.1.toNat) _ _).1 (by omega)
    · by_cases q : (p : Int) + e.2.1 ≤ a
      · rw [if_pos q, if_neg (show ¬ (p : Int) + e.2.1 > a by omega)]; exact (ih _ _ _).2
      · rw [if_neg q, if_pos (show (p : Int) + e.2.1 > a by omega)]; exact (ih (p + e.2.1.toNat) _ _).1 (by omega)
theorem gath_cut (l : List UInt8) (a n : Int) (C : List (Int × Int × Bool)) (hC : ∀ e ∈ C, 0 ≤ e.2.1) : ∀ (p : Nat) (x : Int × Int) (c : Nat), ((p : Int) > n → (gath l a n p x c C).2 = c) ∧ (c = p → (gath l a n p x c C).2 = cutL n p C) := by
  induction C with
  | nil => intro p x c; exact ⟨fun _ => rfl, fun h => h⟩
  | cons e t ih =>
    intro p x c
    have he := hC e (List.mem_cons_self)
    have ih := ih (fun e q => hC e (List.mem_cons_of_mem _ q))
    unfold gath cutL
    refine ⟨fun h => ?_, fun h => ?_⟩
    · rw [if_neg (show ¬ (p : Int) + e.2.1 ≤ n by omega)]; exact (ih (p + e.2.1.toNat) _ _).1 (by omega)
    · by_cases q : (p : Int) + e.2.1 ≤ n
      · rw [if_pos q, if_neg (show ¬ (p : Int) + e.2.1 > n by omega)]; exact (ih _ _ _).2 rfl
      · rw [if_neg q, if_pos (show (p : Int) + e.2.1 > n by omega), h]; exact (ih (p + e.2.1.toNat) _ _).1 (by omega)
theorem chs_pos (l : List UInt8) : ∀ d, l.length ≤ d → ∀ e ∈ chs l, 0 ≤ e.2.1 := by
  intro d
  induction d generalizing l with
  | zero => intro h; have : l = [] := List.length_eq_zero_iff.1 (by omega); subst this; simp [chs_nil]
  | succ d ih =>
    intro h e he
    by_cases q : l = []
    · subst q; simp [chs_nil] at he
    · have r := stL_range l q
      rw [chs_cons l q] at he
      rcases List.mem_cons.1 he with z | z
      · rw [z]; omega
      · exact ih _ (by rw [List.length_drop]; omega) e z
/-- All characters together are the whole. -/
theorem cut_all (l : List UInt8) (n : Int) (hn : (l.length : Int) ≤ n) : ∀ d p : Nat, l.length - p ≤ d → p ≤ l.length → cutL n p (chs (l.drop p)) = l.length := by
  intro d
  induction d with
  | zero =>
    intro p h1 h2
    have he : l.drop p = [] := List.drop_eq_nil_of_le (by omega)
    rw [he, chs_nil]; unfold cutL; omega
  | succ d ih =>
    intro p h1 h2
    by_cases q : p < l.length
    · have hne : l.drop p ≠ [] := by intro z; have := congrArg List.length z; rw [List.length_drop] at this; simp at this; omega
      obtain ⟨r1, r2, r3⟩ := stL_range _ hne
      rw [List.length_drop] at r2
      rw [chs_cons _ hne]
      unfold cutL
      rw [← r3, if_neg (by omega), Int.toNat_natCast, List.drop_drop]
      exact ih _ (by omega) (by omega)
    · have he : l.drop p = [] := List.drop_eq_nil_of_le (by omega)
      rw [he, chs_nil]; unfold cutL; omega
theorem cutL_le (l : List UInt8) (n : Int) : ∀ d p : Nat, l.length - p ≤ d → p ≤ l.length → cutL n p (chs (l.drop p)) ≤ l.length := by
  intro d
  induction d with
  | zero =>
    intro p h1 h2
    have he : l.drop p = [] := List.drop_eq_nil_of_le (by omega)
    rw [he, chs_nil]; unfold cutL; omega
  | succ d ih =>
    intro p h1 h2
    by_cases q : p < l.length
    · have hne : l.drop p ≠ [] := by intro z; have := congrArg List.length z; rw [List.length_drop] at this; simp at this; omega
      obtain ⟨r1, r2, r3⟩ := stL_range _ hne
      rw [List.length_drop] at r2
      rw [chs_cons _ hne]
      unfold cutL
      split
      · exact h2
      · rw [← r3, Int.toNat_natCast, List.drop_drop]
        exact ih _ (by omega) (by omega)
    · have he : l.drop p = [] := List.drop_eq_nil_of_le (by omega)
      rw [he, chs_nil]; unfold cutL; omega
theorem rd_drop (E : List Int) (i : Nat) (e : Int) (t : List Int) (h : E.drop i = e :: t) : rd E (i : Int) = e ∧ i < E.length ∧ E.drop (i + 1) = t := by
  have hi : i < E.length := by
    rcases Nat.lt_or_ge i E.length with q | q
    · exact q
    · rw [List.drop_eq_nil_of_le q] at h; cases h
  rw [List.drop_eq_getElem_cons hi] at h
  injection h with h1 h2
  exact ⟨by rw [rd_nat _ _ hi, h1], hi, h2⟩
theorem law_l0 (s : ByteArray) (hs : s.size ≤ 1048576) (a n : Int) (E : List Int) (hE : E.length ≤ 1048576) (R : Bool)
    (hfin : ∀ (x : Int × Int) (c : Nat), (x, c) = gath (lb s) a n 0 (1, 1) 0 (chs (lb s)) → Ev (fun k => if a < 0 then claplaw1_UtfPlaces.j1 k s a n x.1 x.2 c 0 true else claplaw1_UtfPlaces.j1 k s a n x.1 x.2 c 0 (decide (a > (s.size : Int)))) R) :
    ∀ (d p i : Nat) (x : Int × Int) (c : Nat), s.size - p ≤ d → p ≤ s.size → E.drop i = endsL p (chs ((lb s).drop p)) → 0 ≤ x.1 ∧ x.1 ≤ p + 1 → 0 ≤ x.2 ∧ x.2 ≤ p + 1 → c ≤ p → gath (lb s) a n p x c (chs ((lb s).drop p)) = gath (lb s) a n 0 (1, 1) 0 (chs (lb s)) →
      Ev (fun k => claplaw1_UtfPlaces.l0 k s a n x.1 x.2 c E (E.length : Int) i) R := by
  have fin : ∀ (p i : Nat) (x : Int × Int) (c : Nat), p ≤ s.size → ¬ p < s.size → E.drop i = endsL p (chs ((lb s).drop p)) → gath (lb s) a n p x c (chs ((lb s).drop p)) = gath (lb s) a n 0 (1, 1) 0 (chs (lb s)) →
      Ev (fun k => claplaw1_UtfPlaces.l0 k s a n x.1 x.2 c E (E.length : Int) i) R := by
    intro p i x c hp q he hg
    have hd : (lb s).drop p = [] := List.drop_eq_nil_of_le (by rw [lb_len]; omega)
    rw [hd, chs_nil] at he hg
    have hi : E.length ≤ i := List.drop_eq_nil_iff.1 he
    apply Ev.succ
    simp only [claplaw1_UtfPlaces.l0, if_neg (show ¬ (i : Int) < E.length by omega)]
    exact hfin x c hg
  intro d
  induction d with
  | zero => intro p i x c h1 h2 he _ _ _ hg; exact fin p i x c h2 (by omega) he hg
  | succ d ih =>
    intro p i x c h1 h2 he hx1 hx2 hc hg
    by_cases q : p < s.size
    · have hne : (lb s).drop p ≠ [] := by intro z; have := congrArg List.length z; rw [List.length_drop, lb_len] at this; simp at this; omega
      obtain ⟨r1, r2, r3⟩ := stL_range _ hne
      have hf := feed _ hne
      rw [nb8_drop, nb8_drop, Nat.add_zero] at hf
      rw [List.length_drop, lb_len] at r2
      rw [chs_cons _ hne] at he hg
      simp only [endsL, ← r3, List.drop_drop] at he
      simp only [gath, ← r3, Int.toNat_natCast, List.drop_drop] at hg
      obtain ⟨g1, g2, g3⟩ := rd_drop _ _ _ _ he
      generalize stL ((lb s).drop p) = m at *
      have hm : (p : Int) + (m : Int) = ((p + m : Nat) : Int) := by omega
      rw [hm] at g1 g3 hg
      apply Ev.succ
      simp only [claplaw1_UtfPlaces.l0, if_pos (show (i : Int) < E.length by omega), if_pos (show (0 : Int) ≤ i by omega), g1]
      have hi1 : wrap64 ((i : Int) + 1) = ((i + 1 : Nat) : Int) := by rw [wrap_eq (by omega) (by omega)]; omega
      have hto : wrap64 (((p + m : Nat) : Int) - 1) = ((p + (m - 1) : Nat) : Int) := by rw [wrap_eq (by omega) (by omega)]; omega
      simp only [hi1, hto, if_pos (show (0 : Int) ≤ ((p + (m - 1) : Nat) : Int) by omega), if_pos (show ((p + (m - 1) : Nat) : Int) < s.size by omega), bt_lb]
      have next : ∀ (x' : Int × Int) (c' : Nat), (0 ≤ x'.1 ∧ x'.1 ≤ (p : Int) + 2) → (0 ≤ x'.2 ∧ x'.2 ≤ (p : Int) + 2) → x' = (if ((p + m : Nat) : Int) ≤ a then lc (decide (nb8 (lb s) p = 10)) x else x) → c' = (if ((p + m : Nat) : Int) ≤ n then p + m else c) → Ev (fun k => claplaw1_UtfPlaces.l0 k s a n x'.1 x'.2 c' E (E.length : Int) ((i + 1 : Nat) : Int)) R := fun x' c' b1 b2 e1 e2 => by
        subst e1 e2
        exact ih (p + m) (i + 1) _ _ (by omega) (by omega) g3 ⟨b1.1, by omega⟩ ⟨b2.1, by omega⟩ (by split <;> omega) hg
      by_cases t1 : ((p + m : Nat) : Int) ≤ a
      · simp only [if_pos t1] at next ⊢
        by_cases t2 : nb8 (lb s) (p + (m - 1)) = 10
        · simp only [if_pos t2]
          have t3 := hf.1 t2
          simp only [lc, decide_eq_true t3, if_true] at next
          rw [wrap_eq (x := x.1 + 1) (by omega) (by omega)]
          by_cases t4 : ((p + m : Nat) : Int) ≤ n
          · simp only [if_pos t4] at next ⊢
            exact next (x.1 + 1, 1) _ ⟨by simp only; omega, by simp only; omega⟩ ⟨by simp only; omega, by simp only; omega⟩ rfl rfl
          · simp only [if_neg t4] at next ⊢
            exact next (x.1 + 1, 1) _ ⟨by simp only; omega, by simp only; omega⟩ ⟨by simp only; omega, by simp only; omega⟩ rfl rfl
        · simp only [if_neg t2]
          have t3 : ¬ nb8 (lb s) p = 10 := fun z => t2 (hf.2 z)
          simp only [lc, decide_eq_false t3, Bool.false_eq_true, if_false] at next
          rw [wrap_eq (x := x.2 + 1) (by omega) (by omega)]
          by_cases t4 : ((p + m : Nat) : Int) ≤ n
          · simp only [if_pos t4] at next ⊢
            exact next (x.1, x.2 + 1) _ ⟨by simp only; omega, by simp only; omega⟩ ⟨by simp only; omega, by simp only; omega⟩ rfl rfl
          · simp only [if_neg t4] at next ⊢
            exact next (x.1, x.2 + 1) _ ⟨by simp only; omega, by simp only; omega⟩ ⟨by simp only; omega, by simp only; omega⟩ rfl rfl
      · simp only [if_neg t1] at next ⊢
        by_cases t4 : ((p + m : Nat) : Int) ≤ n
        · simp only [if_pos t4] at next ⊢
          exact next x _ ⟨by omega, by omega⟩ ⟨by omega, by omega⟩ rfl rfl
        · simp only [if_neg t4] at next ⊢
          exact next x _ ⟨by omega, by omega⟩ ⟨by omega, by omega⟩ rfl rfl
    · exact fin p i x c h2 q he hg
theorem cut_f (s : ByteArray) (hs : s.size ≤ 1048576) (n : Int) : Ev (fun k => utf_Cut.f k s n) (s.extract 0 (cutL n 0 (chs (lb s)))) := by
  by_cases q : n ≥ s.size
  · simp only [utf_Cut.f, if_pos q]
    have := cut_all (lb s) n (by rw [lb_len]; omega) _ 0 (Nat.le_refl _) (by omega)
    rw [List.drop_zero] at this
    rw [this, lb_len]
    have : s.extract 0 s.size = s := lb_ext (by rw [lb_upto, ← lb_len, List.take_length])
    rw [this]; exact Ev.now _
  · simp only [utf_Cut.f, if_neg q]
    have := cut_ev s hs n (by omega) s.size 0 (by omega) (.inr rfl) (by omega)
    rw [List.drop_zero] at this
    exact this
theorem UtfPlaces (a0 : ByteArray) (a1 a2 : Int) (h0 : a0.size ≤ 1048576) (_ : (Lit.int .i64 a1).wf = true) (_ : (Lit.int .i64 a2).wf = true) : ∃ k, claplaw1_UtfPlaces.f k a0 a1 a2 = some true := by
  refine Ev.rounds (g := fun k => claplaw1_UtfPlaces.f k a0 a1 a2) ?_
  simp only [claplaw1_UtfPlaces.f]
  refine Ev.bind (chars_f a0 h0) ?_
  have hlen := chs_length (lb a0) _ (Nat.le_refl _)
  rw [lb_len] at hlen
  have hpos := chs_pos (lb a0) _ (Nat.le_refl _)
  refine law_l0 a0 h0 a1 a2 (endsL 0 (chs (lb a0))) (by rw [endsL_length]; omega) true ?_ a0.size 0 0 (1, 1) 0 (by omega) (by omega) (by simp) (by simp) (by simp) (by omega) (by simp)
  intro x c hg
  have hp := (gath_place (lb a0) a1 a2 _ hpos 0 (1, 1) 0).2
  have hc := (gath_cut (lb a0) a1 a2 _ hpos 0 (1, 1) 0).2 rfl
  rw [← hg] at hp hc
  simp only at hp hc
  have hcl := cutL_le (lb a0) a2 _ 0 (Nat.le_refl _) (by omega)
  rw [List.drop_zero, lb_len, ← hc] at hcl
  have hcut := cut_f a0 h0 a2
  rw [← hc] at hcut
  have out : utf_Place.f = utf_Place.f → (a1 < 0 ∨ a1 > a0.size) → Ev (fun k => claplaw1_UtfPlaces.j1 k a0 a1 a2 x.1 x.2 c 0 true) true := fun _ q => by
    apply Ev.succ
    simp only [claplaw1_UtfPlaces.j1, if_true]
    have : Ev (fun k => utf_Place.f k a0 a1) (0, 0, 11) := by
      have z : Ev (fun k => utf_Place.j0 k a0 a1 true) (0, 0, 11) := by apply Ev.succ; simp only [utf_Place.j0, if_true]; exact Ev.now _
      by_cases w : a1 < 0
      · simp only [utf_Place.f, if_pos w]; exact z
      · simp only [utf_Place.f, if_neg w, decide_eq_true (show a1 > a0.size by omega)]; exact z
    refine Ev.bind this (Ev.opt coded_f ?_)
    simp only [if_true]
    refine Ev.bind hcut ?_
    simp only [if_pos (show (0 : Int) ≤ (c : Int) by omega), if_pos (show (c : Int) ≤ a0.size by omega), Int.toNat_natCast]
    rw [show ((a0.extract 0 c).toList == (a0.extract 0 c).toList) = true from beq_self_eq_true _]; exact Ev.now _
  by_cases q1 : a1 < 0
  · simp only [if_pos q1]; exact out rfl (.inl q1)
  · simp only [if_neg q1]
    by_cases q2 : a1 > a0.size
    · simp only [decide_eq_true q2]; exact out rfl (.inr q2)
    · simp only [decide_eq_false q2]
      apply Ev.succ
      simp only [claplaw1_UtfPlaces.j1, Bool.false_eq_true, if_false]
      have hpl := place_ev a0 h0 a1 (by omega) a0.size 0 (1, 1) (by omega) (by omega) (by omega) (by simp) (by simp)
      rw [List.drop_zero, ← hp] at hpl
      have : Ev (fun k => utf_Place.f k a0 a1) (x.1, x.2, 0) := by
        simp only [utf_Place.f, if_neg q1, decide_eq_false q2]
        apply Ev.succ; simp only [utf_Place.j0, Bool.false_eq_true, if_false]; exact hpl
      refine Ev.bind this (Ev.opt coded_f ?_)
      simp only [if_true]
      refine Ev.bind hcut ?_
      simp only [if_pos (show (0 : Int) ≤ (c : Int) by omega), if_pos (show (c : Int) ≤ a0.size by omega), Int.toNat_natCast]
      rw [show ((a0.extract 0 c).toList == (a0.extract 0 c).toList) = true from beq_self_eq_true _]; exact Ev.now _
end Go.Proofs.Ytilffmhmgoaejaa.PUtf
