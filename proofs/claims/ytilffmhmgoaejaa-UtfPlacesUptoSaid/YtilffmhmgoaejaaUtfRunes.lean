/- What the printed functions of utf and its reference compute: all characters of a string. No statement is proved here. -/
import Derived.Test.YtilffmhmgoaejaaUtfEv
namespace Go.Proofs.Ytilffmhmgoaejaa.PUtf
open Go.RowKit Go.Proofs.YtilffmhmgoaejaaW.PrintWords Go.Proofs.YtilffmhmgoaejaaW.PrintLast Go.Proofs.YtilffmhmgoaejaaW.PrintMore Go.Proofs.Ytilffmhmgoaejaa Go.Proofs.Ytilffmhmgoaejaa.Plug
set_option linter.unusedVariables false
set_option linter.unusedSimpArgs false
theorem nxL_range (l : List UInt8) : (nxL l).2 = 0 ∨ (1 ≤ (nxL l).2 ∧ (l ≠ [] → (nxL l).2 ≤ l.length)) := by
  have h := nxI_cand l.length (nb8 l 0) (nb8 l 1) (nb8 l 2) (nb8 l 3) (nb8_range _ _) (nb8_range _ _) (nb8_range _ _) (nb8_range _ _)
  have hl : l ≠ [] → 1 ≤ l.length := fun q => List.length_pos_iff.2 q
  unfold nxL
  rcases h with h | h | h | h | h
  · exact .inl (by rw [h])
  · refine .inr ⟨by rw [h.1]; show (1 : Int) ≤ 1; omega, fun q => by rw [h.1]; show (1 : Int) ≤ _; have := hl q; omega⟩
  · refine .inr ⟨by rw [h.1]; show (1 : Int) ≤ 2; omega, fun q => by rw [h.1]; show (2 : Int) ≤ _; omega⟩
  · refine .inr ⟨by rw [h.1]; show (1 : Int) ≤ 3; omega, fun q => by rw [h.1]; show (3 : Int) ≤ _; omega⟩
  · refine .inr ⟨by rw [h.1]; show (1 : Int) ≤ 4; omega, fun q => by rw [h.1]; show (4 : Int) ≤ _; omega⟩
/-- How many bytes the first character has. -/
def stL (l : List UInt8) : Nat := (chL l).2.1.toNat
theorem stL_range (l : List UInt8) (h : l ≠ []) : 1 ≤ stL l ∧ stL l ≤ l.length ∧ ((stL l : Nat) : Int) = (chL l).2.1 := by
  have h2 := nxL_range l
  have hl : 1 ≤ l.length := List.length_pos_iff.2 h
  unfold stL chL
  rcases h2 with q | ⟨q1, q2⟩
  · rw [if_pos q]; exact ⟨by decide, hl, by decide⟩
  · rw [if_neg (by omega)]; have := q2 h; simp only; omega
def chF : Nat → List UInt8 → List (Int × Int × Bool)
  | 0, _ => []
  | n + 1, l => if l = [] then [] else chL l :: chF n (l.drop (stL l))
theorem chF_more : ∀ (n m : Nat) (l : List UInt8), l.length ≤ n → l.length ≤ m → chF n l = chF m l
  | 0, m, l, h, _ => by
    have : l = [] := List.length_eq_zero_iff.1 (by omega)
    subst this
    cases m <;> simp [chF]
  | n + 1, 0, l, _, h => by
    have : l = [] := List.length_eq_zero_iff.1 (by omega)
    subst this
    simp [chF]
  | n + 1, m + 1, l, h1, h2 => by
    simp only [chF]
    by_cases q : l = []
    · rw [if_pos q, if_pos q]
    · have := stL_range l q
      rw [if_neg q, if_neg q, chF_more n m _ (by rw [List.length_drop]; omega) (by rw [List.length_drop]; omega)]
/-- All characters of bytes: code point, bytes, is it one. -/
def chs (l : List UInt8) : List (Int × Int × Bool) := chF l.length l
theorem chs_nil : chs [] = [] := rfl
theorem chs_cons (l : List UInt8) (h : l ≠ []) : chs l = chL l :: chs (l.drop (stL l)) := by
  obtain ⟨n, hn⟩ : ∃ n, l.length = n + 1 := ⟨l.length - 1, by have := List.length_pos_iff.2 h; omega⟩
  have := stL_range l h
  have e := chF_more n (l.drop (stL l)).length (l.drop (stL l)) (by rw [List.length_drop]; omega) (Nat.le_refl _)
  unfold chs
  rw [hn, ← e]
  simp only [chF, if_neg h]
def endsL (a : Int) : List (Int × Int × Bool) → List Int
  | [] => []
  | c :: t => (a + c.2.1) :: endsL (a + c.2.1) t
theorem chars_ev (s : ByteArray) (hs : s.size ≤ 1048576) : ∀ (d at_ : Nat) (x2 x4 : List Int) (x3 : List Bool), s.size - at_ ≤ d → at_ ≤ s.size → x2.length ≤ at_ → x3.length ≤ at_ → x4.length ≤ at_ →
    Ev (fun k => clapref1_Characters.l0 k s x2 x3 x4 at_) (x2 ++ endsL at_ (chs ((lb s).drop at_)), x3 ++ (chs ((lb s).drop at_)).map (·.2.2), x4 ++ (chs ((lb s).drop at_)).map (·.1)) := by
    intro d
    induction d with
    | zero =>
      intro at_ x2 x4 x3 hd ha h2 h3 h4
      apply Ev.succ
      have he : (lb s).drop at_ = [] := List.drop_eq_nil_of_le (by rw [lb_len]; omega)
      simp only [clapref1_Characters.l0, if_neg (show ¬ (at_ : Int) < s.size by omega), he, chs_nil, endsL, List.map_nil, List.append_nil]
      exact Ev.now _
    | succ d ih =>
    intro at_ x2 x4 x3 hd ha h2 h3 h4
    apply Ev.succ
    by_cases q : at_ < s.size
    · have hne : (lb s).drop at_ ≠ [] := by intro z; have := congrArg List.length z; rw [List.length_drop, lb_len] at this; simp at this; omega
      obtain ⟨r1, r2, r3⟩ := stL_range _ hne
      rw [List.length_drop, lb_len] at r2
      simp only [clapref1_Characters.l0, if_pos (show (at_ : Int) < s.size by omega), if_pos (show (0 : Int) ≤ at_ by omega), if_pos (show (at_ : Int) ≤ s.size by omega), Int.toNat_natCast]
      have hsz : (s.extract at_ s.size).size = s.size - at_ := by rw [← lb_len, lb_from, List.length_drop, lb_len]
      have hc := chr_ev (s.extract at_ s.size) (by omega)
      rw [lb_from] at hc
      refine Ev.bind hc ?_
      rw [chs_cons _ hne]
      simp only [if_pos (show x2.length < 17592186044416 by omega), if_pos (show x3.length < 140737488355328 by omega), if_pos (show x4.length < 17592186044416 by omega), ← r3]
      rw [wrap_eq (by omega) (by omega)]
      have he : (at_ : Int) + (stL ((lb s).drop at_) : Nat) = ((at_ + stL ((lb s).drop at_) : Nat) : Int) := by omega
      rw [he]
      · have ih := ih (at_ + stL ((lb s).drop at_)) (x2 ++ [((at_ + stL ((lb s).drop at_) : Nat) : Int)]) (x4 ++ [(chL ((lb s).drop at_)).1]) (x3 ++ [(chL ((lb s).drop at_)).2.2]) (by omega) (by omega) (by simp; omega) (by simp; omega) (by simp; omega)
        simpa only [List.append_assoc, List.singleton_append, List.map_cons, endsL, ← r3, he, List.drop_drop, List.cons_append, List.nil_append] using ih
    · have he : (lb s).drop at_ = [] := List.drop_eq_nil_of_le (by rw [lb_len]; omega)
      simp only [clapref1_Characters.l0, if_neg (show ¬ (at_ : Int) < s.size by omega), he, chs_nil, endsL, List.map_nil, List.append_nil]
      exact Ev.now _
/-- What Runes tells of the characters from a place on. -/
def runesL (x : List Int) (a : Int) : List (Int × Int × Bool) → List Int × Int × Int
  | [] => (x, 0, 0)
  | c :: t => if c.2.2 = true then runesL (x ++ [c.1]) (a + c.2.1) t else ([], a, 3)
theorem chL_good (l : List UInt8) : (nxL l).2 = 0 ∧ chL l = (0, 1, false) ∨ (nxL l).2 ≠ 0 ∧ chL l = ((nxL l).1, (nxL l).2, true) := by
  unfold chL
  by_cases h : (nxL l).2 = 0
  · rw [if_pos h]; exact .inl ⟨h, rfl⟩
  · rw [if_neg h]; exact .inr ⟨h, rfl⟩
theorem runes_ev (s : ByteArray) (hs : s.size ≤ 1048576) : ∀ (d at_ : Nat) (x : List Int), s.size - at_ ≤ d → at_ ≤ s.size → x.length ≤ at_ →
    Ev (fun k => utf_Runes.l0 k s x at_) (runesL x at_ (chs ((lb s).drop at_))) := by
    intro d
    induction d with
    | zero =>
      intro at_ x hd ha hx
      apply Ev.succ
      have he : (lb s).drop at_ = [] := List.drop_eq_nil_of_le (by rw [lb_len]; omega)
      simp only [utf_Runes.l0, if_neg (show ¬ (at_ : Int) < s.size by omega), he, chs_nil, runesL]
      exact Ev.now _
    | succ d ih =>
    intro at_ x hd ha hx
    apply Ev.succ
    by_cases q : at_ < s.size
    · have hne : (lb s).drop at_ ≠ [] := by intro z; have := congrArg List.length z; rw [List.length_drop, lb_len] at this; simp at this; omega
      obtain ⟨r1, r2, r3⟩ := stL_range _ hne
      rw [List.length_drop, lb_len] at r2
      simp only [utf_Runes.l0, if_pos (show (at_ : Int) < s.size by omega), if_pos (show (0 : Int) ≤ at_ by omega), if_pos (show (at_ : Int) ≤ s.size by omega), Int.toNat_natCast]
      have hsz : (s.extract at_ s.size).size = s.size - at_ := by rw [← lb_len, lb_from, List.length_drop, lb_len]
      have hc := next_ev (s.extract at_ s.size) (by omega)
      rw [lb_from] at hc
      refine Ev.bind hc ?_
      rw [chs_cons _ hne]
      rcases chL_good ((lb s).drop at_) with ⟨g1, g2⟩ | ⟨g1, g2⟩
      · simp only [if_pos g1, g2, runesL, Bool.false_eq_true, if_false]; exact Ev.now _
      · have e2 : (nxL ((lb s).drop at_)).2 = (stL ((lb s).drop at_) : Nat) := by rw [r3, g2]
        have e1 : (chL ((lb s).drop at_)).1 = (nxL ((lb s).drop at_)).1 := by rw [g2]
        have e3 : (chL ((lb s).drop at_)).2.2 = true := by rw [g2]
        simp only [if_neg g1, if_pos (show x.length < 17592186044416 by omega)]
        rw [e2, wrap_eq (by omega) (by omega)]
        have he : (at_ : Int) + (stL ((lb s).drop at_) : Nat) = ((at_ + stL ((lb s).drop at_) : Nat) : Int) := by omega
        rw [he]
        · have ih := ih (at_ + stL ((lb s).drop at_)) (x ++ [(nxL ((lb s).drop at_)).1]) (by omega) (by omega) (by simp; omega)
          simp only [runesL, e3, if_true, e1, ← r3, he, ← List.drop_drop]
          rw [← List.drop_drop] at ih
          exact ih
    · have he : (lb s).drop at_ = [] := List.drop_eq_nil_of_le (by rw [lb_len]; omega)
      simp only [utf_Runes.l0, if_neg (show ¬ (at_ : Int) < s.size by omega), he, chs_nil, runesL]
      exact Ev.now _
end Go.Proofs.Ytilffmhmgoaejaa.PUtf
