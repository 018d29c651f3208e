/- What the printed functions of utf and its reference compute: all characters of a string. No statement is proved here. -/
import Derived.Test.YtnbdmmepdmmbmaaDoorUtfEv
namespace Go.Proofs.YtnbdmmepdmmbmaaDoor.PUtf
open Go.RowKit Go.Proofs.YtnbdmmepdmmbmaaDoorW.PrintWords Go.Proofs.YtnbdmmepdmmbmaaDoorW.PrintLast Go.Proofs.YtnbdmmepdmmbmaaDoorW.PrintMore Go.Proofs.YtnbdmmepdmmbmaaDoor Go.Proofs.YtnbdmmepdmmbmaaDoor.Plug
set_option linter.unusedVariables false
set_option linter.unusedSimpArgs false
theorem nxL_range (l : List UInt8) : (nxL l).2 = 0 ∨ (1 ≤ (nxL l).2 ∧ (l ≠ [] → (nxL l).2 ≤ l.length)) := by
  have h := nxI_cand l.length (nb8 l 0) (nb8 l 1) (nb8 l 2) (nb8 l 3) (nb8_range _ _) (nb8_range _ _) (nb8_range _ _) (nb8_range _ _)
  have hl : l ≠ [] → 1 ≤ l.length := fun q => List.length_pos_iff.2 q
  unfold nxL
  rcases h with h | h | h | h | h
  · exact .inl (by rw [h])
  · refine .inr ⟨by rw [h.1]; show (1 : Int) ≤ 1; omega, fun q => by rw [h.1]; show (1 : Int) ≤ _; have := hl q; omega⟩
  · refine .inr ⟨by rw [h.1]; show (1 : Int) ≤ 2; omega, fun q => by rw [h.1]; show (2 : Int) ≤ _; omega⟩
  · refine .inr ⟨by rw [h.1]; show (1 : Int) ≤ 3; omega, fun q => by rw [h.1]; show (3 : Int) ≤ _; omega⟩
  · refine .inr ⟨by rw [h.1]; show (1 : Int) ≤ 4; omega, fun q => by rw [h.1]; show (4 : Int) ≤ _; omega⟩
/-- How many bytes the first character has. -/
def stL (l : List UInt8) : Nat := (chL l).2.1.toNat
theorem stL_range (l : List UInt8) (h : l ≠ []) : 1 ≤ stL l ∧ stL l ≤ l.length ∧ ((stL l : Nat) : Int) = (chL l).2.1 := by
  have h2 := nxL_range l
  have hl : 1 ≤ l.length := List.length_pos_iff.2 h
  unfold stL chL
  rcases h2 with q | ⟨q1, q2⟩
  · rw [if_pos q]; exact ⟨by decide, hl, by decide⟩
  · rw [if_neg (by omega)]; have := q2 h; simp only; omega
def chF : Nat → List UInt8 → List (Int × Int × Bool)
  | 0, _ => []
  | n + 1, l => if l = [] then [] else chL l :: chF n (l.drop (stL l))
theorem chF_more : ∀ (n m : Nat) (l : List UInt8), l.length ≤ n → l.length ≤ m → chF n l = chF m l
  | 0, m, l, h, _ => by
    have : l = [] := List.length_eq_zero_iff.1 (by omega)
    subst this
    cases m <;> simp [chF]
  | n + 1, 0, l, _, h => by
    have : l = [] := List.length_eq_zero_iff.1 (by omega)
    subst this
    simp [chF]
  | n + 1, m + 1, l, h1, h2 => by
    simp only [chF]
    by_cases q : l = []
    · rw [if_pos q, if_pos q]
    · have := stL_range l q
      rw [if_neg q, if_neg q, chF_more n m _ (by rw [List.length_drop]; omega) (by rw [List.length_drop]; omega)]
/-- All characters of bytes: code point, bytes, is it one. -/
def chs (l : List UInt8) : List (Int × Int × Bool) := chF l.length l
theorem chs_nil : chs [] = [] := rfl
theorem chs_cons (l : List UInt8) (h : l ≠ []) : chs l = chL l :: chs (l.drop (stL l)) := by
  obtain ⟨n, hn⟩ : ∃ n, l.length = n + 1 := ⟨l.length - 1, by have := List.length_pos_iff.2 h; omega⟩
  have := stL_range l h
  have e := chF_more n (l.drop (stL l)).length (l.drop (stL l)) (by rw [List.length_drop]; omega) (Nat.le_refl _)
  unfold chs
  rw [hn, ← e]
  simp only [chF, if_neg h]
def endsL (a : Int) : List (Int × Int × Bool) → List Int
  | [] => []
  | c :: t => (a + c.2.1) :: endsL (a + c.2.1) t
theorem chars_ev (s : ByteArray) (hs : s.size ≤ 1048576) : ∀ (d at_ : Nat) (x2 x4 : List Int) (x3 : List Bool), s.size - at_ ≤ d → at_ ≤ s.size → x2.length ≤ at_ → x3.length ≤ at_ → x4.length ≤ at_ →
    Ev (fun k => clapref1_Characters.l0 k s x2 x3 x4 at_) (x2 ++ endsL at_ (chs ((lb s).drop at_)), x3 ++ (chs ((lb s).drop at_)).map (·.2.2), x4 ++ (chs ((lb s).drop at_)).map (·.1)) := by
    intro d
    induction d with
    | zero =>
      intro at_ x2 x4 x3 hd ha h2 h3 h4
      apply Ev.succ
      have he : (lb s).drop at_ = [] := List.drop_eq_nil_of_le (by rw [lb_len]; omega)
      simp only [clapref1_Characters.l0, if_neg (show ¬ (at_ : Int) < s.size by omega), he, chs_nil, endsL, List.map_nil, List.append_nil]
      exact Ev.now _
    | succ d ih =>
    intro at_ x2 x4 x3 hd ha h2 h3 h4
    apply Ev.succ
    by_cases q : at_ < s.size
    · have hne : (lb s).drop at_ ≠ [] := by intro z; have := congrArg List.length z; rw [List.length_drop, lb_len] at this; simp at this; omega
      obtain ⟨r1, r2, r3⟩ := stL_range _ hne
      rw [List.length_drop, lb_len] at r2
      simp only [clapref1_Characters.l0, if_pos (show (at_ : Int) < s.size by omega), if_pos (show (0 : Int) ≤ at_ by omega), if_pos (show (at_ : Int) ≤ s.size by omega), Int.toNat_natCast]
      have hsz : (s.extract at_ s.size).size = s.size - at_ := by rw [← lb_len, lb_from, List.length_drop, lb_len]
      have hc := chr_ev (s.extract at_ s.size) (by omega)
      rw [lb_from] at hc
      refine Ev.bind hc ?_
      rw [chs_cons _ hne]
      simp only [if_pos (show x2.length < 17592186044416 by omega), if_pos (show x3.length < 140737488355328 by omega), if_pos (show x4.length < 17592186044416 by omega), ← r3]
      rw [wrap_eq (by omega) (by omega)]
      have he : (at_ : Int) + (stL ((lb s).drop at_) : Nat) = ((at_ + stL ((lb s).drop at_) : Nat) : Int) := by omega
      rw [he]
      · have ih := ih (at_ + stL ((lb s).drop at_)) (x2 ++ [((at_ + stL ((lb s).drop at_) : Nat) : Int)]) (x4 ++ [(chL ((lb s).drop at_)).1]) (x3 ++ [(chL ((lb s).drop at_)).2.2]) (by omega) (by omega) (by simp; omega) (by simp; omega) (by simp; omega)
        simpa only [List.append_assoc, List.singleton_append, List.map_cons, endsL, ← r3, he, List.drop_drop, List.cons_append, List.nil_append] using ih
    · have he : (lb s).drop at_ = [] := List.drop_eq_nil_of_le (by rw [lb_len]; omega)
      simp only [clapref1_Characters.l0, if_neg (show ¬ (at_ : Int) < s.size by omega), he, chs_nil, endsL, List.map_nil, List.append_nil]
      exact Ev.now _
theorem chL_good (l : List UInt8) : (nxL l).2 = 0 ∧ chL l = (0, 1, false) ∨ (nxL l).2 ≠ 0 ∧ chL l = ((nxL l).1, (nxL l).2, true) := by
  unfold chL
  by_cases h : (nxL l).2 = 0
  · rw [if_pos h]; exact .inl ⟨h, rfl⟩
  · rw [if_neg h]; exact .inr ⟨h, rfl⟩
theorem okR_okZ (r : Int) : okR r = okZ r := rfl
theorem encL_encU (r : Int) (h : okZ r = true) : encL r.toNat = encU r := by
  rw [encU, if_pos h]
  rw [okZ_iff] at h
  obtain ⟨n, rfl⟩ : ∃ n : Nat, r = n := ⟨r.toNat, by omega⟩
  rw [Int.toNat_natCast]
  unfold encL encZ
  have c : ∀ a b : Nat, ((a : Int) + ((b : Nat) : Int)).toNat = a + b := fun a b => by omega
  have d1 : ((n : Int) < 128) = (n < 128) := by rw [eq_iff_iff]; omega
  have d2 : ((n : Int) < 2048) = (n < 2048) := by rw [eq_iff_iff]; omega
  have d3 : ((n : Int) < 65536) = (n < 65536) := by rw [eq_iff_iff]; omega
  simp only [d1, d2, d3]
  by_cases c1 : n < 128
  · simp only [if_pos c1]; simp
  by_cases c2 : n < 2048
  · simp only [if_neg c1, if_pos c2, List.map_cons, List.map_nil, List.cons.injEq, and_true]
    refine ⟨?_, ?_⟩ <;> (congr 1 <;> omega)
  by_cases c3 : n < 65536
  · simp only [if_neg c1, if_neg c2, if_pos c3, List.map_cons, List.map_nil, List.cons.injEq, and_true]
    refine ⟨?_, ?_, ?_⟩ <;> (congr 1 <;> omega)
  · simp only [if_neg c1, if_neg c2, if_neg c3, List.map_cons, List.map_nil, List.cons.injEq, and_true]
    refine ⟨?_, ?_, ?_, ?_⟩ <;> (congr 1 <;> omega)
theorem encs_all (l : List Int) (h : l.all okZ = true) : encs l = l.flatMap encU := by
  unfold encs
  induction l with
  | nil => rfl
  | cons a t ih =>
    simp only [List.all_cons, Bool.and_eq_true] at h
    simp only [List.flatMap_cons]
    rw [ih h.2, encL_encU a h.1]
theorem coded_f : claplaw1_coded.f = some true := by
  have e : utf_Text.f ([233] : List Int) = some (⟨#[195, 169]⟩, 0) := by
    unfold utf_Text.f; rw [if_pos (by decide), if_pos (by decide)]
    have : encs [233] = [195, 169] := by decide
    rw [this]
  unfold claplaw1_coded.f
  rw [e]
  simp only [Option.bind_some, if_true, lb_toList]
  rfl
theorem endsL_length (C : List (Int × Int × Bool)) : ∀ a, (endsL a C).length = C.length := by
  induction C with
  | nil => intro a; rfl
  | cons c t ih => intro a; simp [endsL, ih]
theorem chs_length (l : List UInt8) : ∀ d, l.length ≤ d → (chs l).length ≤ l.length := by
  intro d
  induction d generalizing l with
  | zero => intro h; have : l = [] := List.length_eq_zero_iff.1 (by omega); subst this; simp [chs_nil]
  | succ d ih =>
    intro h
    by_cases q : l = []
    · subst q; simp [chs_nil]
    · have := stL_range l q
      have i2 := ih (l.drop (stL l)) (by rw [List.length_drop]; omega)
      rw [List.length_drop] at i2
      rw [chs_cons l q, List.length_cons]; omega
theorem chars_f (s : ByteArray) (hs : s.size ≤ 1048576) : Ev (fun k => clapref1_Characters.f k s) (endsL 0 (chs (lb s)), (chs (lb s)).map (·.2.2), (chs (lb s)).map (·.1)) := by
  have := chars_ev s hs s.size 0 [] [] [] (by omega) (by omega) (by simp) (by simp) (by simp)
  rw [List.drop_zero] at this
  simp only [clapref1_Characters.f]; exact this
theorem rd_nat (l : List Int) (i : Nat) (h : i < l.length) : rd l (i : Int) = l[i] := by
  unfold rd; rw [Int.toNat_natCast, List.getD_eq_getElem?_getD, List.getElem?_eq_getElem h]; rfl
theorem encU_len (r : Int) : (encU r).length ≤ 4 := by
  unfold encU encZ; repeat' split
  all_goals simp
theorem flat_len (l : List Int) : (l.flatMap encU).length ≤ 4 * l.length := by
  induction l with
  | nil => simp
  | cons a t ih => have := encU_len a; simp only [List.flatMap_cons, List.length_append, List.length_cons] at *; omega
end Go.Proofs.YtnbdmmepdmmbmaaDoor.PUtf
