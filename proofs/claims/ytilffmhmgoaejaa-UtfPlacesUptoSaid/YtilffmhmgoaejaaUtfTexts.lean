/- The plain statement of the law UtfTexts: at all numbers, lists and strings of at most 1048576 parts its function returns true. -/
import Derived.Test.YtilffmhmgoaejaaUtfRunes
namespace Go.Proofs.Ytilffmhmgoaejaa.PUtf
open Go.RowKit Go.Proofs.YtilffmhmgoaejaaW.PrintWords Go.Proofs.YtilffmhmgoaejaaW.PrintLast Go.Proofs.YtilffmhmgoaejaaW.PrintMore Go.Proofs.Ytilffmhmgoaejaa Go.Proofs.Ytilffmhmgoaejaa.Plug
set_option linter.unusedVariables false
set_option linter.unusedSimpArgs false
theorem okR_okZ (r : Int) : okR r = okZ r := rfl
theorem encL_encU (r : Int) (h : okZ r = true) : encL r.toNat = encU r := by
  rw [encU, if_pos h]
  rw [okZ_iff] at h
  obtain ⟨n, rfl⟩ : ∃ n : Nat, r = n := ⟨r.toNat, by omega⟩
  rw [Int.toNat_natCast]
  unfold encL encZ
  have c : ∀ a b : Nat, ((a : Int) + ((b : Nat) : Int)).toNat = a + b := fun a b => by omega
  have d1 : ((n : Int) < 128) = (n < 128) := by rw [eq_iff_iff]; omega
  have d2 : ((n : Int) < 2048) = (n < 2048) := by rw [eq_iff_iff]; omega
  have d3 : ((n : Int) < 65536) = (n < 65536) := by rw [eq_iff_iff]; omega
  simp only [d1, d2, d3]
  by_cases c1 : n < 128
  · simp only [if_pos c1]; simp
  by_cases c2 : n < 2048
  · simp only [if_neg c1, if_pos c2, List.map_cons, List.map_nil, List.cons.injEq, and_true]
    refine ⟨?_, ?_⟩ <;> (congr 1 <;> omega)
  by_cases c3 : n < 65536
  · simp only [if_neg c1, if_neg c2, if_pos c3, List.map_cons, List.map_nil, List.cons.injEq, and_true]
    refine ⟨?_, ?_, ?_⟩ <;> (congr 1 <;> omega)
  · simp only [if_neg c1, if_neg c2, if_neg c3, List.map_cons, List.map_nil, List.cons.injEq, and_true]
    refine ⟨?_, ?_, ?_, ?_⟩ <;> (congr 1 <;> omega)
theorem encs_all (l : List Int) (h : l.all okZ = true) : encs l = l.flatMap encU := by
  unfold encs
  induction l with
  | nil => rfl
  | cons a t ih =>
    simp only [List.all_cons, Bool.and_eq_true] at h
    simp only [List.flatMap_cons]
    rw [ih h.2, encL_encU a h.1]
theorem coded_f : claplaw1_coded.f = some true := by
  have e : utf_Text.f ([233] : List Int) = some (⟨#[195, 169]⟩, 0) := by
    unfold utf_Text.f; rw [if_pos (by decide), if_pos (by decide)]
    have : encs [233] = [195, 169] := by decide
    rw [this]
  unfold claplaw1_coded.f
  rw [e]
  simp only [Option.bind_some, if_true, lb_toList]
  rfl
/-! equal lists -/
theorem equal_ev (l : List Int) (hl : l.length ≤ 1048576) : Ev (fun k => slices_Equal_int_int.f k l l) true := by
  simp only [slices_Equal_int_int.f, if_true]
  have key : ∀ d i : Nat, l.length - i ≤ d → i ≤ l.length → Ev (fun k => slices_Equal_int_int.l0 k l l (l.length : Int) (i : Int)) true := by
    intro d
    induction d with
    | zero =>
      intro i h1 h2
      apply Ev.succ
      simp only [slices_Equal_int_int.l0, if_neg (show ¬ (i : Int) < l.length by omega)]; exact Ev.now _
    | succ d ih =>
      intro i h1 h2
      by_cases q : i < l.length
      · apply Ev.succ
        have := ih (i + 1) (by omega) (by omega)
        simp only [slices_Equal_int_int.l0, if_pos (show (i : Int) < l.length by omega), if_pos (show (0 : Int) ≤ i by omega), if_true]
        rw [wrap_eq (by omega) (by omega)]
        exact_mod_cast this
      · apply Ev.succ
        simp only [slices_Equal_int_int.l0, if_neg (show ¬ (i : Int) < l.length by omega)]; exact Ev.now _
  exact key l.length 0 (by omega) (by omega)
/-! the first bad one -/
def fbad : List Bool → Nat
  | [] => 0
  | b :: t => if b = true then fbad t + 1 else 0
theorem fbad_cons (b : Bool) (t : List Bool) : fbad (b :: t) = if b = true then fbad t + 1 else 0 := rfl
theorem fbad_le (l : List Bool) : fbad l ≤ l.length := by
  induction l with
  | nil => simp [fbad]
  | cons b t ih => unfold fbad; split <;> simp <;> omega
theorem fbad_drop (l : List Bool) (i : Nat) (h : i ≤ fbad l) : fbad l = i + fbad (l.drop i) := by
  induction i generalizing l with
  | zero => simp
  | succ i ih =>
    cases l with
    | nil => simp [fbad] at h
    | cons b t =>
      rw [fbad_cons] at h ⊢
      by_cases q : b = true
      · rw [if_pos q] at h ⊢
        rw [ih t (by omega), List.drop_succ_cons]; omega
      · rw [if_neg q] at h; omega
theorem index_ev (l : List Bool) (hl : l.length ≤ 1048576) : Ev (fun k => slices_Index_bool_bool.f k l false) (if fbad l < l.length then (fbad l : Int) else -1) := by
  simp only [slices_Index_bool_bool.f]
  have key : ∀ d i : Nat, l.length - i ≤ d → i ≤ fbad l → Ev (fun k => slices_Index_bool_bool.l0 k l false (l.length : Int) (i : Int)) (if fbad l < l.length then (fbad l : Int) else -1) := by
    intro d
    induction d with
    | zero =>
      intro i h1 h2
      have := fbad_le l
      apply Ev.succ
      simp only [slices_Index_bool_bool.l0, if_neg (show ¬ (i : Int) < l.length by omega)]
      rw [if_neg (by omega)]; exact Ev.now _
    | succ d ih =>
      intro i h1 h2
      have hle := fbad_le l
      by_cases q : i < l.length
      · apply Ev.succ
        have hf := fbad_drop l i h2
        have hg : l.drop i = rdOf false l (i : Int) :: l.drop (i + 1) := by
          rw [List.drop_eq_getElem_cons q]; simp [rdOf, List.getD_eq_getElem?_getD, List.getElem?_eq_getElem q]
        rw [hg, fbad_cons] at hf
        simp only [slices_Index_bool_bool.l0, if_pos (show (i : Int) < l.length by omega), if_pos (show (0 : Int) ≤ i by omega)]
        cases hb : rdOf false l (i : Int)
        · rw [hb] at hf
          simp only [Bool.false_eq_true, if_false] at hf
          simp only [show (false == false) = true from rfl, if_true]
          rw [if_pos (by omega)]
          have : (fbad l : Int) = i := by omega
          rw [this]; exact Ev.now _
        · rw [hb] at hf
          simp only [if_true] at hf
          simp only [show (false == true) = false from rfl, Bool.false_eq_true, if_false]
          rw [wrap_eq (by omega) (by omega)]
          have h3 : i + 1 ≤ fbad l := by omega
          exact_mod_cast ih (i + 1) (by omega) h3
      · apply Ev.succ
        simp only [slices_Index_bool_bool.l0, if_neg (show ¬ (i : Int) < l.length by omega)]
        rw [if_neg (by omega)]; exact Ev.now _
  exact key l.length 0 (by omega) (by omega)
/-! what Runes tells, in words of the reference -/
theorem runesL_all (C : List (Int × Int × Bool)) : ∀ (x : List Int) (a : Int), fbad (C.map (·.2.2)) = C.length → runesL x a C = (x ++ C.map (·.1), 0, 0) := by
  induction C with
  | nil => intro x a _; simp [runesL]
  | cons c t ih =>
    intro x a h
    simp only [List.map_cons, fbad_cons] at h
    by_cases q : c.2.2 = true
    · rw [if_pos q] at h
      simp only [runesL, if_pos q, List.length_cons] at h ⊢
      rw [ih _ _ (by omega)]; simp
    · rw [if_neg q] at h; simp at h
theorem endsL_length (C : List (Int × Int × Bool)) : ∀ a, (endsL a C).length = C.length := by
  induction C with
  | nil => intro a; rfl
  | cons c t ih => intro a; simp [endsL, ih]
theorem runesL_bad (C : List (Int × Int × Bool)) : ∀ (x : List Int) (a : Int), fbad (C.map (·.2.2)) < C.length →
    runesL x a C = ([], if fbad (C.map (·.2.2)) = 0 then a else (endsL a C).getD (fbad (C.map (·.2.2)) - 1) 0, 3) := by
  induction C with
  | nil => intro x a h; simp at h
  | cons c t ih =>
    intro x a h
    simp only [List.map_cons, fbad_cons, List.length_cons] at h ⊢
    by_cases q : c.2.2 = true
    · rw [if_pos q] at h ⊢
      simp only [runesL, if_pos q]
      rw [ih _ _ (by omega), if_neg (show ¬ fbad (t.map (·.2.2)) + 1 = 0 by omega)]
      congr 2
      by_cases z : fbad (t.map (·.2.2)) = 0
      · rw [if_pos z, z]; simp [endsL]
      · rw [if_neg z]
        obtain ⟨m, hm⟩ : ∃ m, fbad (t.map (·.2.2)) = m + 1 := ⟨fbad (t.map (·.2.2)) - 1, by omega⟩
        rw [hm]; simp [endsL]
    · rw [if_neg q]
      simp only [runesL, if_neg q, if_true]
theorem chs_length (l : List UInt8) : ∀ d, l.length ≤ d → (chs l).length ≤ l.length := by
  intro d
  induction d generalizing l with
  | zero => intro h; have : l = [] := List.length_eq_zero_iff.1 (by omega); subst this; simp [chs_nil]
  | succ d ih =>
    intro h
    by_cases q : l = []
    · subst q; simp [chs_nil]
    · have := stL_range l q
      have i2 := ih (l.drop (stL l)) (by rw [List.length_drop]; omega)
      rw [List.length_drop] at i2
      rw [chs_cons l q, List.length_cons]; omega
theorem runes_f (s : ByteArray) (hs : s.size ≤ 1048576) : Ev (fun k => utf_Runes.f k s) (runesL [] 0 (chs (lb s))) := by
  have := runes_ev s hs s.size 0 [] (by omega) (by omega) (by simp)
  rw [List.drop_zero] at this
  simp only [utf_Runes.f]; exact this
theorem chars_f (s : ByteArray) (hs : s.size ≤ 1048576) : Ev (fun k => clapref1_Characters.f k s) (endsL 0 (chs (lb s)), (chs (lb s)).map (·.2.2), (chs (lb s)).map (·.1)) := by
  have := chars_ev s hs s.size 0 [] [] [] (by omega) (by omega) (by simp) (by simp) (by simp)
  rw [List.drop_zero] at this
  simp only [clapref1_Characters.f]; exact this
theorem texts_j3 (s : ByteArray) (hs : s.size ≤ 1048576) : Ev (fun k => claplaw1_UtfTexts.j3 k s false) true := by
  apply Ev.succ
  simp only [claplaw1_UtfTexts.j3, Bool.false_eq_true, if_false]
  refine Ev.bind (chars_f s hs) ?_
  have hlen := chs_length (lb s) _ (Nat.le_refl _)
  rw [lb_len] at hlen
  have hr := runes_f s hs
  generalize chs (lb s) = C at *
  refine Ev.bind (index_ev (C.map (·.2.2)) (by rw [List.length_map]; omega)) ?_
  have hf := fbad_le (C.map (·.2.2))
  rw [List.length_map] at hf ⊢
  by_cases q : fbad (C.map (·.2.2)) < C.length
  · rw [runesL_bad C _ _ q] at hr
    simp only [if_pos q, if_pos (show ((fbad (C.map (·.2.2)) : Nat) : Int) ≥ 0 by omega)]
    by_cases z : fbad (C.map (·.2.2)) = 0
    · rw [if_pos z] at hr
      simp only [if_neg (show ¬ ((fbad (C.map (·.2.2)) : Nat) : Int) > 0 by omega)]
      refine Ev.bind hr (Ev.bind (equal_ev [] (by simp)) ?_)
      simp only [if_true]; exact Ev.now _
    · rw [if_neg z] at hr
      simp only [if_pos (show ((fbad (C.map (·.2.2)) : Nat) : Int) > 0 by omega)]
      rw [wrap_eq (by omega) (by omega)]
      simp only [if_pos (show (0 : Int) ≤ ((fbad (C.map (·.2.2)) : Nat) : Int) - 1 by omega), if_pos (show ((fbad (C.map (·.2.2)) : Nat) : Int) - 1 < ((endsL 0 C).length : Int) by rw [endsL_length]; omega)]
      refine Ev.bind hr (Ev.bind (equal_ev [] (by simp)) ?_)
      have e : rd (endsL 0 C) (((fbad (C.map (·.2.2)) : Nat) : Int) - 1) = (endsL 0 C).getD (fbad (C.map (·.2.2)) - 1) 0 := by
        unfold rd; congr 1; omega
      simp only [if_true, e]; exact Ev.now _
  · have q2 : fbad (C.map (·.2.2)) = C.length := by omega
    rw [runesL_all C _ _ q2, List.nil_append] at hr
    simp only [if_neg q, if_neg (show ¬ (-1 : Int) ≥ 0 by decide)]
    refine Ev.bind hr (Ev.bind (equal_ev _ (by rw [List.length_map]; omega)) ?_)
    simp only [if_true]; exact Ev.now _
theorem rd_nat (l : List Int) (i : Nat) (h : i < l.length) : rd l (i : Int) = l[i] := by
  unfold rd; rw [Int.toNat_natCast, List.getD_eq_getElem?_getD, List.getElem?_eq_getElem h]; rfl
theorem encU_len (r : Int) : (encU r).length ≤ 4 := by
  unfold encU encZ; repeat' split
  all_goals simp
theorem flat_len (l : List Int) : (l.flatMap encU).length ≤ 4 * l.length := by
  induction l with
  | nil => simp
  | cons a t ih => have := encU_len a; simp only [List.flatMap_cons, List.length_append, List.length_cons] at *; omega
theorem texts_l0 (l : List Int) (hl : l.length ≤ 1048576) (s : ByteArray) (hs : s.size ≤ 1048576) : ∀ (d i : Nat) (x : ByteArray) (f : Int), l.length - i ≤ d → i ≤ l.length → lb x = (l.take i).flatMap encU → f = (if (l.take i).all okZ = true then 0 else 11) →
    Ev (fun k => claplaw1_UtfTexts.l0 k l s x f l (l.length : Int) (i : Int)) true := by
  have fin : ∀ (x : ByteArray) (f : Int), lb x = l.flatMap encU → f = (if l.all okZ = true then 0 else 11) → Ev (fun k => claplaw1_UtfTexts.l0 k l s x f l (l.length : Int) (l.length : Int)) true := by
    intro x f hx hf
    apply Ev.succ
    simp only [claplaw1_UtfTexts.l0, if_neg (show ¬ (l.length : Int) < l.length by omega)]
    have j2 : ∀ (x2 : ByteArray), utf_Text.f l = some (x2, f) → Ev (fun k => claplaw1_UtfTexts.j2 k l s x2 f) true := fun x2 h => by
      apply Ev.succ
      simp only [claplaw1_UtfTexts.j2, h, Option.bind_some, if_true]
      have : (f != f) = false := by simp
      rw [this]; exact texts_j3 s hs
    by_cases q : l.all okZ = true
    · rw [if_pos q] at hf
      simp only [hf, if_true]
      rw [← hf]
      refine j2 x ?_
      unfold utf_Text.f
      rw [if_pos (by omega), show l.all okR = l.all okZ from rfl, if_pos q, encs_all l q, hf]
      congr 2
      exact lb_ext (by rw [lb_mk, hx])
    · rw [if_neg q] at hf
      simp only [if_neg (show ¬ f = 0 by omega)]
      refine j2 _ ?_
      unfold utf_Text.f
      rw [if_pos (by omega), show l.all okR = l.all okZ from rfl, if_neg q, hf]
  intro d
  induction d with
  | zero =>
    intro i x f h1 h2 hx hf
    obtain rfl : i = l.length := by omega
    rw [List.take_length] at hx hf
    exact fin x f hx hf
  | succ d ih =>
    intro i x f h1 h2 hx hf
    by_cases q : i < l.length
    · apply Ev.succ
      have hsz : x.size ≤ 4 * i := by have := flat_len (l.take i); rw [← hx, lb_len, List.length_take] at this; omega
      have hez : (⟨(encU l[i]).toArray⟩ : ByteArray).size ≤ 4 := by rw [← lb_len, lb_mk]; exact encU_len _
      have ht : l.take (i + 1) = l.take i ++ [l[i]] := List.take_succ_eq_append_getElem q
      simp only [claplaw1_UtfTexts.l0, if_pos (show (i : Int) < l.length by omega), if_pos (show (0 : Int) ≤ i by omega), rd_nat l i q]
      refine Ev.bind (enc_ev l[i]) ?_
      rw [wrap_eq (by omega) (by omega)]
      simp only [lb_toList, lb_mk, if_pos (show x.size + (⟨(encU l[i]).toArray⟩ : ByteArray).size ≤ 9223372036854775807 by omega)]
      have hx2 : lb (x ++ ⟨(encU l[i]).toArray⟩) = (l.take (i + 1)).flatMap encU := by rw [lb_append, lb_mk (encU l[i]), hx, ht, List.flatMap_append, List.flatMap_singleton]
      by_cases z : encU l[i] = []
      · simp only [if_pos z]
        have hk := (encU_nil _).1 z
        exact_mod_cast ih (i + 1) _ 11 (by omega) (by omega) hx2 (by rw [ht, List.all_append]; simp [hk])
      · simp only [if_neg z]
        have hk : okZ l[i] = true := by
          cases w : okZ l[i]
          · exact absurd ((encU_nil _).2 w) z
          · rfl
        exact_mod_cast ih (i + 1) _ f (by omega) (by omega) hx2 (by rw [ht, List.all_append, hf]; simp [hk])
    · obtain rfl : i = l.length := by omega
      rw [List.take_length] at hx hf
      exact fin x f hx hf
theorem UtfTexts (l0 : List Int) (a1 : Int) (a2 : ByteArray) (h0 : l0.length ≤ 1048576) (_ : ∀ x ∈ l0, (Lit.int .i64 x).wf = true) (_ : (Lit.int .i64 a1).wf = true) (h2 : a2.size ≤ 1048576) : ∃ k, claplaw1_UtfTexts.f k l0 a1 a2 = some true := by
  refine Ev.rounds (g := fun k => claplaw1_UtfTexts.f k l0 a1 a2) ?_
  simp only [claplaw1_UtfTexts.f, coded_f, Option.bind_some, if_true, valid_f]
  refine Ev.bind (enc_ev a1) ?_
  have e : (okZ a1 != ((⟨(encU a1).toArray⟩ : ByteArray).toList != ([] : List UInt8))) = false := by
    rw [lb_toList, lb_mk]
    have := encU_nil a1
    cases w : okZ a1
    · rw [this.2 w]; rfl
    · have : encU a1 ≠ [] := fun z => by rw [this.1 z] at w; cases w
      simp [this]
  rw [e]
  apply Ev.succ
  simp only [claplaw1_UtfTexts.j0, Bool.false_eq_true, if_false]
  exact texts_l0 l0 h0 a2 h2 l0.length 0 _ 0 (by omega) (by omega) (by simp [lb]) (by simp)
end Go.Proofs.Ytilffmhmgoaejaa.PUtf
