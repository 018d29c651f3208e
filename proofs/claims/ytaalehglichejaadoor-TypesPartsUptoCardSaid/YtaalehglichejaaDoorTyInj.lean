/- Types with the same text are the same data. No statement is proved here. -/
import Derived.Test.YtaalehglichejaaDoorTyText
import Derived.Test.YtaalehglichejaaDoorTyEqual
namespace Go.Proofs.YtaalehglichejaaDoor.PTy
open Go.RowKit Go.Proofs.YtaalehglichejaaDoorW.PrintWords Go.Proofs.YtaalehglichejaaDoorW.PrintLast
set_option linter.unusedVariables false
set_option linter.unusedSimpArgs false
def vD (l : List UInt8) : Nat := l.foldl (fun a c => a * 10 + (c.toNat - 48)) 0
theorem vD_app (l : List UInt8) (c : UInt8) : vD (l ++ [c]) = vD l * 10 + (c.toNat - 48) := by unfold vD; rw [List.foldl_append]; rfl
theorem dd_val (u : Nat) : vD (Lib.decDigits u) = u := by
  induction u using Nat.strongRecOn with
  | _ u ih =>
    by_cases h : u < 10
    · rw [Lib.decDigits_one h]
      show 0 * 10 + ((UInt8.ofNat (48 + u)).toNat - 48) = u
      rw [UInt8.toNat_ofNat']; omega
    · rw [Lib.decDigits, dif_neg h, vD_app, ih (u / 10) (by omega), UInt8.toNat_ofNat']; omega
def isD (c : UInt8) : Prop := 48 ≤ c.toNat ∧ c.toNat ≤ 57
theorem dd_dig (u : Nat) : ∀ c ∈ Lib.decDigits u, isD c := by
  induction u using Nat.strongRecOn with
  | _ u ih =>
    by_cases h : u < 10
    · rw [Lib.decDigits_one h]
      intro c hc
      rw [List.mem_singleton.1 hc]
      unfold isD; rw [UInt8.toNat_ofNat']; omega
    · rw [Lib.decDigits, dif_neg h]
      intro c hc
      rcases List.mem_append.1 hc with q | q
      · exact ih (u / 10) (by omega) c q
      · rw [List.mem_singleton.1 q]
        unfold isD; rw [UInt8.toNat_ofNat']; omega
theorem dd_ne (u : Nat) : Lib.decDigits u ≠ [] := by
  by_cases h : u < 10
  · rw [Lib.decDigits_one h]; simp
  · rw [Lib.decDigits, dif_neg h]; simp
theorem itoa_inj (a b : Int) (h : Lib.itoa a = Lib.itoa b) : a = b := by
  have hm : ¬ isD 45 := by unfold isD; decide
  unfold Lib.itoa at h
  by_cases ha : a < 0
  · by_cases hb : b < 0
    · rw [if_pos ha, if_pos hb] at h
      have := congrArg vD (List.cons.inj h).2
      rw [dd_val, dd_val] at this; omega
    · rw [if_pos ha, if_neg hb] at h
      exact absurd (dd_dig b.toNat 45 (by rw [← h]; simp)) hm
  · by_cases hb : b < 0
    · rw [if_neg ha, if_pos hb] at h
      exact absurd (dd_dig a.toNat 45 (by rw [h]; simp)) hm
    · rw [if_neg ha, if_neg hb] at h
      have := congrArg vD h
      rw [dd_val, dd_val] at this; omega
def isN (c : UInt8) : Prop := c = 45 ∨ isD c
theorem itoa_num (a : Int) : ∀ c ∈ Lib.itoa a, isN c := by
  unfold Lib.itoa
  split
  · intro c hc
    rcases List.mem_cons.1 hc with q | q
    · exact .inl q
    · exact .inr (dd_dig _ c q)
  · exact fun c hc => .inr (dd_dig _ c hc)
theorem itoa_ne (a : Int) : Lib.itoa a ≠ [] := by
  unfold Lib.itoa
  split
  · simp
  · exact dd_ne _
/-- What ends in front of the first byte of another kind is told by the whole. -/
theorem cut_at {p : UInt8 → Prop} {d : UInt8} (hd : ¬ p d) : ∀ (l m r s : List UInt8), (∀ c ∈ l, p c) → (∀ c ∈ m, p c) → l ++ d :: r = m ++ d :: s → l = m ∧ r = s
  | [], [], r, s, _, _, h => ⟨rfl, (List.cons.inj h).2⟩
  | [], c :: m, r, s, _, hm, h => by
    have := (List.cons.inj h).1
    exact absurd (hm c (by simp)) (this ▸ hd)
  | c :: l, [], r, s, hl, _, h => by
    have := (List.cons.inj h).1
    exact absurd (hl c (by simp)) (this ▸ hd)
  | c :: l, e :: m, r, s, hl, hm, h => by
    obtain ⟨h1, h2⟩ := List.cons.inj h
    obtain ⟨h3, h4⟩ := cut_at hd l m r s (fun x hx => hl x (by simp [hx])) (fun x hx => hm x (by simp [hx])) h2
    exact ⟨by rw [h1, h3], h4⟩
theorem n32 : ¬ isN 32 := by unfold isN isD; decide
theorem n58 : ¬ isN 58 := by unfold isN isD; decide
theorem n41 : ¬ isN 41 := by unfold isN isD; decide
theorem lb_itoaB (n : Int) : lb (itoaB n) = Lib.itoa n := lb_mk _
theorem lb_one (c : UInt8) : lb (⟨#[c]⟩ : ByteArray) = [c] := rfl
theorem num_cut (a b : Int) (r s : List UInt8) (h : Lib.itoa a ++ 32 :: r = Lib.itoa b ++ 32 :: s) : a = b ∧ r = s := by
  obtain ⟨h1, h2⟩ := cut_at n32 _ _ r s (itoa_num a) (itoa_num b) h
  exact ⟨itoa_inj a b h1, h2⟩
theorem lb_quo (s : ByteArray) : lb (quo s) = Lib.itoa s.size ++ 58 :: lb s := by
  unfold quo; rw [lb_append, lb_append, lb_itoaB, lb_one, List.append_assoc]; rfl
theorem quo_cut (s t : ByteArray) (r q : List UInt8) (h : lb (quo s) ++ r = lb (quo t) ++ q) : lb s = lb t ∧ r = q := by
  rw [lb_quo, lb_quo, List.append_assoc, List.append_assoc, List.cons_append, List.cons_append] at h
  obtain ⟨h1, h2⟩ := cut_at n58 _ _ _ _ (itoa_num _) (itoa_num _) h
  have h3 := itoa_inj _ _ h1
  exact List.append_inj h2 (by rw [lb_len, lb_len]; omega)
theorem lb_hd (x : S24g S29) : lb (hd x) = Lib.itoa x.f0 ++ 32 :: (Lib.itoa x.f2 ++ 32 :: (Lib.itoa x.f3 ++ 32 :: (lb (quo x.f1) ++ (lb (quo x.f4) ++ [40])))) := by
  unfold hd
  simp only [lb_append, lb_itoaB, lb_one, List.append_assoc, List.cons_append, List.nil_append]
theorem txV_full (x : S24g S29) (r : List UInt8) : txV x ++ r = Lib.itoa x.f0 ++ 32 :: (Lib.itoa x.f2 ++ 32 :: (Lib.itoa x.f3 ++ 32 :: (lb (quo x.f1) ++ (lb (quo x.f4) ++ 40 :: (txFs x.f5 ++ 41 :: r))))) := by
  rw [txV_eq, lb_hd]
  simp only [List.append_assoc, List.cons_append, List.nil_append]
theorem quo_first (s : ByteArray) (r q : List UInt8) (h : 41 :: r = lb (quo s) ++ q) : False := by
  rw [lb_quo, List.append_assoc] at h
  cases hi : Lib.itoa s.size with
  | nil => exact itoa_ne _ hi
  | cons c t =>
    rw [hi] at h
    have := (List.cons.inj h).1
    exact n41 (this ▸ itoa_num (s.size : Int) c (by rw [hi]; simp))
theorem fs_cut (n : Nat) (IH : ∀ (x y : S24g S29) (r s : List UInt8), szV x ≤ n → txV x ++ r = txV y ++ s → eqV x y = true ∧ r = s) : ∀ (l m : List S29) (r s : List UInt8), szFs l ≤ n → txFs l ++ 41 :: r = txFs m ++ 41 :: s → eqFs l m = true ∧ r = s
  | [], [], r, s, _, h => ⟨rfl, (List.cons.inj h).2⟩
  | [], g :: u, r, s, _, h => by
    have e : txFs (g :: u) = txF g ++ txFs u := rfl
    rw [e, txF_eq, List.append_assoc, List.append_assoc] at h
    exact (quo_first _ _ _ h).elim
  | f :: t, [], r, s, _, h => by
    have e : txFs (f :: t) = txF f ++ txFs t := rfl
    rw [e, txF_eq, List.append_assoc, List.append_assoc] at h
    exact (quo_first _ _ _ h.symm).elim
  | f :: t, g :: u, r, s, hn, h => by
    have e : txFs (f :: t) = txF f ++ txFs t := rfl
    have e2 : txFs (g :: u) = txF g ++ txFs u := rfl
    have hz : szFs (f :: t) = szF f + szFs t := rfl
    rw [e, e2, txF_eq, txF_eq, List.append_assoc, List.append_assoc, List.append_assoc, List.append_assoc] at h
    obtain ⟨h1, h2⟩ := quo_cut _ _ _ _ h
    obtain ⟨h3, h4⟩ := IH f.f1 g.f1 _ _ (by rw [szF_eq] at hz; omega) h2
    obtain ⟨h5, h6⟩ := fs_cut n IH t u r s (by omega) h4
    refine ⟨?_, h6⟩
    show (eqF f g && eqFs t u) = true
    rw [eqF_eq, h3, h5, lb_toList, lb_toList, h1]; simp
theorem v_cut (n : Nat) : ∀ (x y : S24g S29) (r s : List UInt8), szV x ≤ n → txV x ++ r = txV y ++ s → eqV x y = true ∧ r = s := by
  induction n with
  | zero => intro x y r s h; rw [szV_eq] at h; omega
  | succ n ih =>
    intro x y r s hn h
    rw [txV_full, txV_full] at h
    obtain ⟨h0, h⟩ := num_cut _ _ _ _ h
    obtain ⟨h2, h⟩ := num_cut _ _ _ _ h
    obtain ⟨h3, h⟩ := num_cut _ _ _ _ h
    obtain ⟨h1, h⟩ := quo_cut _ _ _ _ h
    obtain ⟨h4, h⟩ := quo_cut _ _ _ _ h
    rw [szV_eq] at hn
    obtain ⟨h5, h6⟩ := fs_cut n ih x.f5 y.f5 r s (by omega) (List.cons.inj h).2
    refine ⟨?_, h6⟩
    rw [eqV_eq, h0, h2, h3, h5, lb_toList, lb_toList, lb_toList, lb_toList, h1, h4]; simp
theorem quo_same (s t : ByteArray) (h : s.toList = t.toList) : quo s = quo t := by
  have : s = t := lb_ext (by rw [← lb_toList, ← lb_toList, h])
  rw [this]
theorem fs_same (n : Nat) (IH : ∀ x y : S24g S29, szV x ≤ n → eqV x y = true → txV x = txV y) : ∀ l m : List S29, szFs l ≤ n → eqFs l m = true → txFs l = txFs m
  | [], [], _, _ => rfl
  | [], _ :: _, _, h => absurd h (by simp [eqFs])
  | _ :: _, [], _, h => absurd h (by simp [eqFs])
  | f :: t, g :: u, hn, h => by
    have hz : szFs (f :: t) = szF f + szFs t := rfl
    have h' : (eqF f g && eqFs t u) = true := h
    rw [Bool.and_eq_true, eqF_eq, Bool.and_eq_true, beq_iff_eq] at h'
    obtain ⟨⟨h1, h2⟩, h3⟩ := h'
    show txF f ++ txFs t = txF g ++ txFs u
    rw [txF_eq, txF_eq, quo_same _ _ h1, IH f.f1 g.f1 (by rw [szF_eq] at hz; omega) h2, fs_same n IH t u (by omega) h3]
theorem v_same (n : Nat) : ∀ x y : S24g S29, szV x ≤ n → eqV x y = true → txV x = txV y := by
  induction n with
  | zero => intro x y h; rw [szV_eq] at h; omega
  | succ n ih =>
    intro x y hn h
    rw [szV_eq] at hn
    rw [eqV_eq] at h
    simp only [Bool.and_eq_true, beq_iff_eq] at h
    obtain ⟨⟨⟨⟨⟨h0, h1⟩, h2⟩, h3⟩, h4⟩, h5⟩ := h
    rw [txV_eq, txV_eq, lb_hd, lb_hd, h0, h2, h3, quo_same _ _ h1, quo_same _ _ h4, fs_same n ih x.f5 y.f5 (by omega) h5]
theorem eq_text (x y : S24g S29) : eqV x y = decide (txV x = txV y) := by
  rw [Bool.eq_iff_iff, decide_eq_true_eq]
  constructor
  · exact v_same _ x y (Nat.le_refl _)
  · intro h
    exact (v_cut _ x y [] [] (Nat.le_refl _) (by rw [h])).1
end Go.Proofs.YtaalehglichejaaDoor.PTy
