/- What the printed functions of utf and its reference compute: the decoder, one character. No statement is proved here. -/
import Derived.Test.YtnbdmmepdmmbmaaDoorUtfPure
import Derived.Test.YtnbdmmepdmmbmaaDoorPUtfx
namespace Go.Proofs.YtnbdmmepdmmbmaaDoor.PUtf
open Go.RowKit Go.Proofs.YtnbdmmepdmmbmaaDoorW.PrintWords Go.Proofs.YtnbdmmepdmmbmaaDoorW.PrintLast Go.Proofs.YtnbdmmepdmmbmaaDoorW.PrintMore Go.Proofs.YtnbdmmepdmmbmaaDoor Go.Proofs.YtnbdmmepdmmbmaaDoor.Plug
set_option linter.unusedVariables false
set_option linter.unusedSimpArgs false
theorem valid_f (a : Int) : utf_Valid.f a = some (okZ a) := by
  unfold utf_Valid.f okZ
  repeat' split
  all_goals (congr 1; rw [Bool.eq_iff_iff]; simp only [decide_eq_true_eq, Bool.false_eq_true, false_iff, true_iff]; omega)
theorem encU_ints (r : Int) (h : okZ r = true) : (encU r).map (fun u => (u.toNat : Int)) = encZ r := by
  rw [encU, if_pos h]
  rw [okZ_iff] at h
  unfold encZ
  repeat' split
  all_goals simp only [List.map_cons, List.map_nil, UInt8.toNat_ofNat', List.cons.injEq, and_true]
  all_goals omega
theorem encU_nil (r : Int) : encU r = [] ↔ okZ r = false := by
  unfold encU
  by_cases h : okZ r = true
  · rw [if_pos h]
    constructor
    · intro q; unfold encZ at q; repeat' split at q
      all_goals simp at q
    · intro q; rw [h] at q; cases q
  · rw [if_neg h]; simpa using h
theorem enc_ev (a : Int) : Ev (fun k => clapref1_Encoded.f k a) ⟨(encU a).toArray⟩ := by
  have e0 : okZ a = false → Ev (fun k => clapref1_Encoded.j0 k a true) ⟨(encU a).toArray⟩ := fun h => by
    rw [(encU_nil a).2 h]; apply Ev.succ; exact Ev.now _
  by_cases h1 : a < 0
  · simp only [clapref1_Encoded.f, if_pos h1]; exact e0 (by rw [okZ, decide_eq_false_iff_not]; omega)
  by_cases h2 : a > 1114111
  · simp only [clapref1_Encoded.f, if_neg h1, if_pos h2]; exact e0 (by rw [okZ, decide_eq_false_iff_not]; omega)
  by_cases h3 : a ≥ 55296 ∧ a < 57344
  · simp only [clapref1_Encoded.f, if_neg h1, if_neg h2, if_pos h3.1, decide_eq_true h3.2]; exact e0 (by rw [okZ, decide_eq_false_iff_not]; omega)
  have hok : okZ a = true := by rw [okZ_iff]; omega
  have e1 : Ev (fun k => clapref1_Encoded.j0 k a false) ⟨(encU a).toArray⟩ := by
    apply Ev.succ
    have t1 : ∀ n : Int, Int.tdiv a n = a / n := fun n => Int.tdiv_eq_ediv_of_nonneg (by omega)
    have t2 : ∀ n : Int, Int.tmod a n = a % n := fun n => Int.tmod_eq_emod_of_nonneg (by omega)
    have t3 : ∀ n m : Int, 0 < m → Int.tmod (wrap64 (a / m)) n = a / m % n := fun n m hm => by
      have hq : 0 ≤ a / m := Int.ediv_nonneg (by omega) (by omega)
      have hq2 : a / m ≤ a := Int.ediv_le_self _ (by omega)
      rw [wrap_eq (by omega) (by omega)]; exact Int.tmod_eq_emod_of_nonneg hq
    simp only [clapref1_Encoded.j0, Bool.false_eq_true, if_false, t1, t2, t3 64 64 (by decide), t3 64 4096 (by decide)]
    have fin : ∀ xs : List Int, (xs.map fun n => UInt8.ofNat n.toNat) = encU a → Ev (fun _ : Nat => some (strOfNums xs)) ⟨(encU a).toArray⟩ := fun xs h => by
      have : strOfNums xs = ⟨(encU a).toArray⟩ := by unfold strOfNums; rw [h]
      rw [this]; exact Ev.now _
    by_cases c1 : a < 128
    · simp only [if_pos c1]
      refine fin _ ?_
      rw [encU, if_pos hok, encZ, if_pos c1]
      simp only [List.map_cons, List.map_nil, List.cons.injEq, and_true]; congr 2; omega
    by_cases c2 : a < 2048
    · simp only [if_neg c1, if_pos c2]
      refine fin _ ?_
      rw [encU, if_pos hok, encZ, if_neg c1, if_pos c2]
      rw [wrap_eq (x := a / 64) (by omega) (by omega), wrap_eq (by omega) (by omega), wrap_eq (by omega) (by omega)]
      simp only [List.map_cons, List.map_nil, List.cons.injEq, and_true]
      refine ⟨?_, ?_⟩ <;> (congr 2; omega)
    by_cases c3 : a < 65536
    · simp only [if_neg c1, if_neg c2, if_pos c3]
      refine fin _ ?_
      rw [encU, if_pos hok, encZ, if_neg c1, if_neg c2, if_pos c3]
      rw [wrap_eq (x := a / 4096) (by omega) (by omega), wrap_eq (by omega) (by omega), wrap_eq (by omega) (by omega), wrap_eq (by omega) (by omega)]
      simp only [List.map_cons, List.map_nil, List.cons.injEq, and_true]
      refine ⟨?_, ?_, ?_⟩ <;> (congr 2; omega)
    · simp only [if_neg c1, if_neg c2, if_neg c3]
      refine fin _ ?_
      rw [encU, if_pos hok, encZ, if_neg c1, if_neg c2, if_neg c3]
      rw [wrap_eq (x := a / 262144) (by omega) (by omega), wrap_eq (by omega) (by omega), wrap_eq (by omega) (by omega), wrap_eq (by omega) (by omega), wrap_eq (by omega) (by omega)]
      simp only [List.map_cons, List.map_nil, List.cons.injEq, and_true]
      refine ⟨?_, ?_, ?_, ?_⟩ <;> (congr 2; omega)
  by_cases h4 : a ≥ 55296
  · simp only [clapref1_Encoded.f, if_neg h1, if_neg h2, if_pos h4, decide_eq_false (show ¬ a < 57344 by omega)]; exact e1
  · simp only [clapref1_Encoded.f, if_neg h1, if_neg h2, if_neg h4]; exact e1
/-! the decoder -/
theorem b31 (x : Int) (h : 0 ≤ x ∧ x < 256) : Go.bits .and .u8 x 31 = x % 32 := by
  obtain ⟨n, rfl⟩ : ∃ n : Nat, x = n := ⟨x.toNat, by omega⟩
  have := u8_mask n 5 31 (by omega) (by decide) (by decide); rw [this]; omega
theorem b15 (x : Int) (h : 0 ≤ x ∧ x < 256) : Go.bits .and .u8 x 15 = x % 16 := by
  obtain ⟨n, rfl⟩ : ∃ n : Nat, x = n := ⟨x.toNat, by omega⟩
  have := u8_mask n 4 15 (by omega) (by decide) (by decide); rw [this]; omega
theorem b7 (x : Int) (h : 0 ≤ x ∧ x < 256) : Go.bits .and .u8 x 7 = x % 8 := by
  obtain ⟨n, rfl⟩ : ∃ n : Nat, x = n := ⟨x.toNat, by omega⟩
  have := u8_mask n 3 7 (by omega) (by decide) (by decide); rw [this]; omega
theorem b63 (x : Int) (h : 0 ≤ x ∧ x < 256) : Go.bits .and .u8 x 63 = x % 64 := by
  obtain ⟨n, rfl⟩ : ∃ n : Nat, x = n := ⟨x.toNat, by omega⟩
  have := u8_mask n 6 63 (by omega) (by decide) (by decide); rw [this]; omega
theorem b192 (x : Int) (h : 0 ≤ x ∧ x < 256) : Go.bits .and .u8 x 192 = x / 64 * 64 := by
  have key : ∀ y : Fin 256, bits .and .u8 (y.val : Int) 192 = ((y.val / 64 * 64 : Nat) : Int) := by decide +kernel
  obtain ⟨n, rfl⟩ : ∃ n : Nat, x = n := ⟨x.toNat, by omega⟩
  have := key ⟨n, by omega⟩
  simp only at this; rw [this]; omega
theorem or64 (r b : Int) (h0 : 0 ≤ r) (h1 : r < 33554432) : Go.bits .or .i64 (wrap64 (r * 64)) (wrap64 (b % 64)) = r * 64 + b % 64 := by
  obtain ⟨n, rfl⟩ : ∃ n : Nat, r = n := ⟨r.toNat, by omega⟩
  obtain ⟨m, hm⟩ : ∃ m : Nat, b % 64 = m := ⟨(b % 64).toNat, by omega⟩
  rw [hm, wrap_eq (by omega) (by omega), wrap_eq (by omega) (by omega)]
  have := or_add (n * 64) m 6 (by omega) (by decide) (by omega) (by omega) (by omega)
  simpa using this
theorem next_step (s : ByteArray) (n r least : Int) (i : Nat) (R : Int × Int) (h3 : i ≤ 3) (hi : (i : Int) < n) (hs : i < s.size) (hr : 0 ≤ r ∧ r < 33554432)
    (hR : nb8 (lb s) i / 64 = 2 → Ev (fun k => utf_next.l0 k s n (r * 64 + nb8 (lb s) i % 64) least ((i + 1 : Nat) : Int)) R) (hR0 : nb8 (lb s) i / 64 ≠ 2 → R = (0, 0)) : Ev (fun k => utf_next.l0 k s n r least (i : Int)) R := by
  have hb := nb8_range (lb s) i
  apply Ev.succ
  simp only [utf_next.l0, if_pos hi, if_pos (show (0 : Int) ≤ i by omega), if_pos (show (i : Int) < s.size by omega), bt_lb, b192 _ hb, b63 _ hb]
  by_cases h : nb8 (lb s) i / 64 = 2
  · simp only [if_pos (show nb8 (lb s) i / 64 * 64 = 128 by omega), or64 r (nb8 (lb s) i) hr.1 hr.2]
    rw [wrap_eq (by omega) (by omega)]
    exact_mod_cast hR h
  · simp only [if_neg (show ¬ nb8 (lb s) i / 64 * 64 = 128 by omega)]
    rw [hR0 h]; exact Ev.now _
theorem next_end (s : ByteArray) (n r least : Int) (R : Int × Int) (hR : R = if least ≤ r ∧ okZ r = true then (r, n) else (0, 0)) : Ev (fun k => utf_next.l0 k s n r least n) R := by
  apply Ev.succ
  simp only [utf_next.l0, if_neg (show ¬ n < n by omega), valid_f, Option.bind_some]
  subst hR
  by_cases h : r < least
  · simp only [if_pos h]; rw [if_neg (by omega)]; exact Ev.now _
  · simp only [if_neg h]
    cases hk : okZ r
    · simp only [Bool.false_eq_true, if_false, and_false]; exact Ev.now _
    · simp only [if_true]; rw [if_pos ⟨by omega, trivial⟩]; exact Ev.now _
def szT (c : Int) : Int × Int × Int := if c < 128 then (1, c, 0) else if 192 ≤ c ∧ c < 224 then (2, c % 32, 128) else if 224 ≤ c ∧ c < 240 then (3, c % 16, 2048) else if 240 ≤ c ∧ c < 248 then (4, c % 8, 65536) else (0, 0, 0)
theorem size_ev (c : Int) (h : 0 ≤ c ∧ c < 256) : Ev (fun k => utf_size.f k c) (szT c) := by
  have w : ∀ x : Int, 0 ≤ x → x < 256 → wrap64 x = x := fun x _ _ => wrap_eq (by omega) (by omega)
  unfold szT
  by_cases q1 : c < 128
  · simp only [utf_size.f, if_pos q1, w c h.1 h.2]; exact Ev.now _
  simp only [utf_size.f, if_neg q1]
  by_cases q2 : c ≥ 192 ∧ c < 224
  · simp only [if_pos q2.1, decide_eq_true q2.2]; rw [if_pos ⟨q2.1, q2.2⟩]
    apply Ev.succ
    simp only [utf_size.j0, if_true, b31 c h, w (c % 32) (by omega) (by omega)]; exact Ev.now _
  rw [if_neg q2]
  have e0 : Ev (fun k => utf_size.j0 k c false) (if 224 ≤ c ∧ c < 240 then (3, c % 16, 2048) else if 240 ≤ c ∧ c < 248 then (4, c % 8, 65536) else (0, 0, 0)) := by
    apply Ev.succ
    simp only [utf_size.j0, Bool.false_eq_true, if_false]
    have e1 : ¬ (224 ≤ c ∧ c < 240) → Ev (fun k => utf_size.j1 k c false) (if 240 ≤ c ∧ c < 248 then (4, c % 8, 65536) else (0, 0, 0)) := fun q => by
      apply Ev.succ
      simp only [utf_size.j1, Bool.false_eq_true, if_false, b7 c h, w (c % 8) (by omega) (by omega)]
      by_cases q4 : c ≥ 240
      · by_cases q5 : c < 248
        · simp only [if_pos q4, if_pos q5]; rw [if_pos ⟨q4, q5⟩]; exact Ev.now _
        · simp only [if_pos q4, if_neg q5]; rw [if_neg (by omega)]; exact Ev.now _
      · simp only [if_neg q4]; rw [if_neg (by omega)]; exact Ev.now _
    by_cases q3 : c ≥ 224
    · by_cases q4 : c < 240
      · simp only [if_pos q3, decide_eq_true q4]; rw [if_pos ⟨q3, q4⟩]
        apply Ev.succ
        simp only [utf_size.j1, if_true, b15 c h, w (c % 16) (by omega) (by omega)]; exact Ev.now _
      · simp only [if_pos q3, decide_eq_false q4]; rw [if_neg (by omega)]; exact e1 (by omega)
    · simp only [if_neg q3]; rw [if_neg (by omega)]; exact e1 (by omega)
  by_cases q3 : c ≥ 192
  · simp only [if_pos q3, decide_eq_false (show ¬ c < 224 by omega)]; exact e0
  · simp only [if_neg q3]; exact e0
theorem next_ev (s : ByteArray) (h : 0 < s.size) : Ev (fun k => utf_next.f k s) (nxL (lb s)) := by
  have hb := nb8_range (lb s) 0
  have hb1 := nb8_range (lb s) 1
  have hb2 := nb8_range (lb s) 2
  have hb3 := nb8_range (lb s) 3
  have hn : ((lb s).length : Int) = s.size := by rw [lb_len]
  have h0 : bt s 0 = nb8 (lb s) 0 := bt_lb s 0
  simp only [utf_next.f, if_pos (show (0 : Int) < s.size by omega), h0]
  refine Ev.bind (size_ev _ hb) ?_
  unfold nxL nxI szT
  rw [hn]
  have low : ∀ n r l : Int, n ≠ 0 → n > s.size → Ev (fun k => utf_next.j0 k s n r l (decide (n > s.size))) (0, 0) := fun n r l h1 h2 => by
    apply Ev.succ
    simp only [utf_next.j0, decide_eq_true h2, if_true]; exact Ev.now _
  have go : ∀ (n r l : Int) (R : Int × Int), n ≤ s.size → Ev (fun k => utf_next.l0 k s n r l 1) R → Ev (fun k => utf_next.j0 k s n r l (decide (n > s.size))) R := fun n r l R h1 h2 => by
    apply Ev.succ
    simp only [utf_next.j0, decide_eq_false (show ¬ n > s.size by omega), Bool.false_eq_true, if_false]; exact h2
  have hs1 := fun (n r l : Int) (R : Int × Int) (hi : 1 < n) (hs : 1 < s.size) => next_step s n r l 1 R (by decide) (by omega) hs
  have hs2 := fun (n r l : Int) (R : Int × Int) (hi : 2 < n) (hs : 2 < s.size) => next_step s n r l 2 R (by decide) (by omega) hs
  have hs3 := fun (n r l : Int) (R : Int × Int) (hi : 3 < n) (hs : 3 < s.size) => next_step s n r l 3 R (by decide) (by omega) hs
  generalize nb8 (lb s) 0 = c0 at *
  generalize nb8 (lb s) 1 = c1 at *
  generalize nb8 (lb s) 2 = c2 at *
  generalize nb8 (lb s) 3 = c3 at *
  by_cases q1 : c0 < 128
  · simp only [if_pos q1, if_neg (show ¬ (1 : Int) = 0 by decide)]
    refine go 1 _ _ _ (by omega) (next_end s 1 c0 0 _ ?_)
    rw [if_pos ⟨by omega, by rw [okZ_iff]; omega⟩]
  simp only [if_neg q1]
  by_cases q2 : 192 ≤ c0 ∧ c0 < 224
  · simp only [if_pos q2, if_neg (show ¬ (2 : Int) = 0 by decide)]
    by_cases hl : (2 : Int) ≤ s.size
    rotate_left
    · rw [if_neg (by omega)]; exact low _ _ _ (by decide) (by omega)
    refine go 2 _ _ _ hl (hs1 2 _ _ _ (by decide) (by omega) ⟨by omega, by omega⟩ (fun e1 => ?_) (fun e1 => by rw [if_neg (by omega)]))
    refine next_end s 2 _ _ _ ?_
    by_cases e2 : 128 ≤ c0 % 32 * 64 + c1 % 64
    · rw [if_pos ⟨hl, e1, e2⟩, if_pos ⟨e2, by rw [okZ_iff]; omega⟩]
    · rw [if_neg (by omega), if_neg (by omega)]
  simp only [if_neg q2]
  by_cases q3 : 224 ≤ c0 ∧ c0 < 240
  · simp only [if_pos q3, if_neg (show ¬ (3 : Int) = 0 by decide)]
    by_cases hl : (3 : Int) ≤ s.size
    rotate_left
    · rw [if_neg (by omega)]; exact low _ _ _ (by decide) (by omega)
    refine go 3 _ _ _ hl (hs1 3 _ _ _ (by decide) (by omega) ⟨by omega, by omega⟩ (fun e1 => ?_) (fun e1 => by rw [if_neg (by omega)]))
    refine hs2 3 _ _ _ (by decide) (by omega) ⟨by omega, by omega⟩ (fun e2 => ?_) (fun e2 => by rw [if_neg (by omega)])
    refine next_end s 3 _ _ _ ?_
    by_cases e3 : 2048 ≤ (c0 % 16 * 64 + c1 % 64) * 64 + c2 % 64 ∧ okZ ((c0 % 16 * 64 + c1 % 64) * 64 + c2 % 64) = true
    · rw [if_pos ⟨hl, e1, e2, e3⟩, if_pos e3]
    · rw [if_neg (fun z => e3 z.2.2.2), if_neg e3]
  simp only [if_neg q3]
  by_cases q4 : 240 ≤ c0 ∧ c0 < 248
  · simp only [if_pos q4, if_neg (show ¬ (4 : Int) = 0 by decide)]
    by_cases hl : (4 : Int) ≤ s.size
    rotate_left
    · rw [if_neg (by omega)]; exact low _ _ _ (by decide) (by omega)
    refine go 4 _ _ _ hl (hs1 4 _ _ _ (by decide) (by omega) ⟨by omega, by omega⟩ (fun e1 => ?_) (fun e1 => by rw [if_neg (by omega)]))
    refine hs2 4 _ _ _ (by decide) (by omega) ⟨by omega, by omega⟩ (fun e2 => ?_) (fun e2 => by rw [if_neg (by omega)])
    refine hs3 4 _ _ _ (by decide) (by omega) ⟨by omega, by omega⟩ (fun e3 => ?_) (fun e3 => by rw [if_neg (by omega)])
    refine next_end s 4 _ _ _ ?_
    by_cases e4 : 65536 ≤ ((c0 % 8 * 64 + c1 % 64) * 64 + c2 % 64) * 64 + c3 % 64 ∧ okZ (((c0 % 8 * 64 + c1 % 64) * 64 + c2 % 64) * 64 + c3 % 64) = true
    · rw [if_pos ⟨hl, e1, e2, e3, e4⟩, if_pos e4]
    · rw [if_neg (fun z => e4 z.2.2.2.2), if_neg e4]
  simp only [if_neg q4, if_true]
  apply Ev.succ
  simp only [utf_next.j0, if_true]; exact Ev.now _
/-! one character of the reference -/
theorem take_ints (l : List UInt8) : (1 ≤ l.length → (l.take 1).map (fun u => (u.toNat : Int)) = [nb8 l 0]) ∧ (2 ≤ l.length → (l.take 2).map (fun u => (u.toNat : Int)) = [nb8 l 0, nb8 l 1])
    ∧ (3 ≤ l.length → (l.take 3).map (fun u => (u.toNat : Int)) = [nb8 l 0, nb8 l 1, nb8 l 2]) ∧ (4 ≤ l.length → (l.take 4).map (fun u => (u.toNat : Int)) = [nb8 l 0, nb8 l 1, nb8 l 2, nb8 l 3]) := by
  rcases l with _ | ⟨a, _ | ⟨b, _ | ⟨c, _ | ⟨d, t⟩⟩⟩⟩ <;> simp [nb8] <;> omega
theorem ints_inj {l m : List UInt8} (h : l.map (fun u => (u.toNat : Int)) = m.map (fun u => (u.toNat : Int))) : l = m := by
  induction l generalizing m with
  | nil => cases m with
    | nil => rfl
    | cons b t => simp at h
  | cons a t ih => cases m with
    | nil => simp at h
    | cons b u =>
      simp only [List.map_cons, List.cons.injEq] at h
      rw [ih h.2, show a = b from UInt8.toNat_inj.1 (by omega)]
theorem enc_take (l : List UInt8) (r : Int) (n : Nat) (bs : List Int) (hb : (l.take n).map (fun u => (u.toNat : Int)) = bs) : (encU r ≠ [] ∧ encU r = l.take n) ↔ (okZ r = true ∧ encZ r = bs) := by
  constructor
  · rintro ⟨h1, h2⟩
    have hk : okZ r = true := by
      cases q : okZ r
      · exact absurd ((encU_nil r).2 q) h1
      · rfl
    exact ⟨hk, by rw [← encU_ints r hk, h2, hb]⟩
  · rintro ⟨h1, h2⟩
    refine ⟨fun q => ?_, ints_inj (by rw [encU_ints r h1, h2, hb])⟩
    rw [(encU_nil r).1 q] at h1; cases h1
theorem chr_l1 (s : ByteArray) (n : Nat) (hn : n ≤ s.size) (hn4 : n ≤ 4) (r : Int) (R : Int × Int × Bool) (C : Prop) (hC : (encU r ≠ [] ∧ encU r = (lb s).take n) ↔ C)
    (h1 : C → R = (r, (n : Int), true)) (h2 : ¬ C → Ev (fun k => clapref1_Character.l0 k s ((n + 1 : Nat) : Int)) R) : Ev (fun k => clapref1_Character.l1 k s n r n) R := by
  apply Ev.succ
  simp only [clapref1_Character.l1, if_neg (show ¬ (n : Int) < n by omega)]
  refine Ev.bind (enc_ev r) ?_
  have hw : wrap64 ((n : Int) + 1) = ((n + 1 : Nat) : Int) := by rw [wrap_eq (by omega) (by omega)]; omega
  simp only [lb_toList, lb_mk, hw, if_pos (show (0 : Int) ≤ n by omega), if_pos (show (n : Int) ≤ s.size by omega), Int.toNat_natCast, lb_upto]
  by_cases q : encU r = []
  · simp only [if_pos q]; exact h2 (fun z => (hC.2 z).1 q)
  · simp only [if_neg q]
    by_cases q2 : encU r = (lb s).take n
    · simp only [if_pos q2]; rw [h1 (hC.1 ⟨q, q2⟩)]; exact Ev.now _
    · simp only [if_neg q2]; exact h2 (fun z => q2 (hC.2 z).2)
theorem chr_in (s : ByteArray) (n : Nat) (hn : n ≤ s.size) (hn4 : n ≤ 4) (r : Int) (i : Nat) (hi : i < n) (hr : -20000000 ≤ r ∧ r ≤ 20000000) (R : Int × Int × Bool)
    (h : Ev (fun k => clapref1_Character.l1 k s n (r * 64 + nb8 (lb s) i - 128) ((i + 1 : Nat) : Int)) R) : Ev (fun k => clapref1_Character.l1 k s n r (i : Int)) R := by
  have hb := nb8_range (lb s) i
  apply Ev.succ
  simp only [clapref1_Character.l1, if_pos (show (i : Int) < n by omega), if_pos (show (0 : Int) ≤ i by omega), if_pos (show (i : Int) < s.size by omega), bt_lb]
  have e1 : wrap64 (wrap64 (wrap64 (r * 64) + wrap64 (nb8 (lb s) i)) - 128) = r * 64 + nb8 (lb s) i - 128 := by
    rw [wrap_eq (x := r * 64) (by omega) (by omega), wrap_eq (x := nb8 (lb s) i) (by omega) (by omega), wrap_eq (x := r * 64 + nb8 (lb s) i) (by omega) (by omega), wrap_eq (by omega) (by omega)]
  have e2 : wrap64 ((i : Int) + 1) = ((i + 1 : Nat) : Int) := by rw [wrap_eq (by omega) (by omega)]; omega
  rw [e1, e2]; exact h
theorem mn_4 (x : Int) : mn 4 x = if 4 ≤ x then 4 else x := by unfold mn; split <;> (try split) <;> omega
theorem chr_l0 (s : ByteArray) (n : Nat) (hn : n ≤ s.size) (h2 : 2 ≤ n) (hn4 : n ≤ 4) (b : Int) (hb : wrap64 (256 - shl .i64 1 (wrap64 (8 - (n : Int)))) = b) (hw : 0 ≤ wrap64 (8 - (n : Int))) (hb2 : 0 ≤ b ∧ b ≤ 256) (R : Int × Int × Bool)
    (h : Ev (fun k => clapref1_Character.l1 k s n (nb8 (lb s) 0 - b) 1) R) : Ev (fun k => clapref1_Character.l0 k s (n : Int)) R := by
  have hb0 := nb8_range (lb s) 0
  have a0 : bt s 0 = nb8 (lb s) 0 := bt_lb s 0
  apply Ev.succ
  simp only [clapref1_Character.l0, mn_4, if_pos (show (n : Int) ≤ (if (4 : Int) ≤ s.size then 4 else (s.size : Int)) by split <;> omega), if_pos (show (0 : Int) < s.size by omega), if_pos (show (n : Int) > 1 by omega), if_pos hw, hb, a0]
  rw [wrap_eq (x := nb8 (lb s) 0) (by omega) (by omega), wrap_eq (by omega) (by omega)]
  apply Ev.succ
  simp only [clapref1_Character.j1]; exact h
/-- What Character tells: the code point, its bytes, whether it is one. -/
def chL (l : List UInt8) : Int × Int × Bool := if (nxL l).2 = 0 then (0, 1, false) else ((nxL l).1, (nxL l).2, true)
theorem chr_ev (s : ByteArray) (h : 0 < s.size) : Ev (fun k => clapref1_Character.f k s) (chL (lb s)) := by
  have hb := nb8_range (lb s) 0
  have hb1 := nb8_range (lb s) 1
  have hb2 := nb8_range (lb s) 2
  have hb3 := nb8_range (lb s) 3
  have hn : (lb s).length = s.size := lb_len s
  have a0 : bt s 0 = nb8 (lb s) 0 := bt_lb s 0
  have a1 : bt s 1 = nb8 (lb s) 1 := bt_lb s 1
  have a2 : bt s 2 = nb8 (lb s) 2 := bt_lb s 2
  have a3 : bt s 3 = nb8 (lb s) 3 := bt_lb s 3
  obtain ⟨m1, m2, m3, m4⟩ := enc_match s.size (nb8 (lb s) 0) (nb8 (lb s) 1) (nb8 (lb s) 2) (nb8 (lb s) 3) (by omega) hb hb1 hb2 hb3
  obtain ⟨t1, t2, t3, t4⟩ := take_ints (lb s)
  have cand := nxI_cand s.size (nb8 (lb s) 0) (nb8 (lb s) 1) (nb8 (lb s) 2) (nb8 (lb s) 3) hb hb1 hb2 hb3
  have hnx : nxL (lb s) = nxI s.size (nb8 (lb s) 0) (nb8 (lb s) 1) (nb8 (lb s) 2) (nb8 (lb s) 3) := by unfold nxL; rw [hn]
  have e1 := enc_take (lb s) (candZ 1 (nb8 (lb s) 0) (nb8 (lb s) 1) (nb8 (lb s) 2) (nb8 (lb s) 3)) 1 _ (t1 (by omega))
  unfold chL
  rw [hnx]
  have e2 := fun q : 2 ≤ s.size => enc_take (lb s) (candZ 2 (nb8 (lb s) 0) (nb8 (lb s) 1) (nb8 (lb s) 2) (nb8 (lb s) 3)) 2 _ (t2 (by omega))
  have e3 := fun q : 3 ≤ s.size => enc_take (lb s) (candZ 3 (nb8 (lb s) 0) (nb8 (lb s) 1) (nb8 (lb s) 2) (nb8 (lb s) 3)) 3 _ (t3 (by omega))
  have e4 := fun q : 4 ≤ s.size => enc_take (lb s) (candZ 4 (nb8 (lb s) 0) (nb8 (lb s) 1) (nb8 (lb s) 2) (nb8 (lb s) 3)) 4 _ (t4 (by omega))
  have z1 := cz1 (nb8 (lb s) 0) (nb8 (lb s) 1) (nb8 (lb s) 2) (nb8 (lb s) 3)
  have z2 := cz2 (nb8 (lb s) 0) (nb8 (lb s) 1) (nb8 (lb s) 2) (nb8 (lb s) 3)
  have z3 := cz3 (nb8 (lb s) 0) (nb8 (lb s) 1) (nb8 (lb s) 2) (nb8 (lb s) 3)
  have z4 := cz4 (nb8 (lb s) 0) (nb8 (lb s) 1) (nb8 (lb s) 2) (nb8 (lb s) 3)
  have S2 : 2 ≤ s.size → ∀ R, Ev (fun k => clapref1_Character.l1 k s 2 ((nb8 (lb s) 0 - 192) * 64 + nb8 (lb s) 1 - 128) 2) R → Ev (fun k => clapref1_Character.l0 k s 2) R := fun hl R H =>
    chr_l0 s 2 hl (by decide) (by decide) 192 (by decide +kernel) (by decide +kernel) (by decide) _ (chr_in s 2 hl (by decide) _ 1 (by decide) ⟨by omega, by omega⟩ _ H)
  have S3 : 3 ≤ s.size → ∀ R, Ev (fun k => clapref1_Character.l1 k s 3 (((nb8 (lb s) 0 - 224) * 64 + nb8 (lb s) 1 - 128) * 64 + nb8 (lb s) 2 - 128) 3) R → Ev (fun k => clapref1_Character.l0 k s 3) R := fun hl R H =>
    chr_l0 s 3 hl (by decide) (by decide) 224 (by decide +kernel) (by decide +kernel) (by decide) _ (chr_in s 3 hl (by decide) _ 1 (by decide) ⟨by omega, by omega⟩ _ (chr_in s 3 hl (by decide) _ 2 (by decide) ⟨by omega, by omega⟩ _ H))
  have S4 : 4 ≤ s.size → ∀ R, Ev (fun k => clapref1_Character.l1 k s 4 ((((nb8 (lb s) 0 - 240) * 64 + nb8 (lb s) 1 - 128) * 64 + nb8 (lb s) 2 - 128) * 64 + nb8 (lb s) 3 - 128) 4) R → Ev (fun k => clapref1_Character.l0 k s 4) R := fun hl R H =>
    chr_l0 s 4 hl (by decide) (by decide) 240 (by decide +kernel) (by decide +kernel) (by decide) _ (chr_in s 4 hl (by decide) _ 1 (by decide) ⟨by omega, by omega⟩ _ (chr_in s 4 hl (by decide) _ 2 (by decide) ⟨by omega, by omega⟩ _ (chr_in s 4 hl (by decide) _ 3 (by decide) ⟨by omega, by omega⟩ _ H)))
  generalize nb8 (lb s) 0 = c0 at *
  generalize nb8 (lb s) 1 = c1 at *
  generalize nb8 (lb s) 2 = c2 at *
  generalize nb8 (lb s) 3 = c3 at *
  generalize candZ 1 c0 c1 c2 c3 = r1 at *
  generalize candZ 2 c0 c1 c2 c3 = r2 at *
  generalize candZ 3 c0 c1 c2 c3 = r3 at *
  generalize candZ 4 c0 c1 c2 c3 = r4 at *
  generalize nxI s.size c0 c1 c2 c3 = N at *
  have w : ∀ x : Int, -100000000 ≤ x → x ≤ 100000000 → wrap64 x = x := fun x _ _ => wrap_eq (by omega) (by omega)
  have stop : ∀ n : Int, ¬ n ≤ mn 4 (s.size : Int) → N = (0, 0) → Ev (fun k => clapref1_Character.l0 k s n) (if N.2 = 0 then (0, 1, false) else (N.1, N.2, true)) := fun n q1 q2 => by
    apply Ev.succ
    simp only [clapref1_Character.l0, if_neg q1]
    subst q2; exact Ev.now _
  have hit : ∀ (r : Int) (n : Int), n ≠ 0 → N = (r, n) → (if N.2 = 0 then ((0 : Int), (1 : Int), false) else (N.1, N.2, true)) = (r, n, true) := fun r n q1 q2 => by subst q2; simp only [if_neg q1]
  simp only [clapref1_Character.f]
  -- one byte
  apply Ev.succ
  simp only [clapref1_Character.l0, mn_4, if_pos (show (1 : Int) ≤ (if (4 : Int) ≤ s.size then 4 else (s.size : Int)) by split <;> omega), if_pos (show (0 : Int) < s.size by omega), if_neg (show ¬ (1 : Int) > 1 by decide), a0]
  apply Ev.succ
  simp only [clapref1_Character.j1]
  rw [show wrap64 c0 = r1 by rw [w _ (by omega) (by omega), z1]]
  refine chr_l1 s 1 (by omega) (by omega) r1 _ _ (e1.trans m1) (fun q => hit _ _ (by decide) q) (fun n1 => ?_)
  by_cases hl : 2 ≤ s.size
  rotate_left
  · exact stop _ (by rw [mn_4]; split <;> omega) (by rcases cand with q | q | q | q | q <;> first | exact q | exact absurd q.1 n1 | (exfalso; omega))
  refine S2 hl _ ?_
  rw [← z2]
  refine chr_l1 s 2 hl (by omega) r2 _ _ ((e2 hl).trans (m2 (by omega))) (fun q => hit _ _ (by decide) q) (fun n2 => ?_)
  by_cases hl3 : 3 ≤ s.size
  rotate_left
  · exact stop _ (by rw [mn_4]; split <;> omega) (by rcases cand with q | q | q | q | q <;> first | exact q | exact absurd q.1 n1 | exact absurd q.1 n2 | (exfalso; omega))
  refine S3 hl3 _ ?_
  rw [← z3]
  refine chr_l1 s 3 hl3 (by omega) r3 _ _ ((e3 hl3).trans (m3 (by omega))) (fun q => hit _ _ (by decide) q) (fun n3 => ?_)
  by_cases hl4 : 4 ≤ s.size
  rotate_left
  · exact stop _ (by rw [mn_4]; split <;> omega) (by rcases cand with q | q | q | q | q <;> first | exact q | exact absurd q.1 n1 | exact absurd q.1 n2 | exact absurd q.1 n3 | (exfalso; omega))
  refine S4 hl4 _ ?_
  rw [← z4]
  refine chr_l1 s 4 hl4 (by omega) r4 _ _ ((e4 hl4).trans (m4 (by omega))) (fun q => hit _ _ (by decide) q) (fun n4 => ?_)
  exact stop _ (by rw [mn_4]; split <;> omega) (by rcases cand with q | q | q | q | q <;> first | exact q | exact absurd q.1 n1 | exact absurd q.1 n2 | exact absurd q.1 n3 | exact absurd q.1 n4 | (exfalso; omega))
end Go.Proofs.YtnbdmmepdmmbmaaDoor.PUtf
