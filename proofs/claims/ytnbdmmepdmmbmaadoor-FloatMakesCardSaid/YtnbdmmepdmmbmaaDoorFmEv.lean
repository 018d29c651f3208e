/- What the reference's decimal numbers compute: each is the digits of a natural number. No statement is proved here. -/
import Derived.Test.YtnbdmmepdmmbmaaDoorPFmx4
import Derived.Test.YtnbdmmepdmmbmaaDoorDec
import Derived.Test.YtnbdmmepdmmbmaaDoorBits64
namespace Go.Proofs.YtnbdmmepdmmbmaaDoor.PFm
open Go.RowKit Go.Proofs.YtnbdmmepdmmbmaaDoorW.PrintWords Go.Proofs.YtnbdmmepdmmbmaaDoorW.PrintLast Go.Proofs.YtnbdmmepdmmbmaaDoorW.PrintMore Go.Proofs.YtnbdmmepdmmbmaaDoor Go.Proofs.YtnbdmmepdmmbmaaDoor.Plug
set_option linter.unusedVariables false
set_option linter.unusedSimpArgs false
/-- The digits of a number, as a string. -/
def D (n : Nat) : ByteArray := ⟨(decL n).toArray⟩
theorem lb_D (n : Nat) : lb (D n) = decL n := lb_mk _
theorem D_size (n : Nat) : (D n).size = (decL n).length := by rw [← lb_len, lb_D]
theorem clean_D (s : ByteArray) (h : digL (lb s)) : clapref1_clean.f s = some (D (valL (lb s))) := by
  unfold clapref1_clean.f D; rw [trim_dec _ h]
def d36 : ByteArray := ⟨#[48, 49, 50, 51, 52, 53, 54, 55, 56, 57, 97, 98, 99, 100, 101, 102, 103, 104, 105, 106, 107, 108, 109, 110, 111, 112, 113, 114, 115, 116, 117, 118, 119, 120, 121, 122]⟩
theorem num_one : ∀ n : Fin 10, lb (d36.extract n.val (n.val + 1)) = [UInt8.ofNat (48 + n.val)] := by decide +kernel
theorem numeral_ev : ∀ n : Nat, n < 9223372036854775808 → ∃ s, Ev (fun k => clapref1_Numeral.f k (n : Int) 10) s ∧ digL (lb s) ∧ valL (lb s) = n ∧ (lb s).length ≤ n + 1 ∧ (n < 10 → (lb s).length = 1) := by
  intro n
  induction n using Nat.strongRecOn with
  | _ n ih =>
    intro hn
    by_cases h : n < 10
    · have h1 := num_one ⟨n, h⟩
      have e : ((n : Int) + 1).toNat = n + 1 := by omega
      refine ⟨d36.extract n (n + 1), Ev.succ ?_, ?_⟩
      · simp only [clapref1_Numeral.f, if_pos (show (n : Int) < 10 by omega), if_pos (show (0 : Int) ≤ n by omega), wrap_eq (show -9223372036854775808 ≤ (n : Int) + 1 by omega) (by omega), if_pos (show (n : Int) ≤ n + 1 by omega), if_pos (show (n : Int) + 1 ≤ 36 by omega), Int.toNat_natCast, e]
        exact Ev.now _
      · rw [h1]
        refine ⟨digL_one n h, ?_, by simp, fun _ => rfl⟩
        simp [valL, UInt8.toNat_ofNat']; omega
    · obtain ⟨a, ha, da, va, la, _⟩ := ih (n / 10) (by omega) (by omega)
      obtain ⟨b, hb, db, vb, lb1, lb2⟩ := ih (n % 10) (by omega) (by omega)
      have e1 : wrap64 (Int.tdiv (n : Int) 10) = ((n / 10 : Nat) : Int) := by
        rw [Int.tdiv_eq_ediv_of_nonneg (by omega), wrap_eq (by omega) (by omega)]; omega
      have e2 : Int.tmod (n : Int) 10 = ((n % 10 : Nat) : Int) := by rw [Int.tmod_eq_emod_of_nonneg (by omega)]; omega
      have l2 := lb2 (by omega)
      refine ⟨a ++ b, Ev.succ ?_, ?_⟩
      · simp only [clapref1_Numeral.f, if_neg (show ¬ (n : Int) < 10 by omega), if_neg (show ¬ (10 : Int) = 0 by decide), e1, e2]
        refine Ev.bind ha (Ev.bind hb ?_)
        rw [← lb_len a, ← lb_len b, if_pos (by omega)]
        exact Ev.now _
      · rw [lb_append, valL_append, va, vb, l2]
        refine ⟨digL_append da db, by omega, by rw [List.length_append]; omega, fun q => absurd q h⟩
theorem nb8_dig (l : List UInt8) (j : Nat) (hd : digL l) (h : j < l.length) : (nb8 l j - 48) % 256 = (dig1 l j : Nat) := by
  have e : l.getD j 0 = l.getD j 48 := by simp [List.getD_eq_getElem?_getD, List.getElem?_eq_getElem h]
  have h2 := hd (l.getD j 48) (by rw [List.getD_eq_getElem?_getD, List.getElem?_eq_getElem h]; exact List.getElem_mem _)
  unfold nb8 dig1
  rw [e]
  omega
theorem times_step (A zl : List UInt8) (L m j c : Nat) (hA : A.length = L) (hz : zl.length = L) (hj : j + 1 ≤ L) (hm : m ≤ 25) (hc : c ≤ 24) (hdA : digL A)
    (hdz : digL (zl.drop (j + 1))) (hv : valL (zl.drop (j + 1)) + c * 10 ^ (L - (j + 1)) = m * valL (A.drop (j + 1))) (t : Nat) (ht : t = c + m * dig1 A j) :
    t / 10 ≤ 24 ∧ t ≤ 249 ∧ digL ((zl.set j (UInt8.ofNat (48 + t % 10))).drop j) ∧ valL ((zl.set j (UInt8.ofNat (48 + t % 10))).drop j) + t / 10 * 10 ^ (L - j) = m * valL (A.drop j) := by
  have h1 := dig1_le A j hdA
  have h2 : m * dig1 A j ≤ 25 * 9 := Nat.mul_le_mul hm h1
  have hx : (zl.set j (UInt8.ofNat (48 + t % 10))).drop j = UInt8.ofNat (48 + t % 10) :: zl.drop (j + 1) := by
    rw [List.drop_eq_getElem_cons (by rw [List.length_set]; omega), List.getElem_set_self, List.drop_set_of_lt (by omega)]
  refine ⟨by omega, by omega, ?_, ?_⟩
  · rw [hx]
    exact digL_append (digL_one _ (Nat.mod_lt _ (by decide))) hdz
  · rw [hx, valL_drop A j (by omega), hA]
    simp only [valL, List.length_drop, hz, UInt8.toNat_ofNat']
    have e1 : L - j = (L - (j + 1)) + 1 := by omega
    have e2 : L - j - 1 = L - (j + 1) := by omega
    have e6 : 10 ^ (L - j) = 10 ^ (L - (j + 1)) * 10 := by rw [e1, Nat.pow_succ]
    rw [e2, e6]
    generalize 10 ^ (L - (j + 1)) = P at *
    have e3 : (48 + t % 10) % 2 ^ 8 - 48 = t % 10 := by omega
    rw [e3]
    have e4 : t * P = t % 10 * P + t / 10 * (P * 10) := by
      conv => lhs; rw [← Nat.div_add_mod t 10]
      rw [Nat.add_mul, Nat.mul_comm 10, Nat.mul_assoc, Nat.mul_comm 10 P]; omega
    have e5 : t * P = c * P + m * (dig1 A j * P) := by rw [ht, Nat.add_mul, Nat.mul_assoc]
    rw [Nat.mul_add]
    omega
theorem m48 (t : Nat) : 48 + t % 10 < 256 := by omega
theorem tm10 (t : Nat) : Int.tmod (t : Int) 10 = ((t % 10 : Nat) : Int) := by rw [Int.tmod_eq_emod_of_nonneg (by omega)]; omega
theorem td10 (t : Nat) : Int.tdiv (t : Int) 10 = ((t / 10 : Nat) : Int) := by rw [Int.tdiv_eq_ediv_of_nonneg (by omega)]; omega
theorem w48 (t : Nat) : wrap64 (48 + ((t % 10 : Nat) : Int)) % 256 = ((48 + t % 10 : Nat) : Int) := by rw [wrap_eq (by omega) (by omega)]; omega
theorem wnat (t : Nat) (h : t ≤ 1000000) : wrap64 (t : Int) = (t : Int) := wrap_eq (by omega) (by omega)
theorem wsub1 (t : Nat) (h : t ≤ 1000000) : wrap64 ((t : Int) - 1) = (t : Int) - 1 := wrap_eq (by omega) (by omega)
theorem wsub3 (t : Nat) (h : t ≤ 1000000) : wrap64 ((t : Int) - 3) = (t : Int) - 3 := wrap_eq (by omega) (by omega)
theorem wmul (m d : Nat) (h : m * d ≤ 1000000) : wrap64 ((m : Int) * (d : Int)) = ((m * d : Nat) : Int) := by
  rw [← Int.natCast_mul]; exact wnat _ h
theorem wadd (c d : Nat) (h : c + d ≤ 1000000) : wrap64 ((c : Int) + (d : Int)) = ((c + d : Nat) : Int) := by
  rw [← Int.natCast_add]; exact wnat _ h
theorem times_loop (n m L : Nat) (hL : L = (decL n).length + 3) (hm : m ≤ 25) (hl : L ≤ 1000000) : ∀ (j c : Nat) (zl : List UInt8), j ≤ L → zl.length = L → c ≤ 24 → digL (zl.drop j) → valL (zl.drop j) + c * 10 ^ (L - j) = m * valL ((padL L (decL n)).drop j) →
    Ev (fun k => clapref1_times.l0 k (D n) (m : Int) (u8i zl) (c : Int) ((j : Int) - 1)) (D (n * m)) := by
  have hAl := padL_len L (decL n) (by omega)
  have hAd := padL_dig L (decL n) (decL_dig n)
  intro j
  induction j with
  | zero =>
    intro c zl _ hz hc hd hv
    apply Ev.succ
    simp only [clapref1_times.l0, if_neg (show ¬ ((0 : Nat) : Int) - 1 ≥ 0 by decide)]
    rw [List.drop_zero] at hd
    rw [List.drop_zero, List.drop_zero, padL_val, decL_val, Nat.sub_zero] at hv
    have h0 := valL_lt _ (decL_dig n)
    rw [decL_val] at h0
    have hc0 : c = 0 := by
      have hp : 10 ^ L = 10 ^ (decL n).length * 1000 := by rw [hL, Nat.pow_add]
      rw [hp] at hv
      have h1 : m * n ≤ 25 * n := Nat.mul_le_mul_right _ hm
      rcases Nat.eq_zero_or_pos c with q | q
      · exact q
      · have h2 : 1 * (10 ^ (decL n).length * 1000) ≤ c * (10 ^ (decL n).length * 1000) := Nat.mul_le_mul_right _ q
        omega
    subst hc0
    rw [clean_D _ (by rw [u8i_str]; exact hd), u8i_str, show valL zl = n * m by rw [Nat.mul_comm]; omega]
    exact Ev.now _
  | succ i ih =>
    intro c zl hj hz hc hd hv
    apply Ev.succ
    have hji : ((i + 1 : Nat) : Int) - 1 = i := by omega
    obtain ⟨t, ht⟩ : ∃ t, t = c + m * dig1 (padL L (decL n)) i := ⟨_, rfl⟩
    obtain ⟨s1, s0, s2, s3⟩ := times_step _ zl L m i c hAl hz hj hm hc hAd hd hv t ht
    have IH := ih (t / 10) (zl.set i (UInt8.ofNat (48 + t % 10))) (by omega) (by rw [List.length_set]; exact hz) s1 s2 s3
    clear hv s3 hd s2 ih
    rw [pad_get L i (decL n) (by omega) (by omega)] at ht
    have hi6 : i ≤ 1000000 := by omega
    have e13 := tm10 t
    have e14 := td10 t
    have e15 := w48 t
    have e16 := wnat (t / 10) (Nat.le_trans s1 (by decide))
    have e17 := wsub1 i hi6
    have e18 := wsub3 i hi6
    have ht250 : t ≤ 1000000 := Nat.le_trans s0 (by decide)
    clear s1 s0
    rw [hji]
    by_cases h3 : 3 ≤ i
    · rw [if_pos (by omega)] at ht
      have ei : (i : Int) - 3 = ((i - 3 : Nat) : Int) := by omega
      have hLi : i - (L - (decL n).length) = i - 3 := by omega
      rw [hLi] at ht
      have hlt : i - 3 < (decL n).length := by omega
      have hb : (bt (D n) ((i - 3 : Nat) : Int) - 48) % 256 = (dig1 (decL n) (i - 3) : Nat) := by rw [bt_lb, lb_D]; exact nb8_dig _ _ (decL_dig n) hlt
      have hmd : m * dig1 (decL n) (i - 3) ≤ 25 * 9 := Nat.mul_le_mul hm (dig1_le _ _ (decL_dig n))
      have e11 := wmul m (dig1 (decL n) (i - 3)) (Nat.le_trans hmd (by decide))
      have e12 := wadd c (m * dig1 (decL n) (i - 3)) (by rw [← ht]; exact ht250)
      rw [← ht] at e12
      simp only [clapref1_times.l0, if_pos (show (i : Int) ≥ 0 by omega), e18.trans ei, if_pos (show ((i - 3 : Nat) : Int) ≥ 0 by omega), if_pos (show (0 : Int) ≤ ((i - 3 : Nat) : Int) by omega), D_size, if_pos (show ((i - 3 : Nat) : Int) < ((decL n).length : Int) by omega), if_pos (show (0 : Int) ≤ i by omega), u8i_len, hz, if_pos (show (i : Int) < (L : Int) by omega), hb, e11, e12, e13, e14, e15, e16, e17, Int.toNat_natCast]
      rw [u8i_set _ _ _ (m48 _)]
      exact IH
    · rw [if_neg (by omega)] at ht
      have hct : t = c := by omega
      subst hct
      simp only [clapref1_times.l0, if_pos (show (i : Int) ≥ 0 by omega), e18, if_neg (show ¬ (i : Int) - 3 ≥ 0 by omega), if_pos (show (0 : Int) ≤ i by omega), u8i_len, hz, if_pos (show (i : Int) < (L : Int) by omega), e13, e14, e15, e16, e17, Int.toNat_natCast]
      rw [u8i_set _ _ _ (m48 _)]
      exact IH
theorem times_ev (n m : Nat) (hm : m ≤ 25) (hl : (decL n).length ≤ 900000) : Ev (fun k => clapref1_times.f k (D n) (m : Int)) (D (n * m)) := by
  have e1 : wrap64 (((D n).size : Int) + 3) = (((decL n).length + 3 : Nat) : Int) := by rw [D_size, wrap_eq (by omega) (by omega)]; omega
  have e2 : List.replicate ((decL n).length + 3) (0 : Int) = u8i (List.replicate ((decL n).length + 3) 0) := by unfold u8i; rw [List.map_replicate]; rfl
  have e3 : wrap64 ((((decL n).length + 3 : Nat) : Int) - 1) = (((decL n).length + 3 : Nat) : Int) - 1 := by rw [wrap_eq (by omega) (by omega)]
  simp only [clapref1_times.f, e1, if_pos (show (0 : Int) ≤ (((decL n).length + 3 : Nat) : Int) by omega), Int.toNat_natCast, if_pos (show (decL n).length + 3 ≤ 281474976710656 by omega), Option.bind_some, e2, u8i_len, List.length_replicate, e3]
  refine times_loop n m _ rfl hm (by omega) _ 0 _ (Nat.le_refl _) List.length_replicate (by omega) ?_ ?_
  · rw [List.drop_eq_nil_of_le (by simp)]; exact digL_nil
  · rw [List.drop_eq_nil_of_le (by simp), List.drop_eq_nil_of_le (by rw [padL_len _ _ (by omega)]; omega)]; simp [valL]
end Go.Proofs.YtnbdmmepdmmbmaaDoor.PFm
