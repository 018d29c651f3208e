/- Contract of clapref1.plus, in the print's form. No statement is proved here. -/
import Derived.Test.YtnbdmmepdmmbmaaDoorPlugClean
import Derived.Test.YtnbdmmepdmmbmaaDoorAid
import Derived.Test.YtnbdmmepdmmbmaaDoorDec
namespace Go.Proofs.YtnbdmmepdmmbmaaDoor.Plug
open Go.RowKit Go.Proofs.YtnbdmmepdmmbmaaDoorW.PrintWords Go.Proofs.YtnbdmmepdmmbmaaDoorW.PrintLast
set_option linter.unusedVariables false
set_option linter.unusedSimpArgs false
def digB (l : List UInt8) : Bool := l.all fun c => decide (48 ≤ c.toNat ∧ c.toNat ≤ 57)
theorem digB_iff (l : List UInt8) : digB l = true ↔ digL l := by simp [digB, digL]
def clapref1_plus.f (a0 a1 : ByteArray) : Option ByteArray :=
  if a0.size ≤ 100000 ∧ a1.size ≤ 100000 ∧ digB (lb a0) = true ∧ digB (lb a1) = true then some ⟨(decL (valL (lb a0) + valL (lb a1))).toArray⟩ else none
set_option maxHeartbeats 1000000 in
set_option maxRecDepth 100000 in
theorem at_any (s : ByteArray) (i n : Nat) (b : Nat) (w : World) (hd : digL (lb s)) (hc : w.cell? ⟨b, 0, none⟩ = some (.int .i64 n)) (hs : s.size ≤ n) (hn : n ≤ 1000000) (hi : i < n) :
    Calls Tryd.prog 99 #[.string s, .int .i64 i, .pointer (some ⟨b, 0, none⟩)] w fun e w' => e = .returned (.int .i64 (dig1 (padL n (lb s)) i : Nat)) ∧ w' = w := by
  rw [pad_get n i (lb s) (by rw [lb_len]; exact hs) hi, lb_len]
  have hg : ∀ j (h : j < s.size), (((s[j].toNat : Nat) : Int) - 48) % 256 = (dig1 (lb s) j : Nat) := fun j h => by
    have e : (lb s).getD j 48 = s[j] := by unfold lb; rw [List.getD_eq_getElem?_getD, Array.getElem?_toList, Array.getElem?_eq_getElem h]; rfl
    have h2 := hd ((lb s).getD j 48) (by rw [List.getD_eq_getElem?_getD, List.getElem?_eq_getElem (by rw [lb_len]; exact h)]; exact List.getElem_mem _)
    unfold dig1
    rw [e] at h2 ⊢
    omega
  have HG := Lib.hid hg
  clear hg
  go_enter Tryd.func99, Tryd.ntmps99
  go_wp2
  · go_ret
    exact ⟨ret_int (HG.out _ (by omega)), rfl⟩
  · go_ret
    exact ⟨rfl, rfl⟩
def u8i (l : List UInt8) : List Int := l.map fun u => ((u.toNat : Nat) : Int)
theorem u8i_set (l : List UInt8) (i : Nat) (x : Nat) (h : x < 256) : (u8i l).set i (x : Int) = u8i (l.set i (UInt8.ofNat x)) := by
  unfold u8i; rw [List.map_set]; congr 1; rw [UInt8.toNat_ofNat']; omega
theorem u8i_len (l : List UInt8) : (u8i l).length = l.length := List.length_map _
theorem u8i_str (l : List UInt8) : lb (strOfNums (u8i l)) = l := by
  rw [strOf_lb]; unfold u8i; rw [List.map_map]
  conv => rhs; rw [← List.map_id l]
  apply List.map_congr_left
  intro u _
  simp
theorem zero_row (n : Nat) {w6 : World} {B B' : Nat} {v1 : Value} (h : Kd.R (Kd.int .u8) 5 w6 B' (fun _ => True) v1 (List.replicate (n : Int).toNat 0)) (hb : B ≤ B') : Kd.R (Kd.int .u8) 5 w6 B (fun _ => True) v1 (u8i (List.replicate n 0)) := by
  have e : List.replicate (n : Int).toNat (0 : Int) = u8i (List.replicate n 0) := by unfold u8i; rw [List.map_replicate]; rfl
  rw [← e]; exact Kd.R_lower h hb
theorem info5 : (Tryd.prog.info? 5).map (fun i => (i.zero, i.size, i.bytes)) = some (some (.int .u8 0), 1, 1) := by kernel_rfl
theorem plus_step (A B zl : List UInt8) (n j c : Nat) (hA : A.length = n) (hB : B.length = n) (hz : zl.length = n) (hj : j + 1 ≤ n) (hc : c ≤ 1) (hdA : digL A) (hdB : digL B)
    (hdz : digL (zl.drop (j + 1))) (hv : valL (zl.drop (j + 1)) + c * 10 ^ (n - (j + 1)) = valL (A.drop (j + 1)) + valL (B.drop (j + 1))) (t : Nat) (ht : t = c + (dig1 A j + dig1 B j)) :
    t / 10 ≤ 1 ∧ digL ((zl.set j (UInt8.ofNat (48 + t % 10))).drop j) ∧ valL ((zl.set j (UInt8.ofNat (48 + t % 10))).drop j) + t / 10 * 10 ^ (n - j) = valL (A.drop j) + valL (B.drop j) := by
  have h1 := dig1_le A j hdA
  have h2 := dig1_le B j hdB
  have hx : (zl.set j (UInt8.ofNat (48 + t % 10))).drop j = UInt8.ofNat (48 + t % 10) :: zl.drop (j + 1) := by
    rw [List.drop_eq_getElem_cons (by rw [List.length_set]; omega), List.getElem_set_self, List.drop_set_of_lt (by omega)]
  refine ⟨by omega, ?_, ?_⟩
  · rw [hx]
    exact digL_append (digL_one _ (Nat.mod_lt _ (by decide))) hdz
  · rw [hx, valL_drop A j (by omega), valL_drop B j (by omega), hA, hB]
    simp only [valL, List.length_drop, hz, UInt8.toNat_ofNat']
    have e1 : n - j = (n - (j + 1)) + 1 := by omega
    have e2 : n - j - 1 = n - (j + 1) := by omega
    have e6 : 10 ^ (n - j) = 10 ^ (n - (j + 1)) * 10 := by rw [e1, Nat.pow_succ]
    rw [e2, e6]
    generalize 10 ^ (n - (j + 1)) = P at *
    have e3 : (48 + t % 10) % 2 ^ 8 - 48 = t % 10 := by omega
    rw [e3]
    have e4 : t * P = t % 10 * P + t / 10 * (P * 10) := by
      conv => lhs; rw [← Nat.div_add_mod t 10]
      rw [Nat.add_mul, Nat.mul_comm 10, Nat.mul_assoc, Nat.mul_comm 10 P]; omega
    have e5 : t * P = c * P + (dig1 A j * P + dig1 B j * P) := by rw [ht, Nat.add_mul, Nat.add_mul]
    omega
set_option maxHeartbeats 2000000 in
set_option maxRecDepth 100000 in
theorem clapref1_plus.calls (a0 a1 : ByteArray) (r : ByteArray) (w : World) (h : clapref1_plus.f a0 a1 = some r) :
    Calls Tryd.prog 82 #[.string a0, .string a1] w fun e w' => e = .returned (.string r) ∧ Below w.heap.size w w' := by
  unfold clapref1_plus.f at h
  split at h
  case isFalse => cases h
  rename_i q
  obtain ⟨z0, z1, d0, d1⟩ := q
  rw [digB_iff] at d0 d1
  have HR := Lib.hid (Option.some.inj h)
  obtain ⟨n, hn⟩ : ∃ n, n = max a0.size a1.size + 1 := ⟨_, rfl⟩
  have hn0 : a0.size + 1 ≤ n := by omega
  have hn1 : a1.size + 1 ≤ n := by omega
  have hn2 : n ≤ 200000 := by omega
  have HD0 := Lib.hid d0
  have HD1 := Lib.hid d1
  obtain ⟨A, hA⟩ : ∃ A, A = padL n (lb a0) := ⟨_, rfl⟩
  obtain ⟨B, hB⟩ : ∃ B, B = padL n (lb a1) := ⟨_, rfl⟩
  have lA : A.length = n := by rw [hA]; exact padL_len n _ (by rw [lb_len]; omega)
  have lB : B.length = n := by rw [hB]; exact padL_len n _ (by rw [lb_len]; omega)
  have DA : digL A := by rw [hA]; exact padL_dig n _ d0
  have DB : digL B := by rw [hB]; exact padL_dig n _ d1
  have hmx : max (a0.size : Int) (a1.size : Int) + 1 = n := by omega
  have HA := Lib.hid hA
  have HB := Lib.hid hB
  have HDA := Lib.hid DA
  have HDB := Lib.hid DB
  clear h d0 d1 hA hB DA DB hn
  go_enter Tryd.func82, Tryd.ntmps82
  obtain ⟨b, hb0⟩ : ∃ b, b = w.heap.size := ⟨_, rfl⟩
  go_wp2_with ((with_reducible refine gate_dst (N := 17) rfl ?_); refine Kd.R_make (Kd.int .u8) _ 5 rfl (N := 17) rfl 30 _ _ rfl (n : Int) rfl rfl Tryd.underlying30 (.int .u8 0) 1 info5 rfl (by decide) (by omega) 0 (ok := fun _ => True) (okp := fun _ => True) rfl (fun _ hk => hk) trivial (by omega) (by omega) (Below.refl _ _) (Nat.le_refl _) ?_; intro v1 w6 ho7 hb hg_ hnew_; clear hg_ hnew_; have hcl := pw_cell_below hb (show (w.alloc (Obj.cells #[Value.int .i64 n] 3)).cell? ⟨w.heap.size, 0, none⟩ = some (.int .i64 n) by simp [go_sem]); have hsz6 := hb.size; have HO := Lib.hid (zero_row n ho7 (show w.heap.size + 1 ≤ _ by simp)); have HB6 := Lib.hid (blw_then (blw_alloc (Below.refl _ w) _) hb); clear ho7 hb; obtain ⟨A1, c1, hv1⟩ := Kd.R_slice HO.out; subst hv1; rw [u8i_len, List.length_replicate] at HO ⊢)
  rw [← hb0] at hcl HO ⊢
  have hsz : b + 1 ≤ w6.heap.size := by simp at hsz6; omega
  have hne : (0 : Int) < n := by omega
  clear hsz6
  have HB0 := Lib.hid hb0
  clear hb0

  have HCL := Lib.hid hcl
  clear hcl
  go_loopw [7, 9] (fun cv iv wr => ∃ (j c : Nat) (zl : List UInt8), j ≤ n ∧ c ≤ 1 ∧ zl.length = n ∧ cv = .int .i64 c ∧ iv = .int .i64 ((j : Int) - 1) ∧ digL (zl.drop j) ∧ valL (zl.drop j) + c * 10 ^ (n - j) = valL (A.drop j) + valL (B.drop j) ∧ Kd.R (Kd.int .u8) 5 wr (b + 1) (fun _ => True) (.slice A1 n c1) (u8i zl) ∧ Below (b + 1) w6 wr) (fun _ iv _ => (intOf iv + 1).toNat)
  case atStart => exact ⟨n, 0, List.replicate n 0, Nat.le_refl _, by omega, List.length_replicate, rfl, rfl, by rw [List.drop_eq_nil_of_le (by simp)]; exact digL_nil, by rw [show A.drop n = [] from List.drop_eq_nil_of_le (by omega), show B.drop n = [] from List.drop_eq_nil_of_le (by omega), List.drop_eq_nil_of_le (by simp)]; simp [valL], HO.out, Below.refl _ _⟩
  case round =>
    obtain ⟨j, c, zl, hj, hc, hz, rfl, rfl, hdz, hv, hR, hBl⟩ := hrel
    have HDZ := Lib.hid hdz
    have HV := Lib.hid hv
    have HRr := Lib.hid hR
    have HBl := Lib.hid hBl
    clear hdz hv hR hBl
    have hcl : wr.cell? ⟨b, 0, none⟩ = some (.int .i64 n) := by rw [← HCL.out]; simp only [World.cell?, HBl.out.block b (by omega)]
    by_cases hj0 : j = 0
    · subst hj0
      have hc0 : c = 0 ∧ valL zl = valL (lb a0) + valL (lb a1) := by
        have hv := HV.out
        simp only [List.drop_zero, Nat.sub_zero] at hv
        rw [HA.out, HB.out, padL_val, padL_val] at hv
        have h0 := valL_lt _ HD0.out
        have h1 := valL_lt _ HD1.out
        rw [lb_len] at h0 h1
        have p0 : 10 ^ a0.size ≤ 10 ^ (n - 1) := Nat.pow_le_pow_right (by decide) (by omega)
        have p1 : 10 ^ a1.size ≤ 10 ^ (n - 1) := Nat.pow_le_pow_right (by decide) (by omega)
        have pn : 10 ^ n = 10 ^ (n - 1) * 10 := by rw [← Nat.pow_succ]; congr 1; omega
        rw [pn] at hv
        have hc0 : c = 0 := by
          rcases Nat.eq_zero_or_pos c with q | q
          · exact q
          · have : c = 1 := by omega
            subst this; omega
        subst hc0
        exact ⟨rfl, by omega⟩
      have hcv := own_string (P := Tryd.prog) Tryd.underlying30 Tryd.underlying5 Tryd.underlying9 (Kd.own_of_R HRr.out)
      have hcl2 := clapref1_clean.calls (strOfNums (u8i zl)) r
      have hr : clapref1_clean.f (strOfNums (u8i zl)) = some r := by
        have hd := HDZ.out
        rw [List.drop_zero] at hd
        unfold clapref1_clean.f
        rw [u8i_str, trim_dec _ hd, hc0.2, HR.out]
      go_wp2_with (go_at_call 52; refine (hcl2 wr hr).mono ?_; rintro e w' ⟨rfl, ⟨nd, rfl⟩⟩)
      go_ret
      exact ⟨rfl, blw_drewN (HB6.out.trans (HBl.out.mono (by have := HB0.out; omega))) nd⟩
    · obtain ⟨i, rfl⟩ : ∃ i, j = i + 1 := ⟨j - 1, by omega⟩
      have hji : ((i + 1 : Nat) : Int) - 1 = i := by omega
      rw [hji]
      obtain ⟨g, cap, eo, gb, gl, cl, HG⟩ := Kd.R_form HRr.out (by rw [u8i_len]; omega)
      injection eo with ea e2 e3
      subst ea
      clear e2 e3
      have ha := at_any a0 i n b wr HD0.out hcl (by omega) (by omega) (by omega)
      have hbb := at_any a1 i n b wr HD1.out hcl (by omega) (by omega) (by omega)
      rw [← HA.out] at ha
      rw [← HB.out] at hbb
      obtain ⟨t, ht⟩ : ∃ t, t = c + (dig1 A i + dig1 B i) := ⟨_, rfl⟩
      have hst := plus_step A B zl n i c lA lB hz hj hc HDA.out HDB.out HDZ.out HV.out t ht
      have hd1 := dig1_le A i HDA.out
      have hd2 := dig1_le B i HDB.out
      generalize dig1 A i = da at *
      generalize dig1 B i = db at *
      have HST := Lib.hid hst
      have i0 : (0 : Int) ≤ i := by omega
      have i1 : (i : Int) < n := by omega
      obtain ⟨hx, hf⟩ := Kd.R_celln 0 HRr.out (i : Int) i0 i1
      have hP := Kd.R_putg HRr.out (i : Int) (((48 + t % 10 : Nat) : Int))
      rw [Int.toNat_natCast] at hx hf hP
      have HP := Lib.hid hP
      have HT := Lib.hid ht
      have htl : t ≤ 19 := by omega
      clear hP hst ht cl HG
      go_wp2_with (first
        | (go_at_call_of 99 (Value.string a0); refine ha.mono ?_; rintro e w' ⟨rfl, hw⟩; subst w')
        | (go_at_call_of 99 (Value.string a1); refine hbb.mono ?_; rintro e w' ⟨rfl, hw⟩; subst w'))
      have hx48 : (48 + ((c : Int) + ((da : Int) + (db : Int))) % 10) = ((48 + t % 10 : Nat) : Int) := by rw [HT.out]; omega
      have ht10 : ((c : Int) + ((da : Int) + (db : Int))) / 10 = ((t / 10 : Nat) : Int) := by rw [HT.out]; omega
      rw [hx48, ht10]
      obtain ⟨s1, s2, s3⟩ := HST.out
      refine ⟨⟨i, t / 10, zl.set i (UInt8.ofNat (48 + t % 10)), by omega, s1, by rw [List.length_set]; exact hz, rfl, rfl, s2, s3, ?_, ?_⟩, by simp [intOf]⟩
      · rw [← u8i_set _ _ _ (by omega)]; exact HP.out.1
      · exact HBl.out.setCell (p := ⟨g, i, none⟩) gb _
end Go.Proofs.YtnbdmmepdmmbmaaDoor.Plug
