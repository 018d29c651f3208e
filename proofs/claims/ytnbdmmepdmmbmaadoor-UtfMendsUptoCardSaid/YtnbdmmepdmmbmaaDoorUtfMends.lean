/- The walk of the law UtfMends. -/
import Derived.Test.YtnbdmmepdmmbmaaDoorPlugMend
import Derived.Test.YtnbdmmepdmmbmaaDoorPlugReturns
import Derived.Test.YtnbdmmepdmmbmaaDoorPUtfx2
import Derived.Test.YtnbdmmepdmmbmaaDoorRows
import Derived.Lib.ReplaceLaws
import Derived.Lib.SplitLaws
namespace Go.Proofs.YtnbdmmepdmmbmaaDoor
open Go.RowKit Go.Proofs.YtnbdmmepdmmbmaaDoorW.PrintWords Go.Proofs.YtnbdmmepdmmbmaaDoorW.PrintLast Go.Proofs.YtnbdmmepdmmbmaaDoor.PUtf
set_option linter.unusedVariables false
set_option linter.unusedSimpArgs false
theorem rA_short (s : List UInt8) : ∀ n, s.length ≤ n → (rA [13, 10] [10] s).length ≤ s.length := by
  intro n
  induction n generalizing s with
  | zero => intro h; obtain rfl : s = [] := List.eq_nil_of_length_eq_zero (by omega); rw [rA_nil (by simp)]; simp
  | succ n ih =>
    intro h
    cases s with
    | nil => rw [rA_nil (by simp)]; simp
    | cons x t =>
      simp only [List.length_cons] at h
      by_cases hp : ([13, 10] : List UInt8).isPrefixOf (x :: t) = true
      · rw [rA_hit (by simp) x t hp]
        have := ih ((x :: t).drop 2) (by simp; omega)
        rw [List.length_drop, List.length_cons] at this
        rw [List.length_append, List.length_singleton, show ([13, 10] : List UInt8).length = 2 from rfl, List.length_cons]; omega
      · rw [rA_miss (by simp) x t (by cases q : ([13, 10] : List UInt8).isPrefixOf (x :: t); rfl; exact absurd q hp)]
        have := ih t (by omega)
        rw [List.length_cons, List.length_cons]; omega
theorem cell_ofB {w w' : World} {A : Option Addr} {l : List Bool} (hC : Kd.C Kd.bool w A l.length l) (hb : Below w.heap.size w w') (k : Nat) (hk : k < l.length) : ∃ ad, A = some ad ∧ w'.cell? (ad.add k) = some (.bool (l.getD k false)) := by
  obtain ⟨ad, h1, h2⟩ := (Kd.reads_of_C (d := false) hC).at_ (k : Int) (by omega) (by omega)
  rw [Int.toNat_natCast] at h2
  exact ⟨ad, h1, pw_cell_below hb h2⟩
/-- One replacement, in a world that holds the variable MaxLen. -/
theorem repl_any (s old new t : ByteArray) (w : World) (hm : ∃ m, w.cell? ⟨0, 0, none⟩ = some (.int .i64 m)) (hs : s.size ≤ 4000000) (h1 : 1 ≤ old.size) (hn : new.size ≤ 4) (ht : Lib.replaceAll (lb s) (lb old) (lb new) = lb t) :
    Calls Tryd.prog 8 #[.string s, .string old, .string new] w fun e w' => e = .returned (.string t) ∧ Below w.heap.size w w' := by
  obtain ⟨m, hm⟩ := hm
  have hc := Lib.countB_le old h1 s.size s (Nat.le_refl _)
  have hmul : Lib.countB s old * new.size ≤ 4000000 * 4 := Nat.mul_le_mul (by omega) hn
  refine (Tryd.strings_ReplaceAll s old new m w (by omega) hm h1 (by omega)).mono ?_
  rintro e w' ⟨rfl, hb⟩
  refine ⟨?_, hb⟩
  have : (⟨(lb t).toArray⟩ : ByteArray) = t := lb_ext (by rw [lb_mk])
  rw [← this, ← ht]
theorem max_below {w w' : World} (h : ∃ m, w.cell? ⟨0, 0, none⟩ = some (.int .i64 m)) (hb : Below w.heap.size w w') : ∃ m, w'.cell? ⟨0, 0, none⟩ = some (.int .i64 m) := by
  obtain ⟨m, h⟩ := h
  exact ⟨m, pw_cell_below hb h⟩

theorem enc_bad : encL 65533 = [239, 191, 189] := by decide +kernel
theorem chs_ne (l : List UInt8) (h : chs l ≠ []) : l ≠ [] := fun q => h (by rw [q]; rfl)
structure Inv (s : ByteArray) (C : List (Int × Int × Bool)) (j p : Nat) (acc : List UInt8) : Prop where
  le : p ≤ s.size
  rest : C.drop j = chs ((lb s).drop p)
  ends : (endsL 0 C).drop j = endsL p (C.drop j)
  text : acc ++ mendL ((lb s).drop p) = mendL (lb s)
theorem drop_cons {α : Type} {l t : List α} {j : Nat} {x : α} (h : l.drop j = x :: t) : j < l.length ∧ l.drop (j + 1) = t ∧ ∀ d, l.getD j d = x := by
  have hl : j < l.length := by
    rcases Nat.lt_or_ge j l.length with q | q
    · exact q
    · rw [List.drop_eq_nil_of_le q] at h; cases h
  rw [List.drop_eq_getElem_cons hl] at h
  injection h with h1 h2
  exact ⟨hl, h2, fun d => by rw [List.getD_eq_getElem?_getD, List.getElem?_eq_getElem hl]; exact h1⟩
theorem mends_step (s : ByteArray) (C : List (Int × Int × Bool)) (j p : Nat) (acc : List UInt8) (h : Inv s C j p acc) (hj : j < C.length) :
    ∃ st : Nat, 1 ≤ st ∧ p + st ≤ s.size ∧ rd (endsL 0 C) j = ((p + st : Nat) : Int) ∧
      (((C.map (·.2.2)).getD j false = true ∧ Inv s C (j + 1) (p + st) (acc ++ lb (s.extract p (p + st)))) ∨ ((C.map (·.2.2)).getD j false = false ∧ Inv s C (j + 1) (p + st) (acc ++ [239, 191, 189]))) := by
  obtain ⟨hle, hr, he, ht⟩ := h
  have hne : (lb s).drop p ≠ [] := chs_ne _ (by rw [← hr]; intro q; have := congrArg List.length q; rw [List.length_drop] at this; simp at this; omega)
  obtain ⟨r1, r2, r3⟩ := stL_range _ hne
  rw [List.length_drop, lb_len] at r2
  have hm : mendL ((lb s).drop p) = mendC (chL ((lb s).drop p)) ++ mendL ((lb s).drop (p + stL ((lb s).drop p))) := by
    unfold mendL; rw [chs_cons _ hne, List.flatMap_cons, List.drop_drop]
  have hc := hr
  rw [chs_cons _ hne, List.drop_drop] at hc
  obtain ⟨_, hc1, hc2⟩ := drop_cons hc
  have he2 := he
  rw [hc, endsL] at he2
  obtain ⟨_, he3, he4⟩ := drop_cons he2
  have hg : (C.map (·.2.2)).getD j false = (chL ((lb s).drop p)).2.2 := by
    have : (C.map (·.2.2)).drop j = (chL ((lb s).drop p)).2.2 :: (C.drop (j + 1)).map (·.2.2) := by rw [← List.map_drop, hc, hc1]; rfl
    exact (drop_cons this).2.2 false
  have hcast : (p : Int) + (chL ((lb s).drop p)).2.1 = ((p + stL ((lb s).drop p) : Nat) : Int) := by rw [← r3]; omega
  refine ⟨stL ((lb s).drop p), r1, by omega, ?_, ?_⟩
  · unfold rd; rw [Int.toNat_natCast, he4, hcast]
  rw [hg]
  have hE : (endsL 0 C).drop (j + 1) = endsL ((p + stL ((lb s).drop p) : Nat) : Int) (C.drop (j + 1)) := by rw [he3, hc1, hcast]
  rcases chL_good ((lb s).drop p) with ⟨h1, h2⟩ | ⟨h1, h2⟩
  · refine .inr ⟨by rw [h2], by omega, hc1, hE, ?_⟩
    have e1 : mendC (chL ((lb s).drop p)) = [239, 191, 189] := by rw [h2, mendC, if_neg (by decide), enc_bad]
    rw [← ht, hm, List.append_assoc, e1]
  · refine .inl ⟨by rw [h2], by omega, hc1, hE, ?_⟩
    obtain ⟨k1, k2⟩ := good_enc _ hne h1
    have e : stL ((lb s).drop p) = (nxL ((lb s).drop p)).2.toNat := by unfold stL; rw [h2]
    have e1 : mendC (chL ((lb s).drop p)) = lb (s.extract p (p + stL ((lb s).drop p))) := by
      rw [lb_extract, Nat.add_sub_cancel_left, e, ← k2, ← encL_encU _ k1, h2, mendC, if_pos rfl]
    rw [← ht, hm, List.append_assoc, e1]
theorem mends_end (s : ByteArray) (C : List (Int × Int × Bool)) (p : Nat) (acc : List UInt8) (h : Inv s C C.length p acc) : acc = mendL (lb s) := by
  have hr := h.rest
  rw [List.drop_eq_nil_of_le (Nat.le_refl _)] at hr
  have : (lb s).drop p = [] := by
    by_cases q : (lb s).drop p = []
    · exact q
    · rw [chs_cons _ q] at hr; cases hr
  have ht := h.text
  rw [this] at ht
  rw [← ht, show mendL [] = [] from rfl, List.append_nil]
theorem mends_start (s : ByteArray) : Inv s (chs (lb s)) 0 0 [] := ⟨Nat.zero_le _, by simp, by simp, by simp⟩
set_option maxRecDepth 100000 in
set_option maxHeartbeats 2000000 in
theorem mends_walk (s : ByteArray) (w : World) (hs : s.size ≤ 1048576) (hm : ∃ m, w.cell? ⟨0, 0, none⟩ = some (.int .i64 m)) :
    Calls Tryd.prog 3 #[.string s] w (Tr w) := by
  have hch := chars_f s hs
  have hst := mends_start s
  have hCl := chs_length (lb s) _ (Nat.le_refl _)
  obtain ⟨C, hC⟩ : ∃ C, C = chs (lb s) := ⟨_, rfl⟩
  rw [← hC] at hch hst hCl
  rw [lb_len] at hCl
  obtain ⟨k, hk⟩ := Ev.rounds hch
  have hcalls := clapref1_Characters.calls k s _ _ _ w hk
  have HM := Lib.hid hm
  have HST := Lib.hid hst
  clear hm hC hk hch hst
  go_enter Tryd.func3, Tryd.ntmps3
  go_wp2_with fail
  go_at_call 7
  refine hcalls.mono ?_
  rintro e w1 ⟨v0, v1, v2, rfl, hr0, hr1, hr2, hb1⟩
  obtain ⟨A0, c0, rfl, hc0, hC0⟩ := Kd.R_reads hr0
  obtain ⟨A1, c1, rfl, hc1, hC1⟩ := Kd.R_reads hr1
  have hl0 : (endsL 0 C).length = C.length := endsL_length C 0
  have hl1 : (C.map (·.2.2)).length = C.length := List.length_map _
  rw [hl0] at hC0 hc0 ⊢
  rw [hl1] at hC1 hc1 ⊢
  have H0 := Lib.hid (fun wr (hb : Below w1.heap.size w1 wr) j (hj : j < C.length) => Plug.cell_of (l := endsL 0 C) (hl0.symm ▸ hC0) hb j (by rw [hl0]; exact hj))
  have H1 := Lib.hid (fun wr (hb : Below w1.heap.size w1 wr) j (hj : j < C.length) => cell_ofB (l := C.map (·.2.2)) (hl1.symm ▸ hC1) hb j (by rw [hl1]; exact hj))
  have HB1 := Lib.hid hb1
  clear hr0 hr1 hr2 hC0 hC1 hb1 hcalls hl0 hl1
  generalize hn : C.length = n at *
  go_wp2_with fail
  go_loopw [6, 7, 19] (fun f md i wr => ∃ (j p : Nat) (acc : ByteArray), j ≤ n ∧ i = .int .i64 j ∧ f = .int .i64 p ∧ md = .string acc ∧ Inv s C j p (lb acc) ∧ Below w1.heap.size w1 wr) (fun _ _ i _ => n - (intOf i).toNat)
  case atStart => exact ⟨0, 0, ByteArray.empty, Nat.zero_le _, rfl, rfl, rfl, HST.out, Below.refl _ _⟩
  case round =>
    obtain ⟨j, p, acc, hj, rfl, rfl, rfl, hI, hB⟩ := hrel
    have HI := Lib.hid hI
    have HB := Lib.hid hB
    clear hI hB
    by_cases hlt : j < n
    · obtain ⟨st, h1, h2, h3, h4⟩ := mends_step s C j p (lb acc) HI.out (by omega)
      obtain ⟨ad0, rfl, d0⟩ := H0.out _ HB.out j hlt
      obtain ⟨ad1, rfl, d1⟩ := H1.out _ HB.out j hlt
      obtain ⟨q, hq⟩ : ∃ q, q = p + st := ⟨_, rfl⟩
      rw [← hq] at h2 h3 h4
      rw [h3] at d0
      have hpq : p ≤ q := by omega
      clear hq
      have hal : acc.size ≤ 4194304 := by
        have e1 := mendL_len (lb s)
        have e2 := congrArg List.length HI.out.text
        rw [List.length_append, lb_len] at e2
        rw [lb_len] at e1
        omega
      have i0 : (0 : Int) ≤ j := by omega
      have i1 : (j : Int) < n := by omega
      have i2 : (0 : Int) ≤ p := by omega
      have i3 : (p : Int) ≤ q := by omega
      have i4 : (q : Int) ≤ s.size := by omega
      rcases h4 with ⟨h5, h6⟩ | ⟨h5, h6⟩
      · rw [h5] at d1
        have HI2 := Lib.hid h6
        have hx : (s.extract p q).size = q - p := by rw [ByteArray.size_extract]; omega
        clear h3 h5 h6
        go_wp2_with fail
        go_roundw
        case rel => exact ⟨j + 1, q, _, by omega, by go_num, rfl, rfl, by rw [lb_append]; exact HI2.out, HB.out⟩
        case measure => simp [intOf]; omega
      · rw [h5] at d1
        have HI2 := Lib.hid h6
        have hx : (⟨#[239, 191, 189]⟩ : ByteArray).size = 3 := rfl
        clear h3 h5 h6
        go_wp2_with fail
        go_roundw
        case rel => exact ⟨j + 1, q, _, by omega, by go_num, rfl, rfl, by rw [lb_append]; exact HI2.out, HB.out⟩
        case measure => simp [intOf]; omega
    · obtain rfl : j = n := by omega
      have hme := mends_end s C p (lb acc) (hn ▸ HI.out)
      obtain ⟨t1, ht1⟩ : ∃ t : ByteArray, t = ⟨(Lib.replaceAll (lb s) [13, 10] [10]).toArray⟩ := ⟨_, rfl⟩
      obtain ⟨t2, ht2⟩ : ∃ t : ByteArray, t = ⟨(linesP 0 (lb s)).toArray⟩ := ⟨_, rfl⟩
      obtain ⟨t3, ht3⟩ : ∃ t : ByteArray, t = ⟨(retL (linesP 0 (lb s))).toArray⟩ := ⟨_, rfl⟩
      have z1 : t1.size ≤ s.size := by
        have := rA_short (lb s) _ (Nat.le_refl _)
        rw [← rA_all (by decide)] at this
        rw [← lb_len, ht1, lb_mk, ← lb_len]; exact this
      have z2 : t2.size ≤ s.size := by
        have := linesP_len (lb s) 0
        rw [← lb_len, ht2, lb_mk, ← lb_len]; exact this
      have R1 := Lib.hid (fun W h => repl_any s ⟨#[13, 10]⟩ ⟨#[10]⟩ t1 W h (by omega) (by decide) (by decide) (by rw [ht1, lb_mk]))
      have R2 := Lib.hid (fun W h => repl_any t1 ⟨#[13]⟩ ⟨#[10]⟩ t2 W h (by omega) (by decide) (by decide) (by rw [ht1, ht2, lb_mk, lb_mk, ← lines_eq]))
      have R3 := Lib.hid (fun W h => repl_any t2 ⟨#[10]⟩ ⟨#[13, 10]⟩ t3 W h (by omega) (by decide) (by decide) (by rw [ht2, ht3, lb_mk, lb_mk, ← ret_eq]))
      have M1 := Lib.hid (fun W => mend_any s W (by omega))
      have L1 := Lib.hid (fun W => lines_any s W (by omega))
      have T1 := Lib.hid (fun W => returns_any s W (by omega))
      rw [← ht2] at L1
      rw [← ht3] at T1
      have CD := Lib.hid (fun W => claplaw1_coded.calls true W coded_f)
      obtain rfl : acc = ⟨(mendL (lb s)).toArray⟩ := lb_ext (hme.trans (lb_mk _).symm)
      generalize (⟨(mendL (lb s)).toArray⟩ : ByteArray) = acc at *
      have HMx := Lib.hid (max_below (max_below HM.out HB1.out) HB.out)
      have HBx := Lib.hid (blw_then HB1.out HB.out)
      clear hme ht1 ht2 ht3
      go_wp2_with (first
        | (go_at_call_of 8 (Value.string s); refine (R1.out _ HMx.out).mono ?_; rintro e w5 ⟨rfl, hb5⟩; have HMx := Lib.hid (max_below HMx.out hb5); have HBx := Lib.hid (blw_then HBx.out hb5); clear hb5)
        | (go_at_call_of 8 (Value.string t1); refine (R2.out _ HMx.out).mono ?_; rintro e w6 ⟨rfl, hb5⟩; have HMx := Lib.hid (max_below HMx.out hb5); have HBx := Lib.hid (blw_then HBx.out hb5); clear hb5)
        | (go_at_call_of 8 (Value.string t2); refine (R3.out _ HMx.out).mono ?_; rintro e w7 ⟨rfl, hb5⟩; have HMx := Lib.hid (max_below HMx.out hb5); have HBx := Lib.hid (blw_then HBx.out hb5); clear hb5)
        | (go_at_call 9; refine (CD.out _).mono ?_; rintro e w8 ⟨rfl, hb5⟩; have HMx := Lib.hid (max_below HMx.out hb5); have HBx := Lib.hid (blw_then HBx.out hb5); clear hb5)
        | (go_at_call 10; refine (M1.out _).mono ?_; rintro e w9 ⟨rfl, hb5⟩; have HMx := Lib.hid (max_below HMx.out hb5); have HBx := Lib.hid (blw_then HBx.out hb5); clear hb5)
        | (go_at_call 11; refine (L1.out _).mono ?_; rintro e w10 ⟨rfl, hb5⟩; have HMx := Lib.hid (max_below HMx.out hb5); have HBx := Lib.hid (blw_then HBx.out hb5); clear hb5)
        | (go_at_call 12; refine (T1.out _).mono ?_; rintro e w11 ⟨rfl, hb5⟩; have HMx := Lib.hid (max_below HMx.out hb5); have HBx := Lib.hid (blw_then HBx.out hb5); clear hb5))
      go_ret
      exact ⟨rfl, HBx.out⟩
theorem UtfMends_walk (s : ByteArray) (w : World) (hs : s.size + 1 ≤ 1048576) (hsh : w.ShapedOpen Tryd.prog) : Calls Tryd.prog 3 #[.string s] w (Tr w) :=
  mends_walk s w (by omega) (Tryd.laysM155.s1_3 w hsh)
end Go.Proofs.YtnbdmmepdmmbmaaDoor
