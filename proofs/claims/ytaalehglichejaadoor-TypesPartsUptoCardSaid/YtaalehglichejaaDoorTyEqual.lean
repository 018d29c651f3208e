/- Contract of types.Equal (over slices.EqualFunc with a closure; recursive). No statement is proved here. -/
import Derived.Test.YtaalehglichejaaDoorTyPart
namespace Go.Proofs.YtaalehglichejaaDoor.PTy
open Go.RowKit Go.Proofs.YtaalehglichejaaDoorW.PrintWords Go.Proofs.YtaalehglichejaaDoorW.PrintLast
set_option linter.unusedVariables false
set_option linter.unusedSimpArgs false
mutual
/-- Are two types the same data? -/
def eqV : S24g S29 → S24g S29 → Bool
  | ⟨k, n, l, h, p, fs⟩, b => (k == b.f0) && (n.toList == b.f1.toList) && (l == b.f2) && (h == b.f3) && (p.toList == b.f4.toList) && eqFs fs b.f5
def eqF : S29 → S29 → Bool
  | ⟨s, v⟩, g => (s.toList == g.f0.toList) && eqV v g.f1
def eqFs : List S29 → List S29 → Bool
  | [], [] => true
  | [], _ :: _ => false
  | _ :: _, [] => false
  | f :: t, g :: u => eqF f g && eqFs t u
end
theorem eqV_eq (a b : S24g S29) : eqV a b = ((a.f0 == b.f0) && (a.f1.toList == b.f1.toList) && (a.f2 == b.f2) && (a.f3 == b.f3) && (a.f4.toList == b.f4.toList) && eqFs a.f5 b.f5) := by cases a; rfl
theorem eqF_eq (f g : S29) : eqF f g = ((f.f0.toList == g.f0.toList) && eqV f.f1 g.f1) := by cases f; rfl
theorem eqFs_len : ∀ l m : List S29, l.length ≠ m.length → eqFs l m = false
  | [], [], h => absurd rfl h
  | [], _ :: _, _ => rfl
  | _ :: _, [], _ => rfl
  | f :: t, g :: u, h => by
    have := eqFs_len t u (by simpa using h)
    show (eqF f g && eqFs t u) = false
    rw [this, Bool.and_false]
theorem eqFs_step (l m : List S29) (j : Nat) (h : j < l.length) (h2 : j < m.length) : eqFs (l.drop j) (m.drop j) = (eqF l[j] m[j] && eqFs (l.drop (j + 1)) (m.drop (j + 1))) := by
  rw [List.drop_eq_getElem_cons h, List.drop_eq_getElem_cons h2]; rfl
def EqAt (x y : S24g S29) : Prop := ∀ (A : Option Addr) (c : Nat) (B : Option Addr) (d : Nat) (w : World), Kd.C k29 w A x.f5.length x.f5 → x.f5.length ≤ c → Kd.C k29 w B y.f5.length y.f5 → y.f5.length ≤ d →
  Calls Tryd.prog 10 #[.agg #[.int .i64 x.f0, .string x.f1, .int .i64 x.f2, .int .i64 x.f3, .string x.f4, .slice A x.f5.length c], .agg #[.int .i64 y.f0, .string y.f1, .int .i64 y.f2, .int .i64 y.f3, .string y.f4, .slice B y.f5.length d]] w fun e w' => e = .returned (.bool (eqV x y)) ∧ Below w.heap.size w w'
set_option maxHeartbeats 4000000 in
set_option maxRecDepth 1000000 in
theorem clo_c (f g : S29) (A B : Option Addr) (c d : Nat) (w : World) (hC : Kd.C k29 w A f.f1.f5.length f.f1.f5) (hc : f.f1.f5.length ≤ c) (hD : Kd.C k29 w B g.f1.f5.length g.f1.f5) (hd : g.f1.f5.length ≤ d) (IH : Hid (EqAt f.f1 g.f1)) :
    Calls Tryd.prog 17 #[.agg #[.string f.f0, .int .i64 f.f1.f0, .string f.f1.f1, .int .i64 f.f1.f2, .int .i64 f.f1.f3, .string f.f1.f4, .slice A f.f1.f5.length c], .agg #[.string g.f0, .int .i64 g.f1.f0, .string g.f1.f1, .int .i64 g.f1.f2, .int .i64 g.f1.f3, .string g.f1.f4, .slice B g.f1.f5.length d]] w fun e w' => e = .returned (.bool (eqF f g)) ∧ Below w.heap.size w w' := by
  have hu24 := Tryd.underlying24
  have hu29 := Tryd.underlying29
  have HB := Lib.hid (show Below w.heap.size w ((w.alloc (.cells #[.string f.f0, .int .i64 f.f1.f0, .string f.f1.f1, .int .i64 f.f1.f2, .int .i64 f.f1.f3, .string f.f1.f4, .slice A f.f1.f5.length c] 29)).alloc (.cells #[.string g.f0, .int .i64 g.f1.f0, .string g.f1.f1, .int .i64 g.f1.f2, .int .i64 g.f1.f3, .string g.f1.f4, .slice B g.f1.f5.length d] 29)) from blw_alloc (blw_alloc (Below.refl _ _) _) _)
  have HC := Lib.hid (Kd.C_below hC HB.out)
  have HD := Lib.hid (Kd.C_below hD HB.out)
  have HCC := Lib.hid hc
  have HDD := Lib.hid hd
  clear hC hD hc hd
  rw [eqF_eq]
  by_cases h0 : f.f0.toList = g.f0.toList
  · have e0 : (f.f0.toList == g.f0.toList) = true := beq_iff_eq.2 h0
    have E0 := Lib.hid e0
    clear h0
    go_enter Tryd.func17, Tryd.ntmps17
    go_wp2_with (go_at_call 10; refine (IH.out A c B d _ HC.out HCC.out HD.out HDD.out).mono ?_; rintro e w3 ⟨rfl, hb3⟩; have HB3 := Lib.hid (blw_then HB.out hb3); clear hb3)
    go_ret
    exact ⟨by rw [E0.out, Bool.true_and]; try rfl, HB3.out⟩
  · have e0 : (f.f0.toList == g.f0.toList) = false := beq_eq_false_iff_ne.2 h0
    have E0 := Lib.hid e0
    clear h0
    go_enter Tryd.func17, Tryd.ntmps17
    go_wp2_with fail
    go_ret
    exact ⟨by rw [E0.out, Bool.false_and]; try rfl, HB.out⟩
set_option maxHeartbeats 8000000 in
set_option maxRecDepth 1000000 in
theorem equalF (l m : List S29) (A B : Option Addr) (c d : Nat) (w : World) (hC : Kd.C k29 w A l.length l) (hc : l.length ≤ c) (hD : Kd.C k29 w B m.length m) (hd : m.length ≤ d) (IH : Hid (∀ f ∈ l, ∀ g, EqAt f.f1 g)) :
    Calls Tryd.prog 16 #[.slice A l.length c, .slice B m.length d, .func (.func 17) #[] #[]] w fun e w' => e = .returned (.bool (eqFs l m)) ∧ Below w.heap.size w w' := by
  have hl64 : l.length ≤ 9223372036854775807 := hC.2.1
  have hm64 : m.length ≤ 9223372036854775807 := hD.2.1
  have HC := Lib.hid hC
  have HCC := Lib.hid hc
  have HD := Lib.hid hD
  have HDD := Lib.hid hd
  clear hC hc hD hd
  have hu24 := Tryd.underlying24
  have hu29 := Tryd.underlying29
  by_cases hlen : l.length = m.length
  · have hln : ((l.length : Int) != (m.length : Int)) = false := by rw [bne_eq_false_iff_eq]; omega
    have HLN := Lib.hid hlen
    clear hlen
    go_enter Tryd.func16, Tryd.ntmps16
    go_wp2_with fail
    go_loopw [17] (fun i wr => ∃ j : Nat, j ≤ l.length ∧ i = .int .i64 j ∧ Below w.heap.size w wr ∧ eqFs l m = eqFs (l.drop j) (m.drop j)) (fun i _ => l.length - (intOf i).toNat)
    case atStart => exact ⟨0, by omega, rfl, Below.refl _ _, rfl⟩
    case round =>
      obtain ⟨j, hj, rfl, hb, hp⟩ := hrel
      have HB := Lib.hid hb
      have HP := Lib.hid hp
      clear hb hp
      by_cases hlt : j < l.length
      · obtain ⟨ad, A6, c6, hA, x0, x1, x2, x3, x4, x5, x6, hl6, hC6⟩ := at_T29 HC.out (j : Int) (by omega) (by omega)
        subst hA
        replace x0 := pw_cell_below HB.out x0
        replace x1 := pw_cell_below HB.out x1
        replace x2 := pw_cell_below HB.out x2
        replace x3 := pw_cell_below HB.out x3
        replace x4 := pw_cell_below HB.out x4
        replace x5 := pw_cell_below HB.out x5
        replace x6 := pw_cell_below HB.out x6
        rw [rd_get l j hlt] at x0 x1 x2 x3 x4 x5 x6 hl6 hC6
        simp only [Int.toNat_natCast] at x0 x1 x2 x3 x4 x5 x6
        obtain ⟨f, hf⟩ : ∃ f, f = l[j] := ⟨_, rfl⟩
        rw [← hf] at x0 x1 x2 x3 x4 x5 x6 hl6 hC6
        have HMEM := Lib.hid (show f ∈ l by rw [hf]; exact List.getElem_mem hlt)
        have HF := Lib.hid hf
        have HC6 := Lib.hid hC6
        have HL6 := Lib.hid hl6
        clear hf hC6 hl6
        go_upto_region 6 with (fail)
        obtain ⟨W1, hW1⟩ : ∃ W1, W1 = wr.alloc (.cells #[.string f.f0, .int .i64 f.f1.f0, .string f.f1.f1, .int .i64 f.f1.f2, .int .i64 f.f1.f3, .string f.f1.f4, .slice A6 f.f1.f5.length c6] 29) := ⟨_, rfl⟩
        obtain ⟨eb, heb⟩ : ∃ eb, eb = wr.heap.size := ⟨_, rfl⟩
        rw [← heb, ← hW1]
        have HE := Lib.hid (show W1.heap[eb]? = some (.cells #[.string f.f0, .int .i64 f.f1.f0, .string f.f1.f1, .int .i64 f.f1.f2, .int .i64 f.f1.f3, .string f.f1.f4, .slice A6 f.f1.f5.length c6] 29 (0, 0)) by rw [hW1, heb]; exact heap_alloc_new wr _)
        have HB := Lib.hid (HB.out.trans (show Below w.heap.size wr W1 by rw [hW1]; exact (blw_alloc (Below.refl _ _) _).mono HB.out.size))
        clear hW1 heb x0 x1 x2 x3 x4 x5 x6
        have hmt : j < m.length := by rw [← HLN.out]; exact hlt
        have hmi : (j : Int) < (m.length : Int) := by omega
        obtain ⟨bd, B6, d6, hA, x0, x1, x2, x3, x4, x5, x6, hl6, hC6⟩ := at_T29 HD.out (j : Int) (by omega) (by omega)
        subst hA
        replace x0 := pw_cell_below HB.out x0
        replace x1 := pw_cell_below HB.out x1
        replace x2 := pw_cell_below HB.out x2
        replace x3 := pw_cell_below HB.out x3
        replace x4 := pw_cell_below HB.out x4
        replace x5 := pw_cell_below HB.out x5
        replace x6 := pw_cell_below HB.out x6
        rw [rd_get m j hmt] at x0 x1 x2 x3 x4 x5 x6 hl6 hC6
        simp only [Int.toNat_natCast] at x0 x1 x2 x3 x4 x5 x6
        have HST : Hid (eqFs (l.drop j) (m.drop j) = (eqF f m[j] && eqFs (l.drop (j + 1)) (m.drop (j + 1)))) := Lib.hid (by rw [HF.out]; exact eqFs_step l m j hlt hmt)
        generalize m[j] = g at *
        have HD6 := Lib.hid hC6
        have HM6 := Lib.hid hl6
        clear hC6 hl6
        go_upto_region 7 with (fail)
        obtain ⟨W2, hW2⟩ : ∃ W2, W2 = W1.alloc (.cells #[.string g.f0, .int .i64 g.f1.f0, .string g.f1.f1, .int .i64 g.f1.f2, .int .i64 g.f1.f3, .string g.f1.f4, .slice B6 g.f1.f5.length d6] 29) := ⟨_, rfl⟩
        obtain ⟨fb, hfb⟩ : ∃ fb, fb = W1.heap.size := ⟨_, rfl⟩
        rw [← hfb, ← hW2]
        have hG := (show W2.heap[fb]? = some (.cells #[.string g.f0, .int .i64 g.f1.f0, .string g.f1.f1, .int .i64 g.f1.f2, .int .i64 g.f1.f3, .string g.f1.f4, .slice B6 g.f1.f5.length d6] 29 (0, 0)) by rw [hW2, hfb]; exact heap_alloc_new W1 _)
        have hb12 : Below W1.heap.size W1 W2 := by rw [hW2]; exact blw_alloc (Below.refl _ _) _
        have hE := (hb12.block eb (blk_lt HE.out)).trans HE.out
        have HB := Lib.hid (HB.out.trans (hb12.mono HB.out.size))
        clear hW2 hfb x0 x1 x2 x3 x4 x5 x6 hb12
        have a0 := (blk_cell hE 0).trans rfl
        have a1 := (blk_cell hE 1).trans rfl
        have a2 := (blk_cell hE 2).trans rfl
        have a3 := (blk_cell hE 3).trans rfl
        have a4 := (blk_cell hE 4).trans rfl
        have a5 := (blk_cell hE 5).trans rfl
        have a6 := (blk_cell hE 6).trans rfl
        have b0 := (blk_cell hG 0).trans rfl
        have b1 := (blk_cell hG 1).trans rfl
        have b2 := (blk_cell hG 2).trans rfl
        have b3 := (blk_cell hG 3).trans rfl
        have b4 := (blk_cell hG 4).trans rfl
        have b5 := (blk_cell hG 5).trans rfl
        have b6 := (blk_cell hG 6).trans rfl
        clear hE hG
        by_cases hz : eqF f g = true
        · have ez : eqF f g = true := hz
          have HZ := Lib.hid hz
          clear hz
          go_wp2_with (go_at_call 17; refine (clo_c f g A6 B6 c6 d6 _ (Kd.C_below HC6.out HB.out) HL6.out (Kd.C_below HD6.out HB.out) HM6.out (Lib.hid (IH.out f HMEM.out g.f1))).mono ?_; rw [HZ.out]; rintro e w3 ⟨rfl, hb3⟩; have HB3 := Lib.hid (HB.out.trans (hb3.mono HB.out.size)); clear hb3)
          go_roundw
          case rel => exact ⟨j + 1, by omega, by go_num, HB3.out, by rw [HP.out, HST.out, HZ.out, Bool.true_and]⟩
          case measure => simp [intOf]; omega
        · have HZ := Lib.hid (Bool.eq_false_iff.2 hz)
          clear hz
          go_wp2_with (go_at_call 17; refine (clo_c f g A6 B6 c6 d6 _ (Kd.C_below HC6.out HB.out) HL6.out (Kd.C_below HD6.out HB.out) HM6.out (Lib.hid (IH.out f HMEM.out g.f1))).mono ?_; rw [HZ.out]; rintro e w3 ⟨rfl, hb3⟩; have HB3 := Lib.hid (HB.out.trans (hb3.mono HB.out.size)); clear hb3)
          go_ret
          exact ⟨by rw [HP.out, HST.out, HZ.out, Bool.false_and]; try rfl, HB3.out⟩
      · obtain rfl : j = l.length := by omega
        go_wp2_with fail
        go_ret
        exact ⟨by rw [HP.out, List.drop_length, HLN.out, List.drop_length]; rfl, HB.out⟩
  · have hln : ((l.length : Int) != (m.length : Int)) = true := by rw [bne_iff_ne]; omega
    have HLN := Lib.hid hlen
    clear hlen
    go_enter Tryd.func16, Tryd.ntmps16
    go_wp2_with fail
    go_ret
    exact ⟨by rw [eqFs_len l m HLN.out]; try rfl, Below.refl _ _⟩
set_option maxHeartbeats 8000000 in
set_option maxRecDepth 1000000 in
theorem equal_step (x y : S24g S29) (IH : Hid (∀ f ∈ x.f5, ∀ g, EqAt f.f1 g)) : EqAt x y := by
  intro A c B d w hC hc hD hd
  have hu24 := Tryd.underlying24
  have hu29 := Tryd.underlying29
  have HB := Lib.hid (show Below w.heap.size w ((w.alloc (.cells #[.int .i64 x.f0, .string x.f1, .int .i64 x.f2, .int .i64 x.f3, .string x.f4, .slice A x.f5.length c] 24)).alloc (.cells #[.int .i64 y.f0, .string y.f1, .int .i64 y.f2, .int .i64 y.f3, .string y.f4, .slice B y.f5.length d] 24)) from blw_alloc (blw_alloc (Below.refl _ _) _) _)
  have HF := Lib.hid (equalF x.f5 y.f5 A B c d _ (Kd.C_below hC HB.out) hc (Kd.C_below hD HB.out) hd IH)
  clear hC hc hD hd IH
  rw [eqV_eq]
  rcases Bool.eq_false_or_eq_true (x.f0 == y.f0) with e0 | e0
  rotate_left
  · have E := Lib.hid (show ((x.f0 == y.f0) && (x.f1.toList == y.f1.toList) && (x.f2 == y.f2) && (x.f3 == y.f3) && (x.f4.toList == y.f4.toList) && eqFs x.f5 y.f5) = false by simp [e0])
    go_enter Tryd.func10, Tryd.ntmps10
    go_wp2_with fail
    go_ret
    exact ⟨by rw [E.out]; try rfl, HB.out⟩
  rcases Bool.eq_false_or_eq_true (x.f1.toList == y.f1.toList) with e1 | e1
  rotate_left
  · have E := Lib.hid (show ((x.f0 == y.f0) && (x.f1.toList == y.f1.toList) && (x.f2 == y.f2) && (x.f3 == y.f3) && (x.f4.toList == y.f4.toList) && eqFs x.f5 y.f5) = false by simp [e0, e1])
    go_enter Tryd.func10, Tryd.ntmps10
    go_wp2_with fail
    go_ret
    exact ⟨by rw [E.out]; try rfl, HB.out⟩
  rcases Bool.eq_false_or_eq_true (x.f2 == y.f2) with e2 | e2
  rotate_left
  · have E := Lib.hid (show ((x.f0 == y.f0) && (x.f1.toList == y.f1.toList) && (x.f2 == y.f2) && (x.f3 == y.f3) && (x.f4.toList == y.f4.toList) && eqFs x.f5 y.f5) = false by simp [e0, e1, e2])
    go_enter Tryd.func10, Tryd.ntmps10
    go_wp2_with fail
    go_ret
    exact ⟨by rw [E.out]; try rfl, HB.out⟩
  rcases Bool.eq_false_or_eq_true (x.f3 == y.f3) with e3 | e3
  rotate_left
  · have E := Lib.hid (show ((x.f0 == y.f0) && (x.f1.toList == y.f1.toList) && (x.f2 == y.f2) && (x.f3 == y.f3) && (x.f4.toList == y.f4.toList) && eqFs x.f5 y.f5) = false by simp [e0, e1, e2, e3])
    go_enter Tryd.func10, Tryd.ntmps10
    go_wp2_with fail
    go_ret
    exact ⟨by rw [E.out]; try rfl, HB.out⟩
  rcases Bool.eq_false_or_eq_true (x.f4.toList == y.f4.toList) with e4 | e4
  rotate_left
  · have E := Lib.hid (show ((x.f0 == y.f0) && (x.f1.toList == y.f1.toList) && (x.f2 == y.f2) && (x.f3 == y.f3) && (x.f4.toList == y.f4.toList) && eqFs x.f5 y.f5) = false by simp [e0, e1, e2, e3, e4])
    go_enter Tryd.func10, Tryd.ntmps10
    go_wp2_with fail
    go_ret
    exact ⟨by rw [E.out]; try rfl, HB.out⟩
  have E := Lib.hid (show ((x.f0 == y.f0) && (x.f1.toList == y.f1.toList) && (x.f2 == y.f2) && (x.f3 == y.f3) && (x.f4.toList == y.f4.toList) && eqFs x.f5 y.f5) = eqFs x.f5 y.f5 by simp [e0, e1, e2, e3, e4])
  go_enter Tryd.func10, Tryd.ntmps10
  go_wp2_with (go_at_call 16; refine HF.out.mono ?_; rintro e w3 ⟨rfl, hb3⟩; have HB3 := Lib.hid (blw_then HB.out hb3); clear hb3)
  go_ret
  exact ⟨by rw [E.out]; try rfl, HB3.out⟩
theorem equal_any (n : Nat) : ∀ x y : S24g S29, szV x ≤ n → EqAt x y := by
  induction n with
  | zero => intro x y h; rw [szV_eq] at h; omega
  | succ n ih =>
    intro x y h
    rw [szV_eq] at h
    refine equal_step x y (Lib.hid (fun f hf g => ih f.f1 g ?_))
    have := szFs_mem hf
    rw [szF_eq] at this; omega
end Go.Proofs.YtaalehglichejaaDoor.PTy
