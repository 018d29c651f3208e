/- Contract of value.Cmp, in the print's form. No statement is proved here. -/
import Derived.Test.YtilffmhmgoaejaaPlugCmpA
namespace Go.Proofs.Ytilffmhmgoaejaa.PVal
open Go.RowKit Go.Proofs.YtilffmhmgoaejaaW.PrintWords Go.Proofs.YtilffmhmgoaejaaW.PrintLast Go.Proofs.Ytilffmhmgoaejaa.Plug
set_option linter.unusedVariables false
set_option linter.unusedSimpArgs false
theorem cmpFs_nil1 (m : List S63) (h : m ≠ []) : cmpFs [] m = -1 := by cases m with | nil => exact absurd rfl h | cons a t => rfl
theorem cmpFs_step (l m : List S63) (j : Nat) (h : j < l.length) (h2 : j < m.length) : cmpFs (l.drop j) (m.drop j) = or2 (cmpF l[j] m[j]) (cmpFs (l.drop (j + 1)) (m.drop (j + 1))) := by
  rw [List.drop_eq_getElem_cons h, List.drop_eq_getElem_cons h2]; rfl
theorem cmpFs_longer (l m : List S63) (j : Nat) (h : j < l.length) (h2 : m.length ≤ j) : cmpFs (l.drop j) (m.drop j) = 1 := by
  rw [List.drop_eq_getElem_cons h, List.drop_of_length_le h2]; rfl
theorem cmpFs_end (l m : List S63) (h2 : l.length ≤ m.length) : cmpFs (l.drop l.length) (m.drop l.length) = if l.length < m.length then -1 else 0 := by
  rw [List.drop_length]
  split
  · rename_i h; rw [List.drop_eq_getElem_cons h]; rfl
  · rw [List.drop_of_length_le (by omega)]; rfl
set_option maxHeartbeats 8000000 in
set_option maxRecDepth 1000000 in
theorem compareF (l m : List S63) (A B : Option Addr) (c d : Nat) (w : World) (hC : Kd.C k63 w A l.length l) (hc : l.length ≤ c) (hD : Kd.C k63 w B m.length m) (hd : m.length ≤ d) (IH : Hid (∀ f ∈ l, ∀ g, CmpAt f.f1 g)) :
    Calls Try.prog 94 #[.slice A l.length c, .slice B m.length d, .func (.func 95) #[] #[]] w fun e w' => e = .returned (.int .i64 (cmpFs l m)) ∧ Below w.heap.size w w' := by
  have hl64 : l.length ≤ 9223372036854775807 := hC.2.1
  have hm64 : m.length ≤ 9223372036854775807 := hD.2.1
  have HC := Lib.hid hC
  have HCC := Lib.hid hc
  have HD := Lib.hid hD
  have HDD := Lib.hid hd
  clear hC hc hD hd
  have hu52 := Try.underlying52
  have hu63 := Try.underlying63
  go_enter Try.func94, Try.ntmps94
  go_wp2_with fail
  go_loopw [13] (fun i wr => ∃ j : Nat, j ≤ l.length ∧ j ≤ m.length ∧ i = .int .i64 j ∧ Below w.heap.size w wr ∧ cmpFs l m = cmpFs (l.drop j) (m.drop j)) (fun i _ => l.length - (intOf i).toNat)
  case atStart => exact ⟨0, by omega, by omega, rfl, Below.refl _ _, rfl⟩
  case round =>
    obtain ⟨j, hj, hjm, rfl, hb, hp⟩ := hrel
    have HB := Lib.hid hb
    have HP := Lib.hid hp
    clear hb hp
    by_cases hlt : j < l.length
    · obtain ⟨ad, A4, c4, hA, x0, x1, x2, x3, x4, hl4, hC4⟩ := at_T63 HC.out (j : Int) (by omega) (by omega)
      subst hA
      replace x0 := pw_cell_below HB.out x0
      replace x1 := pw_cell_below HB.out x1
      replace x2 := pw_cell_below HB.out x2
      replace x3 := pw_cell_below HB.out x3
      replace x4 := pw_cell_below HB.out x4
      rw [rd_get l j hlt] at x0 x1 x2 x3 x4 hl4 hC4
      simp only [Int.toNat_natCast] at x0 x1 x2 x3 x4
      obtain ⟨f, hf⟩ : ∃ f, f = l[j] := ⟨_, rfl⟩
      rw [← hf] at x0 x1 x2 x3 x4 hl4 hC4
      have HMEM := Lib.hid (show f ∈ l by rw [hf]; exact List.getElem_mem hlt)
      have HF := Lib.hid hf
      have HC4 := Lib.hid hC4
      have HL4 := Lib.hid hl4
      clear hf hC4 hl4
      go_upto_region 4 with (fail)
      obtain ⟨W1, hW1⟩ : ∃ W1, W1 = wr.alloc (.cells #[.string f.f0, .int .i64 f.f1.f0, .int .i64 f.f1.f1, .string f.f1.f2, .slice A4 f.f1.f3.length c4] 63) := ⟨_, rfl⟩
      obtain ⟨eb, heb⟩ : ∃ eb, eb = wr.heap.size := ⟨_, rfl⟩
      rw [← heb, ← hW1]
      have HE := Lib.hid (show W1.heap[eb]? = some (.cells #[.string f.f0, .int .i64 f.f1.f0, .int .i64 f.f1.f1, .string f.f1.f2, .slice A4 f.f1.f3.length c4] 63 (0, 0)) by rw [hW1, heb]; exact heap_alloc_new wr _)
      have HB := Lib.hid (HB.out.trans (show Below w.heap.size wr W1 by rw [hW1]; exact (blw_alloc (Below.refl _ _) _).mono HB.out.size))
      clear hW1 heb x0 x1 x2 x3 x4
      by_cases hmt : j < m.length
      · obtain ⟨bd, B4, d4, hA, x0, x1, x2, x3, x4, hl4, hC4⟩ := at_T63 HD.out (j : Int) (by omega) (by omega)
        subst hA
        replace x0 := pw_cell_below HB.out x0
        replace x1 := pw_cell_below HB.out x1
        replace x2 := pw_cell_below HB.out x2
        replace x3 := pw_cell_below HB.out x3
        replace x4 := pw_cell_below HB.out x4
        rw [rd_get m j hmt] at x0 x1 x2 x3 x4 hl4 hC4
        simp only [Int.toNat_natCast] at x0 x1 x2 x3 x4
        have HST : Hid (cmpFs (l.drop j) (m.drop j) = or2 (cmpF f m[j]) (cmpFs (l.drop (j + 1)) (m.drop (j + 1)))) := Lib.hid (by rw [HF.out]; exact cmpFs_step l m j hlt hmt)
        generalize m[j] = g at *
        have HD4 := Lib.hid hC4
        have HM4 := Lib.hid hl4
        clear hC4 hl4
        go_upto_region 7 with (fail)
        obtain ⟨W2, hW2⟩ : ∃ W2, W2 = W1.alloc (.cells #[.string g.f0, .int .i64 g.f1.f0, .int .i64 g.f1.f1, .string g.f1.f2, .slice B4 g.f1.f3.length d4] 63) := ⟨_, rfl⟩
        obtain ⟨fb, hfb⟩ : ∃ fb, fb = W1.heap.size := ⟨_, rfl⟩
        rw [← hfb, ← hW2]
        have hG := (show W2.heap[fb]? = some (.cells #[.string g.f0, .int .i64 g.f1.f0, .int .i64 g.f1.f1, .string g.f1.f2, .slice B4 g.f1.f3.length d4] 63 (0, 0)) by rw [hW2, hfb]; exact heap_alloc_new W1 _)
        have hb12 : Below W1.heap.size W1 W2 := by rw [hW2]; exact blw_alloc (Below.refl _ _) _
        have hE := (hb12.block eb (blk_lt HE.out)).trans HE.out
        have HB := Lib.hid (HB.out.trans (hb12.mono HB.out.size))
        clear hW2 hfb x0 x1 x2 x3 x4 hb12
        have a0 := (blk_cell hE 0).trans rfl
        have a1 := (blk_cell hE 1).trans rfl
        have a2 := (blk_cell hE 2).trans rfl
        have a3 := (blk_cell hE 3).trans rfl
        have a4 := (blk_cell hE 4).trans rfl
        have b0 := (blk_cell hG 0).trans rfl
        have b1 := (blk_cell hG 1).trans rfl
        have b2 := (blk_cell hG 2).trans rfl
        have b3 := (blk_cell hG 3).trans rfl
        have b4 := (blk_cell hG 4).trans rfl
        clear hE hG
        by_cases hz : cmpF f g = 0
        · have ez : (cmpF f g != 0) = false := by simp [hz]
          have HZ := Lib.hid hz
          clear hz
          go_wp2_with (go_at_call 95; refine (clo_c f g A4 B4 c4 d4 _ (Kd.C_below HC4.out HB.out) HL4.out (Kd.C_below HD4.out HB.out) HM4.out (Lib.hid (IH.out f HMEM.out g.f1))).mono ?_; rintro e w3 ⟨rfl, hb3⟩; have HB3 := Lib.hid (HB.out.trans (hb3.mono HB.out.size)); clear hb3)
          go_roundw
          case rel => exact ⟨j + 1, by omega, by omega, by go_num, HB3.out, by rw [HP.out, HST.out, HZ.out]; rfl⟩
          case measure => simp [intOf]; omega
        · have ez : (cmpF f g != 0) = true := by simp [hz]
          have HZ := Lib.hid hz
          clear hz
          go_wp2_with (go_at_call 95; refine (clo_c f g A4 B4 c4 d4 _ (Kd.C_below HC4.out HB.out) HL4.out (Kd.C_below HD4.out HB.out) HM4.out (Lib.hid (IH.out f HMEM.out g.f1))).mono ?_; rintro e w3 ⟨rfl, hb3⟩; have HB3 := Lib.hid (HB.out.trans (hb3.mono HB.out.size)); clear hb3)
          go_ret
          exact ⟨by rw [HP.out, HST.out]; unfold or2; rw [if_neg HZ.out]; try rfl, HB3.out⟩
      · have HST : Hid (cmpFs (l.drop j) (m.drop j) = 1) := Lib.hid (cmpFs_longer l m j hlt (by omega))
        go_wp2_with fail
        go_ret
        exact ⟨by rw [HP.out, HST.out]; try rfl, HB.out⟩
    · obtain rfl : j = l.length := by omega
      have HST := Lib.hid (cmpFs_end l m hjm)
      by_cases hz : l.length < m.length
      · rw [if_pos hz] at HST
        go_wp2_with fail
        go_ret
        exact ⟨by rw [HP.out, HST.out]; try rfl, HB.out⟩
      · rw [if_neg hz] at HST
        go_wp2_with fail
        go_ret
        exact ⟨by rw [HP.out, HST.out]; try rfl, HB.out⟩
set_option maxHeartbeats 8000000 in
set_option maxRecDepth 1000000 in
theorem cmp_step (ak an bk bn : Int) (sa sb : ByteArray) (l m : List S63) (A B : Option Addr) (c d : Nat) (w : World) (hC : Kd.C k63 w A l.length l) (hc : l.length ≤ c) (hD : Kd.C k63 w B m.length m) (hd : m.length ≤ d) (IH : Hid (∀ f ∈ l, ∀ g, CmpAt f.f1 g)) :
    Calls Try.prog 53 #[.agg #[.int .i64 ak, .int .i64 an, .string sa, .slice A l.length c], .agg #[.int .i64 bk, .int .i64 bn, .string sb, .slice B m.length d]] w fun e w' => e = .returned (.int .i64 (cmpV ⟨ak, an, sa, l⟩ ⟨bk, bn, sb, m⟩)) ∧ Below w.heap.size w w' := by
  have hu52 := Try.underlying52
  have hu63 := Try.underlying63
  go_enter Try.func53, Try.ntmps53
  have HC := Lib.hid hC
  have HCC := Lib.hid hc
  have HD := Lib.hid hD
  have HDD := Lib.hid hd
  clear hC hc hD hd
  go_wp2_with fail
  obtain ⟨gb, hgb⟩ : ∃ gb, gb = w.heap.size := ⟨_, rfl⟩
  obtain ⟨w2, hw2⟩ : ∃ w2, w2 = (w.alloc (.cells #[.int .i64 ak, .int .i64 an, .string sa, .slice A l.length c] 52)).alloc (.cells #[.int .i64 bk, .int .i64 bn, .string sb, .slice B m.length d] 52) := ⟨_, rfl⟩
  rw [← hgb, ← hw2]
  have blkA : w2.heap[gb]? = some (.cells #[.int .i64 ak, .int .i64 an, .string sa, .slice A l.length c] 52 (0, 0)) := by rw [hw2, hgb]; exact (Below.heap_alloc _ _ _ (by simp)).trans (heap_alloc_new w _)
  have blkB : w2.heap[gb + 1]? = some (.cells #[.int .i64 bk, .int .i64 bn, .string sb, .slice B m.length d] 52 (0, 0)) := by
    have := heap_alloc_new (w.alloc (.cells #[.int .i64 ak, .int .i64 an, .string sa, .slice A l.length c] 52)) (.cells #[.int .i64 bk, .int .i64 bn, .string sb, .slice B m.length d] 52)
    rw [hw2, hgb]; simpa using this
  have HS : Hid (CSw w gb (.cells #[.int .i64 ak, .int .i64 an, .string sa, .slice A l.length c] 52 (0, 0)) (.cells #[.int .i64 bk, .int .i64 bn, .string sb, .slice B m.length d] 52 (0, 0)) w2) := Lib.hid ⟨by rw [hw2]; exact blw_alloc (blw_alloc (Below.refl _ _) _) _, blkA, blkB⟩
  have HGB := Lib.hid hgb
  clear hgb hw2
  have a0 := (blk_cell blkA 0).trans rfl
  have a1 := (blk_cell blkA 1).trans rfl
  have b1 := (blk_cell blkB 1).trans rfl
  clear blkA blkB
  obtain ⟨X, hX⟩ : ∃ X, X = ordK ak an := ⟨_, rfl⟩
  obtain ⟨Y, hY⟩ : ∃ Y, Y = ordK ak bn := ⟨_, rfl⟩
  have HX := Lib.hid hX
  have HY := Lib.hid hY
  refine Decidable.byCases (p := ak = 3) (fun h3 => ?p) (fun h3 => ?n)
  case' p =>
    have e3 : (ak == 3) = true := by simpa using h3
    have eX : ordI an = X := by rw [hX]; unfold ordK; rw [if_pos h3]
    have eY : ordI bn = Y := by rw [hY]; unfold ordK; rw [if_pos h3]
    have oX : Hid (∀ W, Calls Try.prog 91 #[.int .i64 an] W fun e w' => e = .returned (.int .i64 X) ∧ Drawn0 W w') := Lib.hid (fun W => eX ▸ order_c an W)
    have oY : Hid (∀ W, Calls Try.prog 91 #[.int .i64 bn] W fun e w' => e = .returned (.int .i64 Y) ∧ Drawn0 W w') := Lib.hid (fun W => eY ▸ order_c bn W)
    clear h3 hX hY eX eY
    go_quiet (fail)
    go_upto_region 4 with (go_at_call 91; first | (refine (oX.out _).mono ?_; rintro e w' ⟨rfl, ⟨nd, rfl⟩⟩) | (refine (oY.out _).mono ?_; rintro e w' ⟨rfl, ⟨nd, rfl⟩⟩))
  case' n =>
    have e3 : (ak == 3) = false := by simpa using h3
    obtain rfl : X = an := by rw [hX]; unfold ordK; rw [if_neg h3]
    obtain rfl : Y = bn := by rw [hY]; unfold ordK; rw [if_neg h3]
    clear h3 hX hY
    go_quiet (fail)
    go_upto_region 4 with (fail)
  all_goals
    generalize hW : w2.drewN _ = W
    have HS := Lib.hid (show CSw w gb _ _ W from hW ▸ HS.out.drewN _)
    clear hW a0 a1 b1
    have a0 := (blk_cell HS.out.bA 0).trans rfl
    have a2 := (blk_cell HS.out.bA 2).trans rfl
    have a3 := (blk_cell HS.out.bA 3).trans rfl
    have b0 := (blk_cell HS.out.bB 0).trans rfl
    have b2 := (blk_cell HS.out.bB 2).trans rfl
    have b3 := (blk_cell HS.out.bB 3).trans rfl
    refine wp_region_still_tail 13 (by kernel_rfl) (by kernel_rfl) ?_
    simp only [List.take_succ_cons, List.take_zero, List.drop_succ_cons, List.drop_zero]
    repeat (first | still_step | still_call (cmpI_s _ _ _) | still_call (cmpB_s _ _ _))
    try refine wpStill_nil ?_
    change wpList _ _ _ _ _ W.drew
    have HS := Lib.hid HS.out.drew
    generalize W.drew = W1 at *
    clear a0 a2 a3 b0 b2 b3
    obtain ⟨Z, hZ⟩ : ∃ Z, Z = or2 (cmpI ak bk) (or2 (cmpI X Y) (cmpB sa sb)) := ⟨_, rfl⟩
    have HZ := Lib.hid hZ
    have HOR : Hid (∀ (g : Nat) (W : World), W.heap[g]? = some (.cells #[.int .i64 (cmpI ak bk), .int .i64 (cmpI X Y), .int .i64 (cmpB sa sb)] 3 (0, 0)) → Calls Try.prog 92 #[.slice (some ⟨g, 0, none⟩) 3 3] W fun e w' => e = .returned (.int .i64 Z) ∧ Drawn0 W w') := Lib.hid (fun g W h => hZ ▸ or3_c g _ _ _ W h)
    clear hZ
    have hS1 := HS.out.then_ (show Below W1.heap.size W1 (W1.alloc (.cells #[.int .i64 (cmpI ak bk), .int .i64 (cmpI X Y), .int .i64 (cmpB sa sb)] 3)) from blw_alloc (Below.refl _ _) _)
    have HS1 := Lib.hid hS1
    have a3 := (blk_cell hS1.bA 3).trans rfl
    have b3 := (blk_cell hS1.bB 3).trans rfl
    clear hS1
    by_cases hz : Z = 0
    · have ez : (Z != 0) = false := by simp [hz]
      have HZ0 := Lib.hid hz
      clear hz
      go_wp2_with (go_at_call 92; refine (HOR.out _ _ (heap_alloc_new _ _)).mono ?_; rintro e w4 ⟨rfl, ⟨nd, rfl⟩⟩)
      go_at_call 94
      have hB6 := blw_drewN HS1.out.bel nd
      refine (compareF l m A B c d _ (Kd.C_below HC.out hB6) HCC.out (Kd.C_below HD.out hB6) HDD.out IH).mono ?_
      rintro e w5 ⟨rfl, hb5⟩
      have HB5 := Lib.hid (hB6.trans (hb5.mono hB6.size))
      clear hb5 hB6
      go_wp2_with fail
      go_ret
      refine ⟨?_, HB5.out⟩
      rw [cmpV_eq]
      refine ret_int ?_
      show cmpFs l m = or2 (or2 (cmpI ak bk) (or2 (cmpI (ordK ak _) (ordK ak _)) (cmpB sa sb))) (cmpFs l m)
      rw [← HX.out, ← HY.out, ← HZ.out]
      unfold or2; rw [if_pos HZ0.out]
    · have ez : (Z != 0) = true := by simp [hz]
      have HZ0 := Lib.hid hz
      clear hz
      go_wp2_with (go_at_call 92; refine (HOR.out _ _ (heap_alloc_new _ _)).mono ?_; rintro e w4 ⟨rfl, ⟨nd, rfl⟩⟩)
      go_ret
      refine ⟨?_, blw_drewN HS1.out.bel nd⟩
      rw [cmpV_eq]
      refine ret_int ?_
      show Z = or2 (or2 (cmpI ak bk) (or2 (cmpI (ordK ak _) (ordK ak _)) (cmpB sa sb))) (cmpFs l m)
      rw [← HX.out, ← HY.out, ← HZ.out]
      unfold or2; rw [if_neg HZ0.out]
theorem cmp_any (n : Nat) : ∀ x y : S52g S63, szV x ≤ n → CmpAt x y := by
  induction n with
  | zero => intro x y h; rw [szV_eq] at h; omega
  | succ n ih =>
    intro x y h A c B d w hC hc hD hd
    obtain ⟨ak, an, sa, l⟩ := x
    obtain ⟨bk, bn, sb, m⟩ := y
    rw [szV_eq] at h
    simp only at h
    refine cmp_step ak an bk bn sa sb l m A B c d w hC hc hD hd (Lib.hid (fun f hf g => ih f.f1 g ?_))
    have := szFs_mem hf
    rw [szF_eq] at this; omega
def value_Cmp.f (a0_0 a0_1 : Int) (a0_2 : ByteArray) (l0_3 : List S63) (a1_0 a1_1 : Int) (a1_2 : ByteArray) (l1_3 : List S63) : Option Int := some (cmpV ⟨a0_0, a0_1, a0_2, l0_3⟩ ⟨a1_0, a1_1, a1_2, l1_3⟩)
theorem value_Cmp.calls (a0_0 : Int) (a0_1 : Int) (a0_2 : ByteArray) (A0_3 : Option Addr) (c0_3 : Nat) (l0_3 : List S63) (a1_0 : Int) (a1_1 : Int) (a1_2 : ByteArray) (A1_3 : Option Addr) (c1_3 : Nat) (l1_3 : List S63) (r : Int) (w : World) (hr0_3 : Kd.C k63 w A0_3 l0_3.length l0_3) (hc0_3 : l0_3.length ≤ c0_3) (hr1_3 : Kd.C k63 w A1_3 l1_3.length l1_3) (hc1_3 : l1_3.length ≤ c1_3) (h : value_Cmp.f a0_0 a0_1 a0_2 l0_3 a1_0 a1_1 a1_2 l1_3 = some r) :
    Calls Try.prog 53 #[.agg #[.int .i64 a0_0, .int .i64 a0_1, .string a0_2, .slice A0_3 l0_3.length c0_3], .agg #[.int .i64 a1_0, .int .i64 a1_1, .string a1_2, .slice A1_3 l1_3.length c1_3]] w fun e w' => e = .returned (.int .i64 r) ∧ Below w.heap.size w w' := by
  injection h with h
  subst h
  exact cmp_any _ ⟨a0_0, a0_1, a0_2, l0_3⟩ ⟨a1_0, a1_1, a1_2, l1_3⟩ (Nat.le_refl _) A0_3 c0_3 A1_3 c1_3 w hr0_3 hc0_3 hr1_3 hc1_3
end Go.Proofs.Ytilffmhmgoaejaa.PVal
