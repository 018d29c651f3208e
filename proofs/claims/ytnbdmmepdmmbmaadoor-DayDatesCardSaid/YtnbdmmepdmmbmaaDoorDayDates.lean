/- The walk of the law DayDates. -/
import Derived.Test.YtnbdmmepdmmbmaaDoorDayParts
import Derived.Test.YtnbdmmepdmmbmaaDoorShelf
import Derived.Test.YtnbdmmepdmmbmaaDoorRows
import Derived.LaidSub
import Derived.Lib.LaidTab
import Derived.Deep.DeepCutAuto
import Derived.Deep.CutBlock
namespace Go.Proofs.YtnbdmmepdmmbmaaDoor
open Go.RowKit
set_option linter.unusedVariables false
set_option linter.unusedSimpArgs false
abbrev Tab (W : World) : Prop := Lib.TabIs Tryd.prog W "internal/strconv.uint64pow10" .u64 Lib.pow10Tab
theorem Tab.below {w w' : World} (h : Tab w) (hb : Below w.heap.size w w') : Tab w' := by
  unfold Tab Lib.TabIs World.var? at h ⊢
  have hg : Tryd.prog.globalNamed "internal/strconv.uint64pow10" = some 3 := by kernel_rfl
  rw [hg] at h ⊢
  simp only [Option.bind_some] at h ⊢
  have hlt : 3 < w.heap.size := by
    rcases Nat.lt_or_ge 3 w.heap.size with q | q
    · exact q
    · rw [Array.getElem?_eq_none q] at h; simp at h
  rw [hb.block 3 hlt]; exact h
theorem below_grow (w : World) (k : Nat) (os : Array Obj) : Below w.heap.size w (Sort.grow (w.drewN k) os) := by
  refine ⟨rfl, rfl, rfl, by simp [Sort.grow], fun i hi => ?_⟩
  simp [Sort.grow, Array.getElem?_append, hi]
theorem rep1 (p : Nat) : Lib.repeatL (⟨#[48]⟩ : ByteArray).data.toList p = List.replicate p 48 := by
  induction p with
  | zero => rfl
  | succ p ih => show [48] ++ Lib.repeatL _ p = _; rw [ih]; rfl
set_option maxRecDepth 100000 in
set_option maxHeartbeats 1000000 in
theorem padded_any (n : Int) (width p : Nat) (l : List UInt8) (w : World) (h0 : 0 ≤ n) (h1 : n ≤ 1000000) (hl : Lib.itoa n = l) (hn : l.length ≤ 20) (hw : width ≤ 20) (hp : p + l.length = width) (ht : Tab w) :
    Calls Tryd.prog 83 #[.int .i64 n, .int .i64 width] w fun e w' => e = .returned (.string ⟨(List.replicate p 48 ++ l).toArray⟩) ∧ Below w.heap.size w w' := by
  have hit := Tryd.strconv_Itoa n (by omega) (by omega) w ht
  rw [hl] at hit
  have hsz : (⟨l.toArray⟩ : ByteArray).size = l.length := by simp [ByteArray.size]
  have hps : (⟨(List.replicate p (48 : UInt8)).toArray⟩ : ByteArray).size = p := by simp [ByteArray.size]
  have hrep := fun W => Tryd.strings_Repeat ⟨#[48]⟩ p W (by omega) (by show 1 * _ ≤ _; omega)
  rw [rep1] at hrep
  obtain ⟨L, hL⟩ : ∃ L, L = l.length := ⟨_, rfl⟩
  have hwp : IntKind.i64.wrap ((width : Int) - (L : Int)) = (p : Int) := by rw [IntWalk.i64_in _ (by omega)]; omega
  rw [← hL] at hsz
  have HL := Lib.hid hL
  have HP := Lib.hid hp
  have hL20 : L ≤ 20 := by omega
  have hp20 : p ≤ 20 := by omega
  clear hL hp hn hl
  go_enter Tryd.func83, Tryd.ntmps83
  go_wp2_with (first
    | (go_at_call 85; refine hit.mono ?_; rintro e w1 ⟨rfl, k, os, hw1⟩; have HB := Lib.hid (hw1 ▸ below_grow w k os); clear hw1)
    | (go_at_call 80; refine (hrep _).mono ?_; rintro e w2 ⟨rfl, hb2⟩; have HB := Lib.hid (blw_then HB.out hb2); clear hb2))
  go_ret
  refine ⟨ret_str ?_, HB.out⟩
  apply ByteArray.ext
  rw [ByteArray.data_append]
  simp
theorem bef2024 : bef 2024 = 738885 := by unfold bef; omega
theorem bef2025 : bef 2025 = 739251 := by unfold bef; omega
theorem m2024_2 : months 2024 2 = 29 := by decide
theorem dt2024 : Dt 738944 2024 2 28 :=
  ⟨⟨by omega, by omega, by rw [bef2024]; omega, by show 738944 < bef 2025; rw [bef2025]; omega⟩, by omega, by omega, by rw [bef2024]; decide, by omega, by rw [show ((2 : Nat) : Int) = 2 from rfl, m2024_2]; omega⟩
def TextP (w : World) (e : Ending) (w' : World) : Prop := e = .returned (.tuple #[.string ⟨#[50, 48, 50, 52, 45, 48, 54, 48]⟩, .int .i64 0]) ∧ Below w.heap.size w w'
set_option maxRecDepth 100000 in
set_option maxHeartbeats 2000000 in
theorem text_ok (w : World) (ht : Tab w) : Calls Tryd.prog 60 #[.int .i64 738944, .int .i64 1] w (TextP w) := by
  have HT := Lib.hid ht
  have i1 : Lib.itoa 2024 = [50, 48, 50, 52] := by simp [Lib.itoa, Lib.decDigits]
  have i2 : Lib.itoa 60 = [54, 48] := by simp [Lib.itoa, Lib.decDigits]
  have HP1 := Lib.hid (fun W (h : Tab W) => padded_any 2024 4 0 [50, 48, 50, 52] W (by omega) (by omega) i1 (by decide) (by omega) (by decide) h)
  have HP2 := Lib.hid (fun W (h : Tab W) => padded_any 60 3 1 [54, 48] W (by omega) (by omega) i2 (by decide) (by omega) (by decide) h)
  have hparts := parts_any' 738944 w
  rw [fitD_id 738944 (by omega) (by omega)] at hparts
  clear ht i1 i2
  go_enter Tryd.func60, Tryd.ntmps60
  go_wp2_with fail
  go_at_call 29
  refine hparts.mono ?_
  rintro e w1 ⟨y, j, r, rfl, hdt, hb⟩
  obtain ⟨rfl, rfl, rfl⟩ := hdt.unique dt2024
  have HB := Lib.hid hb
  clear hparts hdt hb
  have hbf := fun w => before_any 2024 w (by omega) (by omega)
  rw [bef2024] at hbf
  go_wp2_with (first
    | (go_at_call_of 83 (Value.int .i64 2024); refine (HP1.out _ (HT.out.below HB.out)).mono ?_; rintro e w2 ⟨rfl, hb2⟩; have HB := Lib.hid (blw_then HB.out hb2); clear hb2)
    | (go_at_call 61; refine (hbf _).mono ?_; rintro e w3 ⟨rfl, hw⟩; subst w3)
    | (go_at_call_of 83 (Value.int .i64 60); refine (HP2.out _ (HT.out.below HB.out)).mono ?_; rintro e w4 ⟨rfl, hb4⟩; have HB := Lib.hid (blw_then HB.out hb4); clear hb4))
  go_ret2
  refine ⟨?_, HB.out⟩
  first | rfl | decide | (congr 1; decide)
set_option maxHeartbeats 2000000 in
theorem dated_ok (w : World) (ht : Tab w) : Calls Tryd.prog 23 #[] w (Tr w) := by
  have hc : cnt 2024 2 29 = 738944 := by unfold cnt; rw [bef2024]; decide
  have hof : Calls Tryd.prog 27 #[.int .i64 2024, .int .i64 2, .int .i64 29] w (OfP 738944 0 w) :=
    of_good 2024 29 2 w (by omega) (by omega) (by omega) (by rw [show ((2 : Nat) : Int) = 2 from rfl, m2024_2]; omega) (by omega) (by omega) 738944 0 (.inr ⟨by rw [hc]; omega, hc.symm, rfl⟩)
  have htx := text_ok w ht
  clear ht hc
  go_enter Tryd.func23, Tryd.ntmps23
  go_wp2_with (first
    | (go_at_call 27; refine hof.mono ?_; rintro e w1 ⟨rfl, hw⟩; subst w1)
    | (go_at_call 60; refine htx.mono ?_; rintro e w2 ⟨rfl, hb⟩))
  go_ret
  exact ⟨rfl, hb⟩
theorem of_cases (y m k : Int) : (y < 1 ∨ 20000 < y ∨ k < 1 ∨ months y m < k) ∨ ∃ j : Nat, m = j ∧ 1 ≤ j ∧ j ≤ 12 ∧ 1 ≤ y ∧ y ≤ 20000 ∧ 1 ≤ k ∧ k ≤ months y m := by
  by_cases h : y < 1 ∨ 20000 < y ∨ k < 1 ∨ months y m < k
  · exact .inl h
  · obtain ⟨j, rfl, h1, h2⟩ := months_in y m (by omega)
    exact .inr ⟨j, rfl, h1, h2, by omega, by omega, by omega, by omega⟩
set_option maxRecDepth 100000 in
set_option maxHeartbeats 4000000 in
theorem days_walk (y m k d : Int) (w : World) (ht : Tab w) (n f : Int) (hof : ∀ w, Calls Tryd.prog 27 #[.int .i64 y, .int .i64 m, .int .i64 k] w (OfP n f w))
    (hn : ((y < 1 ∨ 12000 ≤ y ∨ k < 1 ∨ months y m < k) ∧ n = 0 ∧ f = 11) ∨ (1 ≤ y ∧ y < 12000 ∧ 1 ≤ k ∧ k ≤ months y m ∧ ∃ x, (∀ w, Calls Tryd.prog 28 #[.int .i64 y, .int .i64 m, .int .i64 k] w fun e w' => e = .returned (.int .i64 x) ∧ Below w.heap.size w w') ∧ ((4194304 < x ∧ n = 0 ∧ f = 11) ∨ (x ≤ 4194304 ∧ n = x ∧ f = 0)))) :
    Calls Tryd.prog 6 #[.int .i64 y, .int .i64 m, .int .i64 k, .int .i64 d] w (Tr w) := by
  have hdated := dated_ok w ht
  obtain ⟨lb, hlb⟩ : ∃ lb, lb = leap y := ⟨_, rfl⟩
  obtain ⟨q2, hq2⟩ : ∃ q, q = months y 2 := ⟨_, rfl⟩
  obtain ⟨mo, hmo⟩ : ∃ q, q = months y m := ⟨_, rfl⟩
  have hq : (q2 == 29) = lb := by
    rw [hq2, hlb, show months y 2 = if leap y then 29 else 28 from rfl]
    cases leap y <;> rfl
  have hleap := fun w => leap_any y w
  have hlen2 := fun w => length_any y 2 w
  have hmon := fun w => months_any y m w
  have hlen := fun w => length_any y m w
  rw [← hlb] at hleap
  rw [← hq2] at hlen2
  rw [← hmo] at hmon hlen hn
  have hdate : ∀ (D : Int) w, D = fitD d → Calls Tryd.prog 30 #[.int .i64 D] w (DtP (fitD d) w) := fun D w h => by rw [h]; exact dateof_any _ w (fitD_bd d).1 (fitD_bd d).2
  have hparts := fun w => parts_any' d w
  have HN := Lib.hid hn
  have HD := Lib.hid hdate
  clear hlb hq2 hmo ht hn hdate
  go_enter Tryd.func6, Tryd.ntmps6
  go_upto_region 5 with (first
    | (go_at_call 23; refine hdated.mono ?_; rintro e w1 ⟨rfl, hb1⟩; have HB := Lib.hid hb1; clear hb1 hdated)
    | (go_at_call 24; refine (hleap _).mono ?_; rintro e w2 ⟨rfl, hw⟩; subst w2)
    | (go_at_call_of 25 (Value.int .i64 2); refine (hlen2 _).mono ?_; rintro e w3 ⟨rfl, hb3⟩; have HB := Lib.hid (blw_then HB.out hb3); clear hb3)
    | (go_at_call 26; refine (hmon _).mono ?_; rintro e w4 ⟨rfl, hw⟩; subst w4)
    | (go_at_call 25; refine (hlen _).mono ?_; rintro e w5 ⟨rfl, hb5⟩; have HB := Lib.hid (blw_then HB.out hb5); clear hb5)
    | (go_at_call 27; refine (hof _).mono ?_; rintro e w6 ⟨rfl, hw⟩; subst w6))
  go_cut [62] (fun s62 wx => s62 = .bool (decide (1 ≤ y ∧ y < 12000 ∧ 1 ≤ k ∧ k ≤ mo)) ∧ Below w.heap.size w wx)
  case first =>
    go_wp2_with (go_at_call 25; refine (hlen _).mono ?_; rintro e w7 ⟨rfl, hb7⟩; have HB := Lib.hid (blw_then HB.out hb7); clear hb7)
    all_goals
      go_meet
      refine ⟨?_, HB.out⟩
      first | (simp; omega) | (congr 1; exact decide_eq_decide.2 ⟨fun h => by omega, fun h => by omega⟩) | (congr 1; simp; omega) | (congr 1; rw [eq_comm, decide_eq_true_iff]; omega) | (congr 1; rw [eq_comm, decide_eq_false_iff_not]; omega)
  case rest =>
  obtain ⟨rfl, hb8⟩ := hcut
  have HB := Lib.hid hb8
  clear hb8
  go_upto_if 62 with fail
  go_cut [11, 12] (fun s11 s12 wx => s11 = .int .i64 n ∧ s12 = .int .i64 f ∧ Below w.heap.size w wx)
  case first =>
    rcases HN.out with ⟨h1, h2, h3⟩ | ⟨h1, h2, h3, h4, x, hx, hxx⟩
    · have e1 : decide (1 ≤ y ∧ y < 12000 ∧ 1 ≤ k ∧ k ≤ mo) = false := decide_eq_false (by omega)
      subst h2; subst h3
      go_wp2_with fail
      all_goals (go_meet; exact ⟨rfl, rfl, HB.out⟩)
    · have e1 : decide (1 ≤ y ∧ y < 12000 ∧ 1 ≤ k ∧ k ≤ mo) = true := decide_eq_true ⟨h1, h2, h3, h4⟩
      rcases hxx with ⟨h5, h6, h7⟩ | ⟨h5, h6, h7⟩
      all_goals
        subst h6; subst h7
        go_wp2_with (go_at_call 28; refine (hx _).mono ?_; rintro e w9 ⟨rfl, hb9⟩; have HB := Lib.hid (blw_then HB.out hb9); clear hb9)
        all_goals try (exfalso; omega)
        all_goals (go_meet; exact ⟨rfl, rfl, HB.out⟩)
  case rest =>
  obtain ⟨rfl, rfl, hb8⟩ := hcut
  have HB := Lib.hid hb8
  clear hb8
  go_wp2_with fail
  go_at_call 29
  refine (hparts _).mono ?_
  rintro e w9 ⟨y1, j1, r1, rfl, hdt, hb9⟩
  have HDT := Lib.hid hdt
  have HB := Lib.hid (blw_then HB.out hb9)
  clear hb9 hdt
  go_wp2_with (go_at_call 30; refine (HD.out _ _ (by unfold fitD; (repeat' split) <;> omega)).mono ?_; rintro e w10 ⟨y3, j3, r3, rfl, hdt2, hb10⟩; obtain ⟨rfl, rfl, rfl⟩ := hdt2.unique HDT.out; have HB := Lib.hid (blw_then HB.out hb10); clear hb10 hdt2)
  all_goals
    go_ret
    exact ⟨rfl, HB.out⟩
theorem DayDates_walk (y m k d : Int) (w : World) (_ : (Lit.int .i64 y).wf = true) (_ : (Lit.int .i64 m).wf = true) (_ : (Lit.int .i64 k).wf = true) (_ : (Lit.int .i64 d).wf = true) (hL : laidMetH Tryd.prog Rows.dayDatesRow.laid w) :
    Calls Tryd.prog 6 #[.int .i64 y, .int .i64 m, .int .i64 k, .int .i64 d] w (Tr w) := by
  have ht : Tab w := by
    have h1 := laidMetH.filter (fun x => x.1 == "internal/strconv.uint64pow10") hL
    have hl : Rows.dayDatesRow.laid.filter (fun x => x.1 == "internal/strconv.uint64pow10") = [("internal/strconv.uint64pow10", Lib.tabData .u64 Lib.pow10Tab)] := by kernel_rfl
    rw [hl] at h1
    exact Lib.tabIs_of_head (rest := []) (g := 3) (t := 138) (e := 82) (n := 20) (by kernel_rfl) (by kernel_rfl) (by kernel_rfl) (by kernel_rfl) (by kernel_rfl) (by kernel_rfl) h1
  rcases of_cases y m k with h | ⟨j, rfl, j1, j2, h1, h2, h3, h4⟩
  · exact days_walk y m k d w ht 0 11 (fun w => of_bad y m k w h) (.inl ⟨by omega, rfl, rfl⟩)
  · by_cases hc : 4194304 < cnt y j k
    · refine days_walk y j k d w ht 0 11 (fun w => of_good y k j w h1 h2 h3 h4 j1 j2 0 11 (.inl ⟨hc, rfl, rfl⟩)) ?_
      by_cases h12 : y < 12000
      · exact .inr ⟨h1, h12, h3, h4, cnt y j k, fun w => counted_any y k j w h1 h2 h3 (by have := months_bd y j; omega) j1 j2, .inl ⟨hc, rfl, rfl⟩⟩
      · exact .inl ⟨by omega, rfl, rfl⟩
    · have h12 : y < 12000 := by
        have h5 := (bef_bd y h1 (by omega)).2.2
        have h6 := sumM_bd y (j - 1)
        unfold cnt at hc; omega
      refine days_walk y j k d w ht (cnt y j k) 0 (fun w => of_good y k j w h1 h2 h3 h4 j1 j2 _ 0 (.inr ⟨by omega, rfl, rfl⟩)) ?_
      exact .inr ⟨h1, h12, h3, h4, cnt y j k, fun w => counted_any y k j w h1 h2 h3 (by have := months_bd y j; omega) j1 j2, .inr ⟨by omega, rfl, rfl⟩⟩
end Go.Proofs.YtnbdmmepdmmbmaaDoor
