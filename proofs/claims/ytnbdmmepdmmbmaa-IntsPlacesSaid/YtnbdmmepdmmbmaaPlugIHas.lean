/- Contract of ints.Has (over slices.ContainsFunc, with a closure that holds the number), in the print's form. No statement is proved here. -/
import Derived.Test.YtnbdmmepdmmbmaaPIntsx0
import Derived.Test.YtnbdmmepdmmbmaaAid
namespace Go.Proofs.Ytnbdmmepdmmbmaa
open Go.RowKit Go.Proofs.YtnbdmmepdmmbmaaW.PrintWords Go.Proofs.YtnbdmmepdmmbmaaW.PrintLast Go.Proofs.Ytnbdmmepdmmbmaa.PInts
set_option linter.unusedVariables false
set_option linter.unusedSimpArgs false
def inP (n : Int) (r : S44) : Bool := decide (r.f0 ≤ n) && decide (n ≤ r.f1)
theorem pred_any (n x y : Int) (B : Nat) (W : World) (hB : B < W.heap.size) (hc : W.cell? ⟨B, 0, none⟩ = some (.int .i64 n)) :
    Calls Try.prog 58 #[.agg #[.int .i64 x, .int .i64 y], .pointer (some ⟨B, 0, none⟩)] W fun e w' => e = .returned (.bool (inP n ⟨x, y⟩)) ∧ Below W.heap.size W w' := by
  have hne : B ≠ W.heap.size := by omega
  unfold inP
  cases h1 : decide (x ≤ n) <;> cases h2 : decide (n ≤ y)
  all_goals
    go_enter Try.func58, Try.ntmps58
    go_wp2
    go_ret
    exact ⟨rfl, blw_alloc (Below.refl _ _) _⟩
set_option maxHeartbeats 1000000 in
theorem index_any (A0 : Option Addr) (c0 : Nat) (l : List S44) (n : Int) (B : Nat) (w : World) (hr : Kd.C k44 w A0 l.length l) (hl : l.length ≤ 9223372036854775807) (hB : B < w.heap.size) (hc : w.cell? ⟨B, 0, none⟩ = some (.int .i64 n)) :
    Calls Try.prog 75 #[.slice A0 l.length c0, .func (.func 58) #[] #[.pointer (some ⟨B, 0, none⟩)]] w fun e w' => ∃ q, e = .returned (.int .i64 q) ∧ decide (0 ≤ q) = l.any (inP n) ∧ Below w.heap.size w w' := by
  have HR := Lib.hid hr
  have HC := Lib.hid hc
  clear hr hc
  go_enter Try.func75, Try.ntmps75
  go_wp2
  go_loopw [8] (fun i wr => ∃ j : Nat, j ≤ l.length ∧ i = .int .i64 j ∧ (l.take j).any (inP n) = false ∧ Below w.heap.size w wr) (fun i _ => l.length - (intOf i).toNat)
  case atStart => exact ⟨0, Nat.zero_le _, rfl, rfl, Below.refl _ _⟩
  case round =>
    obtain ⟨j, hj, rfl, hT, hb⟩ := hrel
    have HT := Lib.hid hT
    have HBL := Lib.hid hb
    clear hT hb
    by_cases hlt : j < l.length
    · have i0 : (0 : Int) ≤ j := by omega
      have i1 : (j : Int) < (l.length : Int) := by omega
      obtain ⟨ad, e, hx0, hx1⟩ := at_T44 HR.out j i0 i1
      cases e
      replace hx0 := (HBL.out.cell (World.block_lt_of_cell? w _ hx0)).trans hx0
      replace hx1 := (HBL.out.cell (World.block_lt_of_cell? w _ hx1)).trans hx1
      have hrd : rd_T44 l (j : Int) = l[j] := by simp [rd_T44, List.getD_eq_getElem?_getD, List.getElem?_eq_getElem hlt]
      rw [hrd, Int.toNat_natCast] at hx0 hx1
      obtain ⟨r, hr⟩ : ∃ r, r = l[j] := ⟨_, rfl⟩
      rw [← hr] at hx0 hx1
      have HRR := Lib.hid hr
      have hcl := (HBL.out.cell (p := ⟨B, 0, none⟩) hB).trans HC.out
      have hBr : B < wr.heap.size := Nat.lt_of_lt_of_le hB HBL.out.size
      have hpred := pred_any n r.f0 r.f1 B wr hBr hcl
      obtain ⟨b, hbb⟩ : ∃ b, b = inP n r := ⟨_, rfl⟩
      rw [show (⟨r.f0, r.f1⟩ : S44) = r from rfl, ← hbb] at hpred
      have HBB := Lib.hid hbb
      clear hr hbb hcl hrd
      go_wp2_with (go_at_call 58; refine hpred.mono ?_; rintro e w1 ⟨rfl, hb1⟩; have HB1 := Lib.hid (blw_then HBL.out hb1); clear hb1)
      · have hb : inP n l[j] = true := by rw [← HRR.out, ← HBB.out]; assumption
        go_ret
        refine ⟨j, rfl, ?_, HB1.out⟩
        rw [decide_eq_true i0, eq_comm, List.any_eq_true]
        exact ⟨l[j], List.getElem_mem hlt, hb⟩
      · have hb : inP n l[j] = false := by rw [← HRR.out, ← HBB.out]; assumption
        go_roundw
        case rel => exact ⟨j + 1, by omega, by go_num, by rw [List.take_succ_eq_append_getElem hlt, List.any_append, HT.out]; simp [hb], HB1.out⟩
        case measure => simp [intOf]; omega
    · obtain rfl : j = l.length := by omega
      go_wp2
      go_ret
      exact ⟨-1, rfl, by have := HT.out; rw [List.take_length] at this; rw [this]; rfl, HBL.out⟩
theorem contains_any (A0 : Option Addr) (c0 : Nat) (l : List S44) (n : Int) (B : Nat) (w : World) (hr : Kd.C k44 w A0 l.length l) (hl : l.length ≤ 9223372036854775807) (hB : B < w.heap.size) (hc : w.cell? ⟨B, 0, none⟩ = some (.int .i64 n)) :
    Calls Try.prog 57 #[.slice A0 l.length c0, .func (.func 58) #[] #[.pointer (some ⟨B, 0, none⟩)]] w fun e w' => e = .returned (.bool (l.any (inP n))) ∧ Below w.heap.size w w' := by
  have h := index_any A0 c0 l n B w hr hl hB hc
  clear hr hc
  go_enter Try.func57, Try.ntmps57
  go_wp2_with (go_at_call 75; refine h.mono ?_; rintro e w1 ⟨q, rfl, hq, hb⟩)
  go_ret
  exact ⟨rfl, hb⟩
namespace Plug
def ints_Has.f (l : List S44) (n : Int) : Option Bool := if l.length ≤ 9223372036854775807 then some (l.any (inP n)) else none
theorem ints_Has.calls (A0 : Option Addr) (c0 : Nat) (l0 : List S44) (a1 : Int) (r : Bool) (w : World) (hr0 : Kd.C k44 w A0 l0.length l0) (hc0 : l0.length ≤ c0) (h : ints_Has.f l0 a1 = some r) :
    Calls Try.prog 20 #[.slice A0 l0.length c0, .int .i64 a1] w fun e w' => e = .returned (.bool r) ∧ Below w.heap.size w w' := by
  unfold ints_Has.f at h
  by_cases hl : l0.length ≤ 9223372036854775807
  · rw [if_pos hl] at h
    have hr := Option.some.inj h
    have hc := contains_any A0 c0 l0 a1 w.heap.size (w.alloc (.cells #[.int .i64 a1] 3)) (Kd.C_below hr0 (blw_alloc (Below.refl _ _) _)) hl (by simp) (by simp [go_sem])
    rw [hr] at hc
    clear hr0 hr h
    go_enter Try.func20, Try.ntmps20
    go_wp2_with (go_at_call 57; refine hc.mono ?_; rintro e w1 ⟨rfl, hb⟩)
    go_ret
    exact ⟨rfl, blw_then (blw_alloc (Below.refl _ _) _) hb⟩
  · rw [if_neg hl] at h; cases h
end Plug
end Go.Proofs.Ytnbdmmepdmmbmaa
