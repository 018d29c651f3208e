/- Contract of slices.Equal at bytes. -/
import Derived.Test.YtnbdmmepdmmbmaaDoorBitsOf
namespace Go.Proofs.YtnbdmmepdmmbmaaDoor
open Go.RowKit
set_option linter.unusedVariables false
set_option linter.unusedSimpArgs false
def eqB (D E : List UInt8) : Bool := decide (D = E)
theorem take_eq_succ {D E : List UInt8} (hl : D.length = E.length) {j : Nat} (hj : j < D.length) (h : D.take j = E.take j) (hg : gb D j = gb E j) : D.take (j + 1) = E.take (j + 1) := by
  rw [List.take_succ_eq_append_getElem hj, List.take_succ_eq_append_getElem (by omega), h]
  have : D[j] = E[j] := by
    unfold gb at hg
    rw [List.getD_eq_getElem?_getD, List.getD_eq_getElem?_getD, List.getElem?_eq_getElem hj, List.getElem?_eq_getElem (by omega)] at hg
    simp only [Option.getD_some] at hg
    exact UInt8.toNat_inj.1 (by omega)
  rw [this]
set_option maxHeartbeats 1000000 in
theorem equal_any (D E : List UInt8) (v u : Value) (w : World) (hv : RB w v D) (hu : RB w u E) (hl : D.length ≤ 140737488351232) (hl2 : E.length ≤ 140737488351232) : Calls Tryd.prog 48 #[v, u] w fun e w' => e = .returned (.bool (eqB D E)) ∧ Below w.heap.size w w' := by
  obtain ⟨A, c, rfl⟩ := hv.len
  obtain ⟨A2, c2, rfl⟩ := hu.len
  have HV := Lib.hid hv
  have HU := Lib.hid hu
  clear hv hu
  by_cases hne : D.length = E.length
  · have h1 : ((D.length : Int) == (E.length : Int)) = true := by rw [hne]; simp
    have h2 : ((D.length : Int) != (E.length : Int)) = false := by rw [hne]; simp
    have HL := Lib.hid hne
    clear hne
    go_enter Tryd.func48, Tryd.ntmps48
    go_wp2
    go_loopw [13] (fun i wr => ∃ j : Nat, j ≤ D.length ∧ i = .int .i64 j ∧ D.take j = E.take j ∧ Below w.heap.size w wr) (fun i _ => D.length - (intOf i).toNat)
    case atStart => exact ⟨0, Nat.zero_le _, rfl, rfl, Below.refl _ _⟩
    case round =>
      obtain ⟨j, hj, rfl, hT, hB⟩ := hrel
      have HT := Lib.hid hT
      have HB := Lib.hid hB
      clear hT hB
      by_cases hlt : j < D.length
      · have hltE : j < E.length := by have := HL.out; omega
        obtain ⟨ad, c', hc1, hcell⟩ := (HV.out.below HB.out).get j hlt
        injection hc1 with hA hc2 hc3
        subst hA hc3
        obtain ⟨ad2, c2', hc1, hcell2⟩ := (HU.out.below HB.out).get j hltE
        injection hc1 with hA hc2 hc3
        subst hA hc3
        have i1 : (j : Int) < (D.length : Int) := by omega
        have i2 : (j : Int) < (E.length : Int) := by omega
        have i0 : (0 : Int) ≤ j := by omega
        have hcell' : wr.cell? (ad.add (j : Int).toNat) = some (.int .u8 (gb D j)) := hcell
        have hcell2' : wr.cell? (ad2.add (j : Int).toNat) = some (.int .u8 (gb E j)) := hcell2
        cases hg : (gb D j == gb E j)
        · have hg' : (gb D j != gb E j) = true := by simp [bne, hg]
          go_wp2
          go_quiet (fail)
          go_wp2
          go_ret
          refine ⟨ret_bool ?_, blw_drewN HB.out _⟩
          unfold eqB
          rw [eq_comm, decide_eq_false_iff_not]
          rintro rfl
          simp at hg
        · have hg' : (gb D j != gb E j) = false := by simp [bne, hg]
          have HG := Lib.hid (by simpa using hg : gb D j = gb E j)
          go_wp2
          go_quiet (fail)
          go_wp2
          go_roundw
          case rel => exact ⟨j + 1, by omega, by go_num, take_eq_succ HL.out hlt HT.out HG.out, blw_drewN HB.out _⟩
          case measure => simp [intOf]; omega
      · obtain rfl : j = D.length := by omega
        go_wp2
        go_ret
        refine ⟨ret_bool ?_, HB.out⟩
        unfold eqB
        rw [eq_comm, decide_eq_true_iff]
        have := HT.out
        rw [List.take_length, HL.out, List.take_length] at this
        exact this
  · have h1 : ((D.length : Int) == (E.length : Int)) = false := by rw [beq_eq_false_iff_ne]; omega
    have h2 : ((D.length : Int) != (E.length : Int)) = true := by rw [bne_iff_ne]; omega
    have HL := Lib.hid hne
    clear hne
    go_enter Tryd.func48, Tryd.ntmps48
    go_wp2
    go_ret
    refine ⟨ret_bool ?_, Below.refl _ _⟩
    unfold eqB
    rw [eq_comm, decide_eq_false_iff_not]
    rintro rfl
    exact HL.out rfl
end Go.Proofs.YtnbdmmepdmmbmaaDoor
