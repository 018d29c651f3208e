/- Contract of bits.Check at every string of bits that can be read. -/
import Derived.Test.YtnbdmmepdmmbmaaDoorAid
import Derived.Test.YtnbdmmepdmmbmaaDoorBitsPure
import Derived.Test.YtnbdmmepdmmbmaaDoorBuilder
namespace Go.Proofs.YtnbdmmepdmmbmaaDoor
open Go.RowKit
set_option linter.unusedVariables false
set_option linter.unusedSimpArgs false
/-- The slice v reads as the bytes D. -/
def RB (w : World) (v : Value) (D : List UInt8) : Prop := ∃ A c, v = .slice A D.length c ∧ D.length ≤ c ∧ ∀ i (h : i < D.length), ∃ ad, A = some ad ∧ w.cell? (ad.add i) = some (.int .u8 D[i].toNat)
theorem RB.below {w w' : World} {v : Value} {D : List UInt8} (h : RB w v D) (hb : Below w.heap.size w w') : RB w' v D := by
  obtain ⟨A, c, hv, hc, hr⟩ := h
  refine ⟨A, c, hv, hc, fun i hi => ?_⟩
  obtain ⟨ad, ha, hcell⟩ := hr i hi
  exact ⟨ad, ha, by rw [hb.cell (World.block_lt_of_cell? w _ hcell)]; exact hcell⟩
def gb (D : List UInt8) (i : Nat) : Int := ((D.getD i 0).toNat : Int)
theorem gb_bd (D : List UInt8) (i : Nat) : 0 ≤ gb D i ∧ gb D i ≤ 255 := by
  unfold gb; have := (D.getD i 0).toNat_lt; omega
theorem RB.get {w : World} {v : Value} {D : List UInt8} (h : RB w v D) (i : Nat) (hi : i < D.length) : ∃ ad c, v = .slice (some ad) D.length c ∧ w.cell? (ad.add i) = some (.int .u8 (gb D i)) := by
  obtain ⟨A, c, hv, hc, hr⟩ := h
  obtain ⟨ad, rfl, hcell⟩ := hr i hi
  exact ⟨ad, c, hv, by rw [hcell]; simp [gb, List.getD, List.getElem?_eq_getElem hi]⟩
theorem RB.len {w : World} {v : Value} {D : List UInt8} (h : RB w v D) : ∃ A c, v = .slice A D.length c := by
  obtain ⟨A, c, hv, _⟩ := h; exact ⟨A, c, hv⟩
/-- The error of bits.Check. -/
def chk (D : List UInt8) (L : Int) : Int :=
  if L < 0 ∨ 64000 < L then 2 else if (D.length : Int) ≠ (L + 7) / 8 then 3 else if 0 < L % 8 ∧ gb D (L / 8).toNat * 2 ^ (L % 8).toNat % 256 ≠ 0 then 3 else 0
def tail0 (D : List UInt8) (L : Int) : Int := if gb D (L / 8).toNat * 2 ^ (L % 8).toNat % 256 ≠ 0 then 3 else 0
theorem check_large (D : List UInt8) (L : Int) (v : Value) (w : World) (hv : RB w v D) (h : L < 0 ∨ 64000 < L) : Calls Tryd.prog 76 #[.agg #[v, .int .i64 L]] w fun e w' => e = .returned (.int .i64 2) ∧ Below w.heap.size w w' := by
  obtain ⟨A, c, rfl⟩ := hv.len
  go_enter Tryd.func76, Tryd.ntmps76
  go_wp2
  all_goals try (exfalso; omega)
  all_goals (go_ret; exact ⟨rfl, by go_grown⟩)
theorem check_form (D : List UInt8) (L : Int) (v : Value) (w : World) (hv : RB w v D) (h0 : 0 ≤ L) (h1 : L ≤ 64000) (h : (D.length : Int) ≠ (L + 7) / 8) : Calls Tryd.prog 76 #[.agg #[v, .int .i64 L]] w fun e w' => e = .returned (.int .i64 3) ∧ Below w.heap.size w w' := by
  obtain ⟨A, c, rfl⟩ := hv.len
  go_enter Tryd.func76, Tryd.ntmps76
  go_wp2
  all_goals try (exfalso; omega)
  all_goals (go_ret; exact ⟨rfl, by go_grown⟩)
theorem check_ok8 (D : List UInt8) (L : Int) (v : Value) (w : World) (hv : RB w v D) (h0 : 0 ≤ L) (h1 : L ≤ 64000) (h : (D.length : Int) = (L + 7) / 8) (h8 : L % 8 = 0) : Calls Tryd.prog 76 #[.agg #[v, .int .i64 L]] w fun e w' => e = .returned (.int .i64 0) ∧ Below w.heap.size w w' := by
  obtain ⟨A, c, rfl⟩ := hv.len
  have hg : decide (0 < L % 8) = false := by simp [h8]
  have H := Lib.hid h
  have h' : ((D.length : Int) == (L + 7) / 8) = true := by simpa using h
  have h'' : ((D.length : Int) != (L + 7) / 8) = false := by simpa using h
  clear h h8
  go_enter Tryd.func76, Tryd.ntmps76
  go_wp2
  all_goals try (exfalso; omega)
  go_quiet (fail)
  go_wp2
  all_goals (go_ret; exact ⟨rfl, blw_drewN (blw_alloc (Below.refl _ _) _) _⟩)
theorem check_bit (D : List UInt8) (L : Int) (v : Value) (w : World) (hv : RB w v D) (h0 : 0 ≤ L) (h1 : L ≤ 64000) (h : (D.length : Int) = (L + 7) / 8) (h8 : 0 < L % 8) : Calls Tryd.prog 76 #[.agg #[v, .int .i64 L]] w fun e w' => e = .returned (.int .i64 (tail0 D L)) ∧ Below w.heap.size w w' := by
  obtain ⟨ad, c, rfl, hcell⟩ := hv.get (L / 8).toNat (by omega)
  have hlt := World.block_lt_of_cell? w _ hcell
  have h' : ((D.length : Int) == (L + 7) / 8) = true := by simpa using h
  have h'' : ((D.length : Int) != (L + 7) / 8) = false := by simpa using h
  have hi0 : 0 ≤ L / 8 := by omega
  have hi1 : L / 8 < (D.length : Int) := by omega
  have H := Lib.hid h
  clear h
  go_enter Tryd.func76, Tryd.ntmps76
  go_wp2
  all_goals try (exfalso; omega)
  go_quiet (fail)
  go_wp2
  all_goals
    go_ret
    refine ⟨ret_int ?_, blw_drewN (blw_alloc (Below.refl _ _) _) _⟩
  · have g : (gb D (L / 8).toNat * 2 ^ (L % 8).toNat % 256 != 0) = true := by assumption
    unfold tail0; rw [if_pos (by simpa using g)]
  · have g : (gb D (L / 8).toNat * 2 ^ (L % 8).toNat % 256 != 0) = false := by assumption
    unfold tail0; rw [if_neg (by simpa using g)]
theorem check_any (D : List UInt8) (L : Int) (v : Value) (w : World) (hv : RB w v D) : Calls Tryd.prog 76 #[.agg #[v, .int .i64 L]] w fun e w' => e = .returned (.int .i64 (chk D L)) ∧ Below w.heap.size w w' := by
  unfold chk
  split
  · next h => exact check_large D L v w hv h
  · split
    · next h h' => exact check_form D L v w hv (by omega) (by omega) h'
    · by_cases h8 : 0 < L % 8
      · have := check_bit D L v w hv (by omega) (by omega) (by omega) h8
        unfold tail0 at this
        by_cases g : gb D (L / 8).toNat * 2 ^ (L % 8).toNat % 256 ≠ 0
        · rw [if_pos g] at this; rw [if_pos ⟨h8, g⟩]; exact this
        · rw [if_neg g] at this; rw [if_neg (fun q => g q.2)]; exact this
      · rw [if_neg (fun q => h8 q.1)]
        exact check_ok8 D L v w hv (by omega) (by omega) (by omega) (by omega)

end Go.Proofs.YtnbdmmepdmmbmaaDoor
