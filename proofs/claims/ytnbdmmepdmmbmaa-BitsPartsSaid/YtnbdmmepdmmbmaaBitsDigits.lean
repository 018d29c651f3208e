/- Contract of the law's digits. -/
import Derived.Test.YtnbdmmepdmmbmaaBitsOf
namespace Go.Proofs.Ytnbdmmepdmmbmaa
open Go.RowKit
set_option linter.unusedVariables false
set_option linter.unusedSimpArgs false
theorem unp_take (D : List UInt8) (k n : Nat) (h : n ≤ k) : (digs (unp D k)).take n = digs (unp D n) := by
  unfold digs unp
  rw [← List.map_take, ← List.map_take, List.take_range, Nat.min_eq_left h]
theorem extract_take (S : ByteArray) (n : Nat) : (S.extract 0 n).data.toList = S.data.toList.take n := by
  rw [ByteArray.data_extract]; simp [Array.toList_extract]
theorem digits_err (D : List UInt8) (L : Int) (v : Value) (w : World) (hv : RB w v D) (hl : D.length ≤ 140737488351232) (h : chk D L ≠ 0) :
    Calls Try.prog 6 #[.agg #[v, .int .i64 L]] w fun e w' => e = .returned (.tuple #[.string ⟨#[]⟩, .int .i64 (chk D L)]) ∧ Below w.heap.size w w' := by
  obtain ⟨A, c, rfl⟩ := hv.len
  have HV := Lib.hid hv
  have h1 : (chk D L != 0) = true := by simpa using h
  have h2 : (chk D L == 0) = false := by simpa using h
  clear hv h
  go_enter Try.func6, Try.ntmps6
  go_wp2_with (go_at_call 40; refine (berr_any D L _ _ (HV.out.below (blw_alloc (Below.refl _ _) _)) hl).mono ?_; rintro e w1 ⟨rfl, hbel⟩; obtain ⟨hc, hf⟩ := bcell hbel; have hz := hbel.size; simp at hz)
  go_ret2
  exact ⟨rfl, blw_then (blw_alloc (Below.refl _ _) _) hbel⟩
def DigitsOk (l : List Bool) (w : World) (e : Ending) (w' : World) : Prop := ∃ S : ByteArray, e = .returned (.tuple #[.string S, .int .i64 0]) ∧ S.data.toList = digs l ∧ Below w.heap.size w w'
set_option maxHeartbeats 1000000 in
theorem digits_ok (D : List UInt8) (L : Nat) (v : Value) (w : World) (hv : RB w v D) (h : chk D L = 0) :
    Calls Try.prog 6 #[.agg #[v, .int .i64 L]] w (DigitsOk (unp D L) w) := by
  obtain ⟨A, c, rfl⟩ := hv.len
  obtain ⟨l0, l1, l2, _⟩ := chk_bd h
  have hd : D.length ≤ 100000 := by omega
  have hLl : L ≤ 8 * D.length := by omega
  have HV := Lib.hid hv
  have HC := Lib.hid h
  have HL2 := Lib.hid l2
  clear hv h l2
  go_enter Try.func6, Try.ntmps6
  go_wp2_with (go_at_call 40; refine (berr_any D L _ _ (HV.out.below (blw_alloc (Below.refl _ _) _)) (by omega)).mono ?_; rw [HC.out]; rintro e w1 ⟨rfl, hbel⟩; have k0 := (hbel.cell (p := ⟨w.heap.size, 0, none⟩) (by simp)).trans (by simp [go_sem] : _ = some (Value.slice A D.length c)); have k1 := (hbel.cell (p := ⟨w.heap.size, 1, none⟩) (by simp)).trans (by simp [go_sem] : _ = some (Value.int IntKind.i64 L)); have hz : w.heap.size < w1.heap.size := by have := hbel.size; simp at this; omega)
  go_region_with ((go_at_call 41; refine (btext_any D _ _ (((HV.out.below (blw_alloc (Below.refl _ _) _)).below hbel).below (blw_drew (Below.refl _ _))) hd).mono ?_; rintro e w2 ⟨S, rfl, hS, hb2⟩; have m1 : w2.cell? ⟨w.heap.size, 1, none⟩ = some (Value.int IntKind.i64 L) := ((hb2.cell (p := ⟨w.heap.size, 1, none⟩) hz).trans k1); have m0 : w2.cell? ⟨w.heap.size, 0, none⟩ = some (Value.slice A D.length c) := ((hb2.cell (p := ⟨w.heap.size, 0, none⟩) hz).trans k0); have hsz : L ≤ S.size := (by have q := size_of_list hS; rw [digs_length, unp_length] at q; omega); have HS := Lib.hid hS; clear hS))
  all_goals
    go_wp2
    go_ret2
    exact ⟨S.extract 0 L, rfl, by rw [extract_take, HS.out, unp_take _ _ _ hLl], blw_then (blw_drew (blw_then (blw_alloc (Below.refl _ _) _) hbel)) hb2⟩

end Go.Proofs.Ytnbdmmepdmmbmaa
