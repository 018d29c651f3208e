/- Contracts of slices.Clone at bytes, of bits.copied and bits.bit. -/
import Derived.Test.YtnbdmmepdmmbmaaDoorBitsAdd
import Derived.Test.YtnbdmmepdmmbmaaDoorBits64
import Derived.Lib.SliceRun
import Derived.Lib.Walk
import Derived.Deep.RegionWith
namespace Go.Proofs.YtnbdmmepdmmbmaaDoor
open Go.RowKit
set_option linter.unusedVariables false
set_option linter.unusedSimpArgs false
def Cloned (D : List UInt8) (w : World) (e : Ending) (w' : World) : Prop := ∃ v, e = .returned v ∧ w'.ownsRow w.heap.size 5 1 v D.length (Lib.byteCells D) ∧ Below w.heap.size w w'
set_option maxHeartbeats 2000000 in
set_option maxRecDepth 100000 in
theorem clone_any (D : List UInt8) (v : Value) (w : World) (hv : RB w v D) (hl : D.length ≤ 100000) : Calls Tryd.prog 95 #[v] w (Cloned D w) := by
  obtain ⟨A, c, rfl, hc, hr⟩ := hv
  obtain ⟨i0, hi, hz0, hz1, hz2⟩ := info_parts byte_info
  have HR := Lib.hid hr
  clear hr
  have q : ∀ (w : World) (a : Option Addr) (n c n' c' : Nat), (binOp .eql 30 (.slice a n c) (.slice none n' c')).run Tryd.prog w = .ok (.bool a.isNone) w := fun w a n c n' c' => Lib.run_eql_slice_nil w _ _ a n c n' c' Tryd.underlying30
  cases A with
  | none =>
    have hD : D = [] := by
      cases D with
      | nil => rfl
      | cons x D => obtain ⟨ad, h, _⟩ := HR.out 0 (by simp); cases h
    subst hD
    go_enter Tryd.func95, Tryd.ntmps95
    go_wp2
    all_goals (go_ret; exact ⟨_, rfl, ⟨by simp [Lib.byteCells], .inl ⟨rfl, rfl⟩⟩, by go_grown⟩)
  | some ad =>
    go_enter Tryd.func95, Tryd.ntmps95
    go_wp2_with (at_builtin; refine wpList_append_own _ rfl _ _ 30 rfl w.heap.size 5 i0 (.int .u8 0) 1 1 Tryd.underlying30 hi hz0 hz1 hz2 rfl (by decide) _ _ _ rfl (World.ownsRow_made w #[] 0 (Nat.le_refl _) (Nat.zero_le _) rfl) ad D.length c (Lib.byteCells D) rfl ?qc1 ?qc2 ?qc3 ?qc4 ?qc5 ?qc6 ?_)
    case qc1 => simp [Lib.byteCells]
    case qc2 =>
      intro j u hj
      have hjn : j < D.length := by
        have := (List.getElem?_eq_some_iff.1 hj).1
        simpa [Lib.byteCells] using this
      obtain ⟨ad', e, hcell⟩ := HR.out j hjn
      injection e with e
      subst e
      refine Lib.cell?_alloc_some _ ?_
      rw [hcell]
      simp [Lib.byteCells, List.getElem?_map, List.getElem?_eq_getElem hjn] at hj
      rw [hj]
    case qc3 => intro u hu; obtain ⟨x, _, rfl⟩ := List.mem_map.1 hu; rfl
    case qc4 => unfold maxLen; omega
    case qc5 => omega
    case qc6 => simp
    intro v' w1 hown hgrow hnil
    go_wp2
    go_ret
    refine ⟨v', rfl, by simpa using hown, ?_⟩
    exact ((Below.refl _ w).alloc (Nat.le_refl _) _).grown hgrow (by simp) (by intro k hk; simp [Value.ownBlock] at hk; omega)
theorem own_lower {w : World} {B B' : Nat} {e : TypeId} {s : Nat} {v : Value} {n : Nat} {xs : List Value} (h : w.ownsRow B e s v n xs) (hb : B' ≤ B) : w.ownsRow B' e s v n xs := by
  obtain ⟨h1, h2⟩ := h
  refine ⟨h1, ?_⟩
  rcases h2 with h2 | ⟨g, cap, cur, hv, hg, r⟩
  · exact .inl h2
  · exact .inr ⟨g, cap, cur, hv, by omega, r⟩
theorem own_slc {w : World} {B : Nat} {e : TypeId} {s : Nat} {v : Value} {n : Nat} {xs : List Value} (h : w.ownsRow B e s v n xs) : ∃ A c, v = .slice A n c := by
  rcases h.2 with ⟨rfl, rfl⟩ | ⟨g, cap, cur, rfl, _⟩
  · exact ⟨none, 0, rfl⟩
  · exact ⟨_, _, rfl⟩
/-- A bits.Bits value that reads as the bytes D and the length L. -/
def Copied (D : List UInt8) (L : Int) (w : World) (e : Ending) (w' : World) : Prop := ∃ v, e = .returned (.agg #[v, .int .i64 L]) ∧ w'.ownsRow w.heap.size 5 1 v D.length (Lib.byteCells D) ∧ Below w.heap.size w w'
set_option maxHeartbeats 2000000 in
set_option maxRecDepth 100000 in
theorem copied_any (D : List UInt8) (L : Int) (v : Value) (w : World) (hv : RB w v D) (hl : D.length ≤ 100000) : Calls Tryd.prog 77 #[.agg #[v, .int .i64 L]] w (Copied D L w) := by
  have HV := Lib.hid hv
  clear hv
  go_enter Tryd.func77, Tryd.ntmps77
  go_wp2
  go_region_with ((go_at_call 95; refine (clone_any D v _ (HV.out.below (blw_drew (blw_alloc (blw_alloc (Below.refl _ _) _) _))) hl).mono ?_; rintro e w' ⟨v', rfl, hown, hbel⟩; obtain ⟨A', c', rfl⟩ := own_slc hown; obtain ⟨hc, hf⟩ := bcell hbel; have hz := hbel.size; simp at hz))
  all_goals
    go_wp2
    refine bodyPost_ret (v := .agg #[.slice A' D.length c', .int .i64 L]) (by simp [results, Tryd.results77, go_sem, hc, hz]) rfl ⟨_, rfl, ?_, ?_⟩
    · exact own_lower (ownsRow_setCell_below (ownsRow_setCell_below hown (by simp <;> omega) _) (by simp <;> omega) _) (by simp <;> omega)
    · exact ((blw_then (blw_drew (blw_alloc (blw_alloc (Below.refl _ _) _) _)) hbel).setCell (p := ⟨w.heap.size + 1, 0, none⟩) (by simp <;> omega) _).setCell (p := ⟨w.heap.size + 1, 1, none⟩) (by simp <;> omega) _
theorem ub_int (D : List UInt8) (i : Nat) : ((nb D (i / 8) / 2 ^ (7 - i % 8) % 2 : Nat) : Int) = b01 (ub D i) := by
  unfold ub b01
  have : nb D (i / 8) / 2 ^ (7 - i % 8) % 2 = 0 ∨ nb D (i / 8) / 2 ^ (7 - i % 8) % 2 = 1 := by omega
  rcases this with h | h <;> rw [h] <;> rfl
set_option maxHeartbeats 1000000 in
theorem bit_any (D : List UInt8) (L : Int) (v : Value) (i : Nat) (w : World) (hv : RB w v D) (hi : i < 8 * D.length) (hi2 : i ≤ 64000) : Calls Tryd.prog 78 #[.agg #[v, .int .i64 L], .int .i64 i] w fun e w' => e = .returned (.int .i64 (b01 (ub D i))) ∧ Below w.heap.size w w' := by
  obtain ⟨ad, c, rfl, hcell⟩ := hv.get (i / 8) (by omega)
  have hlt := World.block_lt_of_cell? w _ hcell
  have hg : gb D (i / 8) = (nb D (i / 8) : Int) := rfl
  have hi0 : 0 ≤ (i : Int) / 8 := by omega
  have hi1 : (i : Int) / 8 < (D.length : Int) := by omega
  have hcell' : w.cell? (ad.add ((i : Int) / 8).toNat) = some (.int .u8 (nb D (i / 8))) := by rw [show ((i : Int) / 8).toNat = i / 8 by omega]; exact hcell
  rw [hg] at hcell
  have HU := Lib.hid (ub_int D i)
  clear hg
  go_enter Tryd.func78, Tryd.ntmps78
  go_wp2
  go_ret
  refine ⟨ret_int ?_, by go_grown⟩
  have hn := nb_lt D (i / 8)
  have e : ((nb D (i / 8) : Nat) : Int) / 2 ^ (7 - i % 8) = ((nb D (i / 8) / 2 ^ (7 - i % 8) : Nat) : Int) := by simp
  have hle : nb D (i / 8) / 2 ^ (7 - i % 8) ≤ nb D (i / 8) := Nat.div_le_self _ _
  have hu := HU.out
  rw [e, ← hu]
  generalize nb D (i / 8) / 2 ^ (7 - i % 8) = q at hle ⊢
  rw [wrap_in (by omega) (by omega), i64_and1]
  simp

end Go.Proofs.YtnbdmmepdmmbmaaDoor
