/- Contract of the law's holds. -/
import Derived.Test.YtnbdmmepdmmbmaaDoorBitsEqual
namespace Go.Proofs.YtnbdmmepdmmbmaaDoor
open Go.RowKit
set_option linter.unusedVariables false
set_option linter.unusedSimpArgs false
theorem bitsS_digs (S : ByteArray) (l : List Bool) (h : S.data.toList = digs l) : bitsS S = l := by
  unfold bitsS; rw [h]; unfold digs
  rw [List.map_map]
  have : ((fun c : UInt8 => c == 49) ∘ fun b : Bool => if b then 49 else 48) = id := by funext b; cases b <;> rfl
  rw [this, List.map_id]
set_option maxRecDepth 100000 in
set_option maxHeartbeats 2000000 in
theorem holds_ok (l : List Bool) (S : ByteArray) (v : Value) (w : World) (hS : S.data.toList = digs l) (hv : RB w v (pack l)) (hl : l.length ≤ 64000) : Calls Tryd.prog 16 #[.agg #[v, .int .i64 l.length], .int .i64 0, .string S, .int .i64 0] w (Tr w) := by
  obtain ⟨A, c, rfl⟩ := hv.len
  have hsz : S.size = l.length := by rw [size_of_list hS, digs_length]
  have hP := (packed_pack l).len
  have HV := Lib.hid hv
  have HB := Lib.hid (bitsS_digs S l hS)
  have HZ := Lib.hid hsz
  have hS2 : S.size ≤ 64000 := by omega
  have hpl : (pack l).length ≤ 100000 := by omega
  have e1 : ((l.length : Int) == (S.size : Int)) = true := by rw [hsz]; simp
  clear hv hS hsz hP
  go_enter Tryd.func16, Tryd.ntmps16
  go_wp2
  go_region_with ((first
    | (go_at_call 49; refine (bitsOf_any S _ (by omega)).mono ?_; rw [HB.out]; rintro e w1 ⟨v1, rfl, hown, hb1⟩; obtain ⟨A1, c1, rfl⟩ := own_slc hown; obtain ⟨hc, hf⟩ := bcell hb1; have hz := hb1.size; simp at hz)
    | (go_at_call 48; refine (equal_any (pack l) (pack l) _ _ _ ((HV.out.below (blw_drew (blw_alloc (Below.refl _ _) _))).below hb1) (RB.of_own hown) (by omega) (by omega)).mono ?_; rintro e w2 ⟨rfl, hb2⟩)))
  all_goals
    go_wp2
    go_ret
    exact tr_of (by simp [eqB]) (blw_then (blw_then (blw_drew (blw_alloc (Below.refl _ _) _)) hb1) hb2)
set_option maxRecDepth 100000 in
set_option maxHeartbeats 2000000 in
theorem holds_err (f : Int) (hf : f ≠ 0) (S : ByteArray) (w : World) : Calls Tryd.prog 16 #[.agg #[.slice none 0 0, .int .i64 0], .int .i64 f, .string S, .int .i64 f] w (Tr w) := by
  have q1 : (f == 0) = false := by simpa using hf
  have q2 : (f != 0) = true := by simpa using hf
  have hv : RB w (.slice none 0 0) [] := ⟨none, 0, rfl, Nat.le_refl _, fun i hi => by simp at hi⟩
  have HV := Lib.hid hv
  have HB := Lib.hid (show bitsS ⟨#[]⟩ = [] from rfl)
  have HP := Lib.hid (show pack [] = [] from rfl)
  clear hv hf
  go_enter Tryd.func16, Tryd.ntmps16
  go_wp2
  go_region_with ((first
    | (go_at_call 49; refine (bitsOf_any ⟨#[]⟩ _ (by decide)).mono ?_; rw [HB.out]; rintro e w1 ⟨v1, rfl, hown, hb1⟩; rw [HP.out] at hown; obtain ⟨A1, c1, rfl⟩ := own_slc hown; obtain ⟨hc, hf⟩ := bcell hb1; have hz := hb1.size; simp at hz)
    | (go_at_call 48; refine (equal_any [] [] _ _ _ ((HV.out.below (blw_drew (blw_alloc (Below.refl _ _) _))).below hb1) (RB.of_own hown) (by decide) (by decide)).mono ?_; rintro e w2 ⟨rfl, hb2⟩)))
  all_goals
    go_wp2
    go_ret
    exact tr_of (by simp [eqB]) (blw_then (blw_then (blw_drew (blw_alloc (Below.refl _ _) _)) hb1) hb2)

end Go.Proofs.YtnbdmmepdmmbmaaDoor
