/- Contracts of utf.Lines (over strings.Builder). No statement is proved here. -/
import Derived.Test.YtnbdmmepdmmbmaaDoorUtfRunes
import Derived.Test.YtnbdmmepdmmbmaaDoorReplPlain
namespace Go.Proofs.YtnbdmmepdmmbmaaDoor
open Go.RowKit Go.Proofs.YtnbdmmepdmmbmaaDoorW.PrintWords Go.Proofs.YtnbdmmepdmmbmaaDoorW.PrintLast
set_option linter.unusedVariables false
set_option linter.unusedSimpArgs false
/-- The byte ahead of place p. -/
def pvB (l : List UInt8) (p : Nat) : UInt8 := if p = 0 then 0 else l.getD (p - 1) 0
theorem lines_step (l : List UInt8) (p : Nat) (h : p < l.length) : linesP (pvB l p) (l.drop p) = (if l.getD p 0 = 13 then [10] else if l.getD p 0 = 10 ∧ pvB l p = 13 then [] else [l.getD p 0]) ++ linesP (pvB l (p + 1)) (l.drop (p + 1)) := by
  rw [List.drop_eq_getElem_cons h]
  have e : l.getD p 0 = l[p] := by rw [List.getD_eq_getElem?_getD, List.getElem?_eq_getElem h]; rfl
  have e2 : pvB l (p + 1) = l[p] := by unfold pvB; rw [if_neg (by omega), Nat.add_sub_cancel, e]
  rw [e, e2]; rfl
theorem byte_eq (s : ByteArray) (j : Nat) (h : j < s.size) : ((s[j].toNat : Nat) : Int) = (((lb s).getD j 0).toNat : Nat) := by
  have : (lb s).getD j 0 = s[j] := by unfold lb; rw [List.getD_eq_getElem?_getD, Array.getElem?_toList, Array.getElem?_eq_getElem h]; rfl
  rw [this]
set_option maxHeartbeats 1000000 in
theorem lines_any (s : ByteArray) (w : World) (hs : s.size ≤ 17592186043904) : Calls Tryd.prog 11 #[.string s] w fun e w' => e = .returned (.string ⟨(linesP 0 (lb s)).toArray⟩) ∧ Below w.heap.size w w' := by
  go_enter Tryd.func11, Tryd.ntmps11
  go_wp2_with fail
  obtain ⟨w2, hw2⟩ : ∃ w2, w2 = w.alloc (Obj.cells #[Value.pointer none, Value.slice none 0 0] 60) := ⟨_, rfl⟩
  obtain ⟨ob, hob⟩ : ∃ ob, ob = w.heap.size := ⟨_, rfl⟩
  have hbl : Bld ob ob [] w2 := by rw [hw2, hob]; exact bld_new w
  have hb2 : Below w.heap.size w w2 := by rw [hw2]; exact blw_alloc (Below.refl _ _) _
  have hs2 : w2.heap.size = ob + 1 := by rw [hw2, hob]; simp
  rw [← hw2, ← hob]
  have HB2 := Lib.hid hb2
  have HBL := Lib.hid hbl
  have HOB := Lib.hid hob
  clear hw2 hob hbl hb2
  go_loopw [7] (fun i wr => ∃ (p : Nat) (acc : List UInt8), p ≤ s.size ∧ i = .int .i64 p ∧ acc ++ linesP (pvB (lb s) p) ((lb s).drop p) = linesP 0 (lb s) ∧ acc.length ≤ p ∧ Bld ob ob acc wr ∧ Below ob w2 wr) (fun i _ => s.size - (intOf i).toNat)
  case atStart => exact ⟨0, [], Nat.zero_le _, rfl, by simp [pvB], by simp, HBL.out, Below.refl _ _⟩
  case round =>
    obtain ⟨p, acc, hp, rfl, hacc, hal, hO, hB⟩ := hrel
    have hszr := hB.size
    have HO := Lib.hid hO
    have HB := Lib.hid hB
    have HA := Lib.hid hacc
    clear hO hB hacc
    by_cases hlt : p < s.size
    · have hst := lines_step (lb s) p (by rw [lb_len]; exact hlt)
      have hx := byte_eq s p hlt
      have hu : ∀ (x c : UInt8) (n : Int), n = c.toNat → (((x.toNat : Nat) : Int) == n) = decide (x = c) := fun x c n hn => by
        rw [Bool.eq_iff_iff, beq_iff_eq, decide_eq_true_eq, hn]
        exact ⟨fun q => UInt8.toNat_inj.1 (by omega), fun q => by rw [q]⟩
      have e13 : (((s[p].toNat : Nat) : Int) == 13) = decide ((lb s).getD p 0 = 13) := by rw [hx]; exact hu _ 13 13 rfl
      have e10 : (((s[p].toNat : Nat) : Int) == 10) = decide ((lb s).getD p 0 = 10) := by rw [hx]; exact hu _ 10 10 rfl
      have ep : ∀ h : p - 1 < s.size, 0 < p → (((s[p - 1].toNat : Nat) : Int) == 13) = decide (pvB (lb s) p = 13) := fun h h0 => by
        rw [byte_eq s (p - 1) h, hu _ 13 13 rfl]; unfold pvB; rw [if_neg (by omega)]
      have e0 : p = 0 → pvB (lb s) p = 0 := fun q => by unfold pvB; rw [if_pos q]
      clear hu
      have HX := Lib.hid hx
      have hp1 : p - 1 < s.size := by omega
      have HEP := Lib.hid (ep hp1)
      have HE0 := Lib.hid e0
      clear hx ep e0
      by_cases h13 : (lb s).getD p 0 = 13
      · rw [if_pos h13] at hst
        have HS := Lib.hid hst
        rw [decide_eq_true h13] at e13
        clear hst h13 e10
        go_wp2_with (go_at_call 37; refine (writeByte_eq ob ob _ 10 10 rfl _ HO.out (by omega) (by omega)).mono ?_; rintro e w5 ⟨rfl, hO5, hB5⟩; have HO5 := Lib.hid hO5; have HB5 := Lib.hid hB5; clear hO5 hB5)
        refine ⟨⟨p + 1, _, by omega, by go_num, by rw [List.append_assoc, ← HS.out]; exact HA.out, by rw [List.length_append, List.length_singleton]; omega, HO5.out, HB.out.trans HB5.out.1⟩, by simp [intOf]; omega⟩
      · rw [if_neg h13] at hst
        rw [decide_eq_false h13] at e13
        clear h13
        by_cases h10 : (lb s).getD p 0 = 10 ∧ pvB (lb s) p = 13
        · rw [if_pos h10] at hst
          have HS := Lib.hid hst
          rw [decide_eq_true h10.1] at e10
          have hp0 : 0 < p := by
            apply Nat.pos_of_ne_zero; intro q
            have := HE0.out q; rw [this] at h10; exact absurd h10.2 (by decide)
          have hpi : (0 : Int) < p := by omega
          have hpi1 : (p : Int) - 1 < s.size := by omega
          have hpi0 : 0 ≤ (p : Int) - 1 := by omega
          have ep := HEP.out hp0
          rw [decide_eq_true h10.2] at ep
          clear hst h10
          go_wp2_with fail
          refine ⟨⟨p + 1, _, by omega, by go_num, by rw [← HA.out, HS.out]; rfl, by omega, HO.out, HB.out⟩, by simp [intOf]; omega⟩
        · rw [if_neg h10] at hst
          have HS := Lib.hid hst
          clear hst
          by_cases hx10 : (lb s).getD p 0 = 10
          · have H10 := Lib.hid (show (10 : Int) = (((lb s).getD p 0).toNat : Nat) by rw [hx10]; rfl)
            rw [decide_eq_true hx10] at e10
            by_cases hp0 : p = 0
            · subst hp0
              clear h10 hx10
              go_wp2_with (go_at_call 37; refine (writeByte_eq ob ob _ ((lb s).getD 0 0) _ (by first | exact H10.out | exact HX.out) _ HO.out (by omega) (by omega)).mono ?_; rintro e w5 ⟨rfl, hO5, hB5⟩; have HO5 := Lib.hid hO5; have HB5 := Lib.hid hB5; clear hO5 hB5)
              refine ⟨⟨0 + 1, _, by omega, by go_num, by rw [List.append_assoc, ← HS.out]; exact HA.out, by rw [List.length_append, List.length_singleton]; omega, HO5.out, HB.out.trans HB5.out.1⟩, by simp [intOf]; omega⟩
            · have ep := HEP.out (by omega)
              rw [decide_eq_false (fun q => h10 ⟨hx10, q⟩)] at ep
              have hpi : (0 : Int) < p := by omega
              have hpi1 : (p : Int) - 1 < s.size := by omega
              have hpi0 : 0 ≤ (p : Int) - 1 := by omega
              clear h10 hx10 hp0
              go_wp2_with (go_at_call 37; refine (writeByte_eq ob ob _ ((lb s).getD p 0) _ (by first | exact H10.out | exact HX.out) _ HO.out (by omega) (by omega)).mono ?_; rintro e w5 ⟨rfl, hO5, hB5⟩; have HO5 := Lib.hid hO5; have HB5 := Lib.hid hB5; clear hO5 hB5)
              refine ⟨⟨p + 1, _, by omega, by go_num, by rw [List.append_assoc, ← HS.out]; exact HA.out, by rw [List.length_append, List.length_singleton]; omega, HO5.out, HB.out.trans HB5.out.1⟩, by simp [intOf]; omega⟩
          · rw [decide_eq_false hx10] at e10
            clear h10 hx10
            go_wp2_with (go_at_call 37; refine (writeByte_eq ob ob _ ((lb s).getD p 0) _ HX.out _ HO.out (by omega) (by omega)).mono ?_; rintro e w5 ⟨rfl, hO5, hB5⟩; have HO5 := Lib.hid hO5; have HB5 := Lib.hid hB5; clear hO5 hB5)
            refine ⟨⟨p + 1, _, by omega, by go_num, by rw [List.append_assoc, ← HS.out]; exact HA.out, by rw [List.length_append, List.length_singleton]; omega, HO5.out, HB.out.trans HB5.out.1⟩, by simp [intOf]; omega⟩
    · obtain rfl : p = s.size := by omega
      have HD := Lib.hid (show linesP (pvB (lb s) s.size) ((lb s).drop s.size) = [] by rw [List.drop_eq_nil_of_le (by rw [lb_len]; omega)]; rfl)
      go_wp2_with (go_at_call 36; refine (string_any ob ob _ _ HO.out (by omega)).mono ?_; rintro e w5 ⟨rfl, hO5, hB5⟩; have HB5 := Lib.hid hB5; clear hO5 hB5)
      go_ret
      refine ⟨?_, HB2.out.trans ((HB.out.trans HB5.out.1).mono (by have := HOB.out; omega))⟩
      rw [← HA.out, HD.out, List.append_nil]; rfl
end Go.Proofs.YtnbdmmepdmmbmaaDoor
