/- Contract of utf.Returns (over strings.Builder). No statement is proved here. -/
import Derived.Test.YtnbdmmepdmmbmaaDoorPlugLines
import Derived.Test.YtnbdmmepdmmbmaaDoorBuilderX
namespace Go.Proofs.YtnbdmmepdmmbmaaDoor
open Go.RowKit Go.Proofs.YtnbdmmepdmmbmaaDoorW.PrintWords Go.Proofs.YtnbdmmepdmmbmaaDoorW.PrintLast
set_option linter.unusedVariables false
set_option linter.unusedSimpArgs false
theorem linesP_len : ∀ (l : List UInt8) (p : UInt8), (linesP p l).length ≤ l.length
  | [], _ => by simp [linesP]
  | x :: t, p => by
    have := linesP_len t x
    unfold linesP
    repeat' split
    all_goals simp; omega
theorem retL_len (l : List UInt8) : (retL l).length ≤ 2 * l.length := by
  unfold retL
  induction l with
  | nil => simp
  | cons a t ih => simp only [List.flatMap_cons, List.length_append, List.length_cons]; split <;> (simp only [List.length_cons, List.length_nil]; omega)
theorem retL_snoc (l : List UInt8) (j : Nat) (h : j < l.length) : retL (l.take (j + 1)) = retL (l.take j) ++ (if l.getD j 0 = 10 then [13, 10] else [l.getD j 0]) := by
  have e : l.getD j 0 = l[j] := by rw [List.getD_eq_getElem?_getD, List.getElem?_eq_getElem h]; rfl
  rw [List.take_succ_eq_append_getElem h, e]
  simp only [retL, List.flatMap_append, List.flatMap_cons, List.flatMap_nil, List.append_nil]
theorem u8_beq (x c : UInt8) (n : Int) (hn : n = c.toNat) : (((x.toNat : Nat) : Int) == n) = decide (x = c) := by
  rw [Bool.eq_iff_iff, beq_iff_eq, decide_eq_true_eq, hn]
  exact ⟨fun q => UInt8.toNat_inj.1 (by omega), fun q => by rw [q]⟩
set_option maxHeartbeats 1000000 in
set_option maxRecDepth 100000 in
theorem returns_any (s : ByteArray) (w : World) (hs : s.size ≤ 17592186043904) : Calls Tryd.prog 12 #[.string s] w fun e w' => e = .returned (.string ⟨(retL (linesP 0 (lb s))).toArray⟩) ∧ Below w.heap.size w w' := by
  obtain ⟨t, ht⟩ : ∃ t : ByteArray, t = ⟨(linesP 0 (lb s)).toArray⟩ := ⟨_, rfl⟩
  have htl : lb t = linesP 0 (lb s) := by rw [ht, lb_mk]
  have hts : t.size ≤ 17592186043904 := by
    have := linesP_len (lb s) 0
    rw [← htl, lb_len, lb_len] at this; omega
  have hln : ∀ w, Calls Tryd.prog 11 #[.string s] w fun e w' => e = .returned (.string t) ∧ Below w.heap.size w w' := fun w => by rw [ht]; exact lines_any s w hs
  rw [← htl]
  clear ht htl
  have hconv : ∀ W : World, (convert 9 30 (.string t)).run Tryd.prog W = .ok (.slice (some ⟨W.heap.size, 0, none⟩) t.size (grownCap W t.size 0 5)) (Lib.bytesWorld W 5 t) := fun W => Lib.run_convert_string_bytes W 9 30 5 t Tryd.underlying9 Tryd.underlying30 Tryd.underlying5
  go_enter Tryd.func12, Tryd.ntmps12
  go_wp2_with (go_at_call 11; refine (hln _).mono ?_; rintro e w3 ⟨rfl, hb3⟩)
  obtain ⟨ob, hob⟩ : ∃ ob, ob = w.heap.size := ⟨_, rfl⟩
  have hsz : ob + 1 ≤ w3.heap.size := by have := hb3.size; simp at this; omega
  have hbk : w3.heap[ob]? = some (.cells #[.pointer none, .slice none 0 0] 60 (0, 0)) := by
    rw [hob]; exact (hb3.block w.heap.size (by simp)).trans (heap_alloc_new _ _)
  obtain ⟨w4, hw4⟩ : ∃ w4, w4 = Lib.bytesWorld w3 5 t := ⟨_, rfl⟩
  obtain ⟨g, hg⟩ : ∃ g, g = w3.heap.size := ⟨_, rfl⟩
  have hz4 : w4.heap.size = g + 1 := by rw [hw4, hg, Lib.bytesWorld_size]
  have hc4 : ∀ j, j < t.size → w4.cell? ⟨g, j, none⟩ = some (.int .u8 (t.data.toList.getD j 0).toNat) := fun j hj => by rw [hw4, hg]; exact Lib.bytesWorld_cell w3 5 t j hj
  have hB4 : Below w.heap.size w w4 := by
    rw [hw4]
    exact ((blw_alloc (Below.refl _ w) _).trans (hb3.mono (by simp))).trans ⟨rfl, rfl, rfl, by rw [Lib.bytesWorld_size]; omega, fun k hk => Lib.bytesWorld_at_old w3 5 t k (by omega)⟩
  have hO4 : BldX (g + 1) ob [] w4 := by
    refine ⟨by omega, .pointer none, .slice none 0 0, ?_, .inl rfl, World.ownsRowF_nil _ _ _ _, by simp [Value.ownBlock]⟩
    rw [hw4, Lib.bytesWorld_at_old _ _ _ _ (by omega)]; exact hbk
  rw [← hw4, ← hob, ← hg]
  have HO4 := Lib.hid hO4
  have HB4 := Lib.hid hB4
  have HC4 := Lib.hid hc4
  have HOB := Lib.hid hob
  have hgo : ob < g := by omega
  clear hw4 hO4 hB4 hc4 hbk hb3 hconv hln hob hg
  go_loopw [10] (fun i wr => ∃ j : Nat, j ≤ t.size ∧ i = .int .i64 j ∧ BldX (g + 1) ob (retL ((lb t).take j)) wr ∧ But (g + 1) ob w4 wr) (fun i _ => t.size - (intOf i).toNat)
  case atStart => exact ⟨0, Nat.zero_le _, rfl, by simpa [retL] using HO4.out, But.refl _ _ _⟩
  case round =>
    obtain ⟨j, hj, rfl, hO, hB⟩ := hrel
    have hszr := hB.size
    have hlen := retL_len ((lb t).take j)
    rw [List.length_take] at hlen
    have HO := Lib.hid hO
    have HB := Lib.hid hB
    clear hO hB
    by_cases hlt : j < t.size
    · have hst := retL_snoc (lb t) j (by rw [lb_len]; exact hlt)
      have hc : wr.cell? ⟨g, j, none⟩ = some (.int .u8 ((lb t).getD j 0).toNat) := by
        have := HC4.out j hlt
        rw [← this]; simp only [World.cell?, HB.out.block g (by omega) (by omega)]
      have i0 : (0 : Int) ≤ j := by omega
      have i1 : (j : Int) < (t.size : Int) := by omega
      by_cases h10 : (lb t).getD j 0 = 10
      · rw [h10] at hc hst
        rw [if_pos rfl, show ([13, 10] : List UInt8) = [13] ++ [10] from rfl, ← List.append_assoc] at hst
        have HS := Lib.hid hst
        have hc' : wr.cell? ⟨g, j, none⟩ = some (.int .u8 10) := hc
        clear hst h10 hc
        go_wp2_with (go_at_call 37; first
          | (refine (writeByteX (g + 1) ob _ 10 10 rfl _ HO5.out (by rw [List.length_append, List.length_singleton]; omega) (by omega)).mono ?_; rintro e w6 ⟨rfl, hO6, hB6⟩; have HO6 := Lib.hid hO6; have HB6 := Lib.hid hB6; clear hO6 hB6)
          | (refine (writeByteX (g + 1) ob _ 13 13 rfl _ HO.out (by omega) (by omega)).mono ?_; rintro e w5 ⟨rfl, hO5, hB5⟩; have HO5 := Lib.hid hO5; have HB5 := Lib.hid hB5; have hz5 := hB5.size; clear hO5 hB5))
        go_roundw
        case rel => exact ⟨j + 1, by omega, by go_num, by rw [HS.out]; exact HO6.out, (HB.out.trans HB5.out).trans HB6.out⟩
        case measure => simp [intOf]; omega
      · rw [if_neg h10] at hst
        have HS := Lib.hid hst
        have hne : (((((lb t).getD j 0).toNat : Nat) : Int) == 10) = false := by
          rw [u8_beq _ 10 10 rfl]; exact decide_eq_false h10
        clear hst h10
        generalize (lb t).getD j 0 = c at *
        go_wp2_with (go_at_call 37; refine (writeByteX (g + 1) ob _ c _ rfl _ HO.out (by omega) (by omega)).mono ?_; rintro e w5 ⟨rfl, hO5, hB5⟩; have HO5 := Lib.hid hO5; have HB5 := Lib.hid hB5; clear hO5 hB5)
        go_roundw
        case rel => exact ⟨j + 1, by omega, by go_num, by rw [HS.out]; exact HO5.out, HB.out.trans HB5.out⟩
        case measure => simp [intOf]; omega
    · obtain rfl : j = t.size := by omega
      rw [List.take_of_length_le (by rw [lb_len]; omega)] at HO
      have hst := string_any ob ob _ wr HO.out.toBld (by omega)
      go_wp2_with (go_at_call 36; refine hst.mono ?_; rintro e w5 ⟨rfl, hO5, hB5⟩; have HB5 := Lib.hid hB5; clear hO5 hB5)
      go_ret
      exact ⟨rfl, HB4.out.trans ((HB.out.below (by have := HOB.out; omega) (by have := HOB.out; omega)).trans (HB5.out.1.mono (by have := HOB.out; omega)))⟩
end Go.Proofs.YtnbdmmepdmmbmaaDoor
