/- Contracts of utf.Mend and utf.Lines (over strings.Builder), in the print's form. No statement is proved here. -/
import Derived.Test.YtnbdmmepdmmbmaaDoorUtfRunes
namespace Go.Proofs.YtnbdmmepdmmbmaaDoor
open Go.RowKit Go.Proofs.YtnbdmmepdmmbmaaDoorW.PrintWords Go.Proofs.YtnbdmmepdmmbmaaDoorW.PrintLast Go.Proofs.YtnbdmmepdmmbmaaDoor.PUtf
set_option linter.unusedVariables false
set_option linter.unusedSimpArgs false
/-- What Mend writes for a character. -/
def mendC (e : Int × Int × Bool) : List UInt8 := if e.2.2 = true then encL e.1.toNat else encL 65533
def mendL (l : List UInt8) : List UInt8 := (chs l).flatMap mendC
theorem mendC_len (e : Int × Int × Bool) : (mendC e).length ≤ 4 := by unfold mendC; split <;> exact encL_len _
theorem mendL_len (l : List UInt8) : (mendL l).length ≤ 4 * l.length := by
  have h : ∀ C : List (Int × Int × Bool), (C.flatMap mendC).length ≤ 4 * C.length := by
    intro C
    induction C with
    | nil => simp
    | cons a t ih => have := mendC_len a; simp only [List.flatMap_cons, List.length_append, List.length_cons]; omega
  have := chs_length l l.length (Nat.le_refl _)
  have := h (chs l)
  unfold mendL; omega
theorem next_any (s : ByteArray) (h : 0 < s.size) (w : World) : Calls Tryd.prog 34 #[.string s] w fun e w' => e = .returned (.tuple #[.int .i64 (nxL (lb s)).1, .int .i64 (nxL (lb s)).2]) ∧ Below w.heap.size w w' := by
  have hev := next_ev s h
  generalize nxL (lb s) = R at hev ⊢
  obtain ⟨x, y⟩ := R
  obtain ⟨k, hk⟩ := Ev.rounds hev
  refine (utf_next.calls k s x y w hk).mono ?_
  rintro e w' ⟨he, hd⟩
  obtain ⟨n, rfl⟩ := hd
  exact ⟨he, blw_drewN (Below.refl _ _) n⟩
theorem good_enc (l : List UInt8) (h : l ≠ []) (hg : (nxL l).2 ≠ 0) : okZ (nxL l).1 = true ∧ encU (nxL l).1 = l.take (nxL l).2.toNat := by
  have hl : 1 ≤ l.length := List.length_pos_iff.2 h
  have H := nxI_cand l.length (nb8 l 0) (nb8 l 1) (nb8 l 2) (nb8 l 3) (nb8_range _ _) (nb8_range _ _) (nb8_range _ _) (nb8_range _ _)
  have M := enc_match l.length (nb8 l 0) (nb8 l 1) (nb8 l 2) (nb8 l 3) (by omega) (nb8_range _ _) (nb8_range _ _) (nb8_range _ _) (nb8_range _ _)
  have T := take_ints l
  unfold nxL at hg ⊢
  rcases H with e | e | e | e | e
  · rw [e] at hg; exact absurd rfl hg
  · have m := M.1.2 e.1
    rw [e.1]
    exact ⟨m.1, ((enc_take l _ 1 _ (T.1 hl)).2 m).2⟩
  · have m := (M.2.1 e.2.1).2 e.1
    rw [e.1]
    exact ⟨m.1, ((enc_take l _ 2 _ (T.2.1 (by omega))).2 m).2⟩
  · have m := (M.2.2.1 e.2.1).2 e.1
    rw [e.1]
    exact ⟨m.1, ((enc_take l _ 3 _ (T.2.2.1 (by omega))).2 m).2⟩
  · have m := (M.2.2.2 e.2.1).2 e.1
    rw [e.1]
    exact ⟨m.1, ((enc_take l _ 4 _ (T.2.2.2 (by omega))).2 m).2⟩
theorem bytes_eq (B b : Nat) (l : List UInt8) (x : Int) (r : Nat) (hx : x = r) (w : World) (h : Bld B b l w) (hlen : l.length + 4 ≤ 140737488355328) (hBw : B ≤ w.heap.size) (hr : r ≤ 1114111) :
    Calls Tryd.prog 35 #[.pointer (some ⟨b, 0, none⟩), .int .i64 x] w (BytesOk B b (l ++ encL r) w) := by
  subst hx; exact bytes_any B b l r w h hlen hBw hr
/-- One character: what the decoder says, what is written, how far it goes. -/
theorem mend_step (l : List UInt8) (h : l ≠ []) : ∃ r n : Nat, r ≤ 1114111 ∧ n = stL l ∧ 1 ≤ n ∧ n ≤ l.length ∧ mendL l = encL r ++ mendL (l.drop n) ∧ (encL r).length ≤ 4
    ∧ (((nxL l).2 = 0 ∧ r = 65533 ∧ n = 1) ∨ ((nxL l).2 ≠ 0 ∧ (nxL l).2 = n ∧ (nxL l).1 = r)) := by
  obtain ⟨r1, r2, r3⟩ := stL_range l h
  have hc : mendL l = mendC (chL l) ++ mendL (l.drop (stL l)) := by unfold mendL; rw [chs_cons _ h, List.flatMap_cons]
  rcases chL_good l with ⟨h1, h2⟩ | ⟨h1, h2⟩
  · refine ⟨65533, stL l, by omega, rfl, r1, r2, ?_, encL_len _, .inl ⟨h1, rfl, ?_⟩⟩
    · rw [hc, h2, mendC, if_neg (by decide)]
    · rw [h2] at r3; simp at r3; omega
  · obtain ⟨k, _⟩ := good_enc l h h1
    rw [okZ_iff] at k
    refine ⟨(nxL l).1.toNat, stL l, by omega, rfl, r1, r2, ?_, encL_len _, .inr ⟨h1, ?_, by omega⟩⟩
    · rw [hc, h2, mendC, if_pos rfl]
    · rw [r3, h2]
set_option maxHeartbeats 1000000 in
theorem mend_any (s : ByteArray) (w : World) (hs : s.size ≤ 17592186043904) : Calls Tryd.prog 10 #[.string s] w fun e w' => e = .returned (.string ⟨(mendL (lb s)).toArray⟩) ∧ Below w.heap.size w w' := by
  go_enter Tryd.func10, Tryd.ntmps10
  go_wp2_with fail
  obtain ⟨w2, hw2⟩ : ∃ w2, w2 = w.alloc (Obj.cells #[Value.pointer none, Value.slice none 0 0] 60) := ⟨_, rfl⟩
  obtain ⟨ob, hob⟩ : ∃ ob, ob = w.heap.size := ⟨_, rfl⟩
  have hbl : Bld ob ob [] w2 := by rw [hw2, hob]; exact bld_new w
  have hb2 : Below w.heap.size w w2 := by rw [hw2]; exact blw_alloc (Below.refl _ _) _
  have hs2 : w2.heap.size = ob + 1 := by rw [hw2, hob]; simp
  rw [← hw2, ← hob]
  have HB2 := Lib.hid hb2
  have HBL := Lib.hid hbl
  have HOB := Lib.hid hob
  clear hw2 hob hbl hb2
  go_loopw [4] (fun i wr => ∃ (p : Nat) (acc : List UInt8), p ≤ s.size ∧ i = .int .i64 p ∧ acc ++ mendL ((lb s).drop p) = mendL (lb s) ∧ acc.length ≤ 4 * p ∧ Bld ob ob acc wr ∧ Below ob w2 wr) (fun i _ => s.size - (intOf i).toNat)
  case atStart => exact ⟨0, [], Nat.zero_le _, rfl, by simp, by simp, HBL.out, Below.refl _ _⟩
  case round =>
    obtain ⟨p, acc, hp, rfl, hacc, hal, hO, hB⟩ := hrel
    have hszr := hB.size
    have HO := Lib.hid hO
    have HB := Lib.hid hB
    have HA := Lib.hid hacc
    clear hO hB hacc
    by_cases hlt : p < s.size
    · have hne : (lb s).drop p ≠ [] := by intro z; have := congrArg List.length z; rw [List.length_drop, lb_len] at this; simp at this; omega
      have hsx : 0 < (s.extract p s.size).size := by simp; omega
      have hnx := next_any (s.extract p s.size) hsx wr
      rw [lb_from] at hnx
      obtain ⟨r, n, hr, -, hn1, hn2, hm, hel, hc⟩ := mend_step _ hne
      rw [List.length_drop, lb_len] at hn2
      rw [List.drop_drop] at hm
      generalize (lb s).drop p = L at *
      have HM := Lib.hid hm
      have i0 : (0 : Int) ≤ p := by omega
      have i1 : (p : Int) ≤ s.size := by omega
      clear hm hne
      rcases hc with ⟨h1, h2, h3⟩ | ⟨h1, h2, h3⟩
      · subst h3
        have HR := Lib.hid (show (65533 : Int) = r by omega)
        rw [h1] at hnx
        clear h1 h2
        go_wp2_with (first
          | (go_at_call 34; refine hnx.mono ?_; rintro e w3 ⟨rfl, hb3⟩; have HO3 := Lib.hid (HO.out.keep hb3); have HB3 := Lib.hid (HB.out.trans (hb3.mono (by omega))); clear hb3)
          | (go_at_call 35; go_loud (refine (bytes_eq ob ob _ _ r (by first | exact HR.out | rfl) _ HO3.out (by omega) (by have := HB3.out.size; omega) hr).mono ?_; rintro e w5 ⟨rfl, hO5, hB5⟩; have HO5 := Lib.hid hO5; have HB5 := Lib.hid hB5; clear hO5 hB5)))
        go_roundw
        case rel => exact ⟨p + 1, _, by omega, by go_num, by rw [List.append_assoc, ← HM.out]; exact HA.out, by rw [List.length_append]; omega, HO5.out, HB3.out.trans HB5.out.1⟩
        case measure => simp [intOf]; omega
      · rw [h2, h3] at hnx
        have hn0 : ((n : Int) == 0) = false := by rw [beq_eq_false_iff_ne]; omega
        have HR := Lib.hid (show (r : Int) = r from rfl)
        clear h1 h2 h3
        go_wp2_with (first
          | (go_at_call 34; refine hnx.mono ?_; rintro e w3 ⟨rfl, hb3⟩; have HO3 := Lib.hid (HO.out.keep hb3); have HB3 := Lib.hid (HB.out.trans (hb3.mono (by omega))); clear hb3)
          | (go_at_call 35; go_loud (refine (bytes_eq ob ob _ _ r (by first | exact HR.out | rfl) _ HO3.out (by omega) (by have := HB3.out.size; omega) hr).mono ?_; rintro e w5 ⟨rfl, hO5, hB5⟩; have HO5 := Lib.hid hO5; have HB5 := Lib.hid hB5; clear hO5 hB5)))
        go_roundw
        case rel => exact ⟨p + n, _, by omega, by go_num, by rw [List.append_assoc, ← HM.out]; exact HA.out, by rw [List.length_append]; omega, HO5.out, HB3.out.trans HB5.out.1⟩
        case measure => simp [intOf]; omega
    · obtain rfl : p = s.size := by omega
      have hd : mendL ((lb s).drop s.size) = [] := by rw [List.drop_eq_nil_of_le (by rw [lb_len]; omega)]; rfl
      have HD := Lib.hid hd
      clear hd
      go_wp2_with (go_at_call 36; refine (string_any ob ob _ _ HO.out (by omega)).mono ?_; rintro e w5 ⟨rfl, hO5, hB5⟩; have HB5 := Lib.hid hB5; clear hO5 hB5)
      go_ret
      refine ⟨?_, HB2.out.trans ((HB.out.trans HB5.out.1).mono (by have := HOB.out; omega))⟩
      rw [← HA.out, HD.out, List.append_nil]; rfl
end Go.Proofs.YtnbdmmepdmmbmaaDoor
