/- What made computes, and that its answer is the wanted set. No statement is proved here. -/
import Derived.Test.YtcmdoffdfnnlcaaIjEv2
import Derived.Lib.RowBridge
namespace Go.Proofs.Ytcmdoffdfnnlcaa.PIj
open Go.RowKit Go.Proofs.Ytcmdoffdfnnlcaa Go.Proofs.Ytcmdoffdfnnlcaa.Plug Go.Proofs.YtcmdoffdfnnlcaaW.PrintWords Go.Proofs.YtcmdoffdfnnlcaaW.PrintLast Go.Proofs.YtcmdoffdfnnlcaaW.PrintMore
set_option linter.unusedVariables false
set_option linter.unusedSimpArgs false
theorem rt_f (n : Int) : claplaw1_right.f n = some (rt n) := by
  unfold claplaw1_right.f rt
  by_cases h : n ≥ -9007199254740992
  · rw [if_pos h, show decide (-9007199254740992 ≤ n) = true from decide_eq_true h, Bool.true_and]
  · rw [if_neg h, show decide (-9007199254740992 ≤ n) = false from decide_eq_false h, Bool.false_and]
theorem made_l0 (is_ : Int → Bool) (C : List Int) (hC : C.length ≤ 1000000000) (hE : ∀ x ∈ C, -9007199254740992 ≤ x ∧ x ≤ 9007199254740993) : ∀ (d j : Nat) (out : List S36), C.length - j ≤ d → j ≤ C.length → out.length ≤ j →
    Ev (fun k => claplaw1_made.l0 is_ k C out.reverse C (C.length : Int) (j : Int)) (mdGo is_ out (C.drop j)).reverse := by
  have fin : ∀ (out : List S36), Ev (fun k => claplaw1_made.l0 is_ k C out.reverse C (C.length : Int) ((C.length : Nat) : Int)) (mdGo is_ out (C.drop C.length)).reverse := by
    intro out
    apply Ev.succ
    simp only [claplaw1_made.l0, if_neg (show ¬ (C.length : Int) < (C.length : Int) by omega)]
    rw [List.drop_length]
    have e : mdGo is_ out [] = out := by cases out <;> rfl
    rw [e]; exact Ev.now _
  intro d
  induction d with
  | zero =>
    intro j out hd hj ho
    obtain rfl : j = C.length := by omega
    exact fin out
  | succ d ih =>
    intro j out hd hj ho
    by_cases hlt : j < C.length
    · have c1 : (j : Int) < (C.length : Int) := Int.ofNat_lt.2 hlt
      have c2 : (0 : Int) ≤ (j : Int) := Int.natCast_nonneg j
      have hrd : rd C (j : Int) = C[j] := by simp [rd, List.getD_eq_getElem?_getD, List.getElem?_eq_getElem hlt]
      have hlow := hE _ (List.getElem_mem hlt)
      have wjj := wj j (by omega)
      have hhi : hiT (C.drop (j + 1)) = if (((j + 1 : Nat) : Int)) < (C.length : Int) then rd C (((j + 1 : Nat) : Int)) - 1 else 9007199254740992 := by
        by_cases q : j + 1 < C.length
        · rw [if_pos (Int.ofNat_lt.2 q), List.drop_eq_getElem_cons q]
          show C[j + 1] - 1 = _
          simp [rd, List.getD_eq_getElem?_getD, List.getElem?_eq_getElem q]
        · rw [if_neg (by omega), List.drop_eq_nil_of_le (by omega)]; rfl
      rw [List.drop_eq_getElem_cons hlt]
      have core : Ev (fun k => claplaw1_made.j1 is_ k C out.reverse C[j] (hiT (C.drop (j + 1))) C (C.length : Int) (j : Int)) (mdGo is_ out (C[j] :: C.drop (j + 1))).reverse := by
        generalize C[j] = low at *
        have wl : wrap64 (low - 1) = low - 1 := w64 _ (by omega) (by omega)
        have skip : goodE is_ low = false → Ev (fun k => claplaw1_made.j2 is_ k C out.reverse low (hiT (C.drop (j + 1))) C (C.length : Int) (j : Int) true) (mdGo is_ out (low :: C.drop (j + 1))).reverse := by
          intro g
          have e : mdGo is_ out (low :: C.drop (j + 1)) = mdGo is_ out (C.drop (j + 1)) := by
            cases out with
            | nil => show (if goodE is_ low = true then _ else _) = _; rw [g]; rfl
            | cons o os => show (if goodE is_ low = true then _ else _) = _; rw [g]; rfl
          rw [e]
          apply Ev.succ
          simp only [claplaw1_made.j2, if_true, wjj]
          exact ih (j + 1) out (by omega) hlt (by omega)
        apply Ev.succ
        simp only [claplaw1_made.j1, rt_f, Option.bind_some]
        by_cases hr : rt low = true
        · simp only [if_pos hr, isF, Option.bind_some]
          by_cases hi_ : is_ low = true
          · have g : goodE is_ low = true := by
              unfold goodE
              have := (rt_iff low).1 hr
              rw [decide_eq_true this.1, decide_eq_true this.2, hi_]; rfl
            rw [hi_]
            apply Ev.succ
            cases out with
            | nil =>
              have e : mdGo is_ [] (low :: C.drop (j + 1)) = mdGo is_ [⟨low, hiT (C.drop (j + 1))⟩] (C.drop (j + 1)) := by show (if goodE is_ low = true then _ else _) = _; rw [if_pos g]
              rw [e]
              have R := ih (j + 1) [⟨low, hiT (C.drop (j + 1))⟩] (by omega) hlt (by simp)
              have e4 : wrap64 ((([] : List S36).reverse.length : Int) - 1) = -1 := by rw [w64] <;> simp
              simp only [claplaw1_made.j2, Bool.not_true, Bool.false_eq_true, if_false, e4, if_neg (show ¬ (-1 : Int) ≥ 0 by decide), if_pos (show ([] : List S36).reverse.length < 8796093022208 by simp), wjj]
              exact R
            | cons o os =>
              rw [List.length_cons] at ho
              have e4 : wrap64 (((o :: os).reverse.length : Int) - 1) = (os.length : Int) := by
                rw [List.length_reverse, List.length_cons, w64 _ (by omega) (by omega)]; omega
              have c5 : (os.length : Int) ≥ 0 := by omega
              have c6 : (os.length : Int) < ((o :: os).reverse.length : Int) := by rw [List.length_reverse, List.length_cons]; omega
              have c7 : (o :: os).reverse.length < 8796093022208 := by rw [List.length_reverse, List.length_cons]; omega
              have e : mdGo is_ (o :: os) (low :: C.drop (j + 1)) = if o.f1 = low - 1 then mdGo is_ (⟨o.f0, hiT (C.drop (j + 1))⟩ :: os) (C.drop (j + 1)) else mdGo is_ (⟨low, hiT (C.drop (j + 1))⟩ :: o :: os) (C.drop (j + 1)) := by show (if goodE is_ low = true then _ else _) = _; rw [if_pos g]
              rw [e]
              simp only [claplaw1_made.j2, Bool.not_true, Bool.false_eq_true, if_false, e4, if_pos c5, if_pos c6, rd_last, set_last, wl, wjj]
              by_cases hc : o.f1 = low - 1
              · rw [if_pos hc]
                simp only [if_pos hc]
                exact ih (j + 1) _ (by omega) hlt (by rw [List.length_cons]; omega)
              · rw [if_neg hc]
                simp only [if_neg hc, if_pos c7]
                have R := ih (j + 1) (⟨low, hiT (C.drop (j + 1))⟩ :: o :: os) (by omega) hlt (by simp only [List.length_cons]; omega)
                rw [List.reverse_cons] at R
                exact R
          · have g : goodE is_ low = false := by
              unfold goodE
              rw [← Bool.not_eq_true] at *
              rw [Bool.and_eq_true]; exact fun q => hi_ q.2
            rw [show is_ low = false by simpa using hi_]
            exact skip g
        · have g : goodE is_ low = false := by
            unfold goodE
            rw [← Bool.not_eq_true, Bool.and_eq_true, Bool.and_eq_true, decide_eq_true_eq, decide_eq_true_eq]
            exact fun q => hr ((rt_iff low).2 q.1)
          simp only [if_neg hr]
          exact skip g
      apply Ev.succ
      simp only [claplaw1_made.l0, if_pos c1, if_pos c2, hrd, wjj]
      by_cases q : (((j + 1 : Nat) : Int)) < (C.length : Int)
      · rw [if_pos q] at hhi
        have hq : j + 1 < C.length := Int.ofNat_lt.1 q
        have hnx : rd C (((j + 1 : Nat) : Int)) = C[j + 1] := by simp [rd, List.getD_eq_getElem?_getD, List.getElem?_eq_getElem hq]
        have hb := hE _ (List.getElem_mem hq)
        have wn : wrap64 (rd C (((j + 1 : Nat) : Int)) - 1) = hiT (C.drop (j + 1)) := by rw [hhi, w64 _ (by rw [hnx]; omega) (by rw [hnx]; omega)]
        simp only [if_pos q, if_pos (show (0 : Int) ≤ ((j + 1 : Nat) : Int) from Int.natCast_nonneg _), wn]
        exact core
      · rw [if_neg q] at hhi
        rw [hhi] at core
        simp only [if_neg q]
        exact core
    · obtain rfl : j = C.length := by omega
      exact fin out
theorem made_ev (is_ : Int → Bool) (E : List Int) (h0 : 0 < E.length) (hl : E.length ≤ 1000000000) (hE : ∀ x ∈ E, -9007199254740992 ≤ x ∧ x ≤ 9007199254740993) : Ev (fun k => claplaw1_made.f is_ k E 0) (mdN is_ (edgesOf E)) := by
  have hml : (E.mergeSort leI).length = E.length := List.length_mergeSort E
  have hcl : (edgesOf E).length ≤ E.length := by rw [← hml]; exact Lib.compact_length_le _
  have hs : slices_Sort_int_int.f E = some (E.mergeSort leI) := by unfold slices_Sort_int_int.f; rw [if_pos ⟨h0, by omega⟩]
  have hc : slices_Compact_int_int.f (E.mergeSort leI) = some (edgesOf E) := by
    unfold slices_Compact_int_int.f
    rw [if_pos ⟨by omega, by omega, Lib.compact_length_le _⟩]; rfl
  simp only [claplaw1_made.f, hs, hc, Option.bind_some]
  have := made_l0 is_ (edgesOf E) (by omega) (fun x hx => hE x (((edgesOf_ok E).2 x).1 hx)) (edgesOf E).length 0 [] (by omega) (by omega) (by simp)
  rw [List.drop_zero, mdGo_N] at this
  exact this
end Go.Proofs.Ytcmdoffdfnnlcaa.PIj
