/- What the program and the reference tell of one node is the same. No statement is proved here. -/
import Derived.Test.YticdlpkjjokbcaaPValx3
import Derived.Test.YticdlpkjjokbcaaPlugNodeErr
import Derived.Test.YticdlpkjjokbcaaVcTree
namespace Go.Proofs.Yticdlpkjjokbcaa.PVal
open Go.RowKit Go.Proofs.YticdlpkjjokbcaaW.PrintWords Go.Proofs.YticdlpkjjokbcaaW.PrintLast Go.Proofs.YticdlpkjjokbcaaW.PrintMore Go.Proofs.Yticdlpkjjokbcaa Go.Proofs.Yticdlpkjjokbcaa.Plug
set_option linter.unusedVariables false
set_option linter.unusedSimpArgs false
theorem names_same (l : List S36) : ∀ (d j : Nat) (seen : List ByteArray), l.length - j ≤ d → (∀ s : ByteArray, (∃ x ∈ seen, lb x = lb s) ↔ 0 ≤ placeOf s 0 (l.take j)) → namesGo l j (l.drop j) = nmsGo nameB seen (l.drop j) := by
  intro d
  induction d with
  | zero => intro j seen hd _; rw [List.drop_eq_nil_of_le (by omega)]; rfl
  | succ d ih =>
    intro j seen hd hs
    by_cases hlt : j < l.length
    · rw [namesGo_step l j hlt, nmsGo_step nameB seen l j hlt]
      have h1 := hs l[j].f0
      by_cases q : nameB l[j].f0 = true
      · rw [if_pos q, if_pos q]
        by_cases z : 0 ≤ placeOf l[j].f0 0 (l.take j)
        · rw [if_pos z, if_pos (h1.2 z)]
        · rw [if_neg z, if_neg (fun y => z (h1.1 y))]
          refine ih (j + 1) (l[j].f0 :: seen) (by omega) fun s => ?_
          rw [placeOf_lo, List.take_succ_eq_append_getElem hlt]
          simp only [List.mem_cons, exists_eq_or_imp, List.mem_append, or_and_right, exists_or, List.mem_singleton, exists_eq_left, List.not_mem_nil, false_and, exists_false, or_false]
          rw [hs s, placeOf_lo]
          exact or_comm
      · rw [if_neg q, if_neg q]
    · rw [List.drop_eq_nil_of_le (by omega)]; rfl
theorem names_eq (l : List S36) : namesGo l 0 l = nmsGo nameB [] l := by
  have := names_same l l.length 0 [] (by omega) (fun s => by simp [placeOf])
  rwa [List.drop_zero] at this
theorem lst_same (l : List S36) : ∀ (d j : Nat), l.length - j ≤ d → keysGo 8 l j (l.drop j) = lstGo (l.drop j) := by
  intro d
  induction d with
  | zero => intro j hd; rw [List.drop_eq_nil_of_le (by omega)]; rfl
  | succ d ih =>
    intro j hd
    by_cases hlt : j < l.length
    · rw [keysGo_step 8 l j hlt, lstGo_step l j hlt, if_pos rfl, ih (j + 1) (by omega), size_toList]
      cases l[j].f0.toList <;> simp
    · rw [List.drop_eq_nil_of_le (by omega)]; rfl
theorem map_same (l : List S36) : ∀ (d j : Nat) (last : ByteArray), l.length - j ≤ d → (0 < j → last = (rd_T36 l ((j : Int) - 1)).f0) → keysGo 9 l j (l.drop j) = mapGo j last (l.drop j) := by
  intro d
  induction d with
  | zero => intro j last hd _; rw [List.drop_eq_nil_of_le (by omega)]; rfl
  | succ d ih =>
    intro j last hd hl
    by_cases hlt : j < l.length
    · rw [keysGo_step 9 l j hlt, mapGo_step j last l j hlt, if_neg (by decide), ih (j + 1) l[j].f0 (by omega) (fun _ => by
        rw [show (((j + 1 : Nat) : Int) - 1) = (j : Int) by omega, rd_getV l j hlt])]
      have e1 : (4000 < l[j].f0.size) ↔ ((l[j].f0.size : Int) > 4000) := by omega
      have e2 : (0 < j ∧ ¬ lb (rd_T36 l ((j : Int) - 1)).f0 < lb l[j].f0) ↔ (0 < j ∧ Op.bytesLess last.toList l[j].f0.toList = false) := by
        refine and_congr_right fun h => ?_
        rw [← hl h, Proofs.bytesLess_eq, Lib.toList_data, Lib.toList_data, decide_eq_false_iff_not]
      by_cases z1 : 4000 < l[j].f0.size
      · rw [if_pos z1, if_pos (e1.1 z1)]
      · rw [if_neg z1, if_neg (fun y => z1 (e1.2 y))]
        by_cases z2 : (0 < j ∧ ¬ lb (rd_T36 l ((j : Int) - 1)).f0 < lb l[j].f0)
        · rw [if_pos z2, if_pos (e2.1 z2)]
        · rw [if_neg z2, if_neg (fun y => z2 (e2.2 y))]
    · rw [List.drop_eq_nil_of_le (by omega)]; rfl
theorem lst_eq (l : List S36) : keysGo 8 l 0 l = lstGo l := by
  have := lst_same l l.length 0 (by omega)
  rwa [List.drop_zero] at this
theorem map_eq (l : List S36) : keysGo 9 l 0 l = mapGo 0 ⟨#[]⟩ l := by
  have := map_same l l.length 0 ⟨#[]⟩ (by omega) (fun h => absurd h (by omega))
  rwa [List.drop_zero] at this
/-- What is told of a node, out of the three parts of the program's answer. -/
def ownE (k : Int) (first u b : Bool) (c : Int) : Int := if k < 0 ∨ 12 ≤ k ∨ k = 10 ∨ (k = 11 ∧ first = false) then 3 else if u = true then 3 else if b = true then c else 11
theorem isE (s : ByteArray) : (s.toList = ([] : List UInt8)) ↔ s.toList.isEmpty = true := by cases s.toList <;> simp
theorem fields_j0 (z : Bool) (k n : Int) (s : ByteArray) (l : List S36) : Ev (fun q => value_fields.j0 q z k n s l) (if z = true then (if (l.length : Int) > 200 then 2 else keysGo k l 0 l) else 0) := by
  apply Ev.succ
  cases z
  · simp only [value_fields.j0, Bool.false_eq_true, if_false]; exact Ev.now _
  · simp only [value_fields.j0, if_true]
    by_cases h : (l.length : Int) > 200
    · simp only [if_pos h]; exact Ev.now _
    · simp only [if_neg h, value_keys.f, Option.bind_some]; exact Ev.now _
def scB (k : Int) : Bool := decide (0 ≤ k ∧ k ≤ 5) || k == 11
theorem scalar_f (k : Int) : value_Scalar.f k = some (scB k) := by
  unfold value_Scalar.f scB
  by_cases h1 : 0 ≤ k <;> by_cases h2 : k ≤ 5 <;> simp [h1, h2]
def uB (k n : Int) (s : ByteArray) (l : List S36) : Bool :=
  if ¬ (1 ≤ k ∧ k ≤ 4) ∧ k ≠ 11 ∧ n ≠ 0 then true else if k ≠ 5 ∧ s.toList ≠ [] then true else scB k && decide (0 < l.length)
theorem unused_f (k n : Int) (s : ByteArray) (l : List S36) : value_unused.f k n s l = some (uB k n s l) := by
  unfold value_unused.f
  have tail : (if k = 5 then ((value_Scalar.f k).bind fun t132 => (if t132 = true then (some (decide ((l.length : Int) > 0))) else (some false))) else (if s.toList = ([] : List UInt8) then ((value_Scalar.f k).bind fun t133 => (if t133 = true then (some (decide ((l.length : Int) > 0))) else (some false))) else (some true))) = some (if k ≠ 5 ∧ s.toList ≠ [] then true else scB k && decide (0 < l.length)) := by
    simp only [scalar_f, Option.bind_some]
    by_cases h5 : k = 5 <;> by_cases hs : s.toList = [] <;> cases hsc : scB k <;> simp [h5, hs, hsc]
  simp only [tail]
  unfold uB
  generalize (if k ≠ 5 ∧ s.toList ≠ [] then true else scB k && decide (0 < l.length)) = q
  by_cases h1 : 1 ≤ k <;> by_cases h4 : k ≤ 4 <;> by_cases h11 : k = 11 <;> by_cases h0 : n = 0 <;> simp [h1, h4, h11, h0]
def nB (k n : Int) : Bool :=
  if k = 1 then decide (0 ≤ n ∧ n ≤ 1) else if k = 2 then decide (-9007199254740992 ≤ n ∧ n ≤ 9007199254740992) else if k = 4 then decide (0 ≤ n ∧ n ≤ 4194304) else if k = 11 then decide (0 ≤ n ∧ n ≤ 9007199254740992) else true
theorem number_f (k n : Int) (s : ByteArray) (l : List S36) : value_number.f k n s l = some (nB k n) := by
  unfold value_number.f nB
  by_cases h1 : k = 1
  · rw [if_pos h1, if_pos h1]
    by_cases h0 : n = 0
    · rw [if_pos h0, h0]; rfl
    · rw [if_neg h0]
      congr 1
      rw [Bool.eq_iff_iff]; simp; omega
  · rw [if_neg h1, if_neg h1]
    by_cases h2 : k = 2
    · rw [if_pos h2, if_pos h2]
      by_cases h : n ≥ -9007199254740992
      · rw [if_pos h]; congr 1; rw [Bool.eq_iff_iff]; simp; omega
      · rw [if_neg h]; congr 1; rw [Bool.eq_iff_iff]; simp; omega
    · rw [if_neg h2, if_neg h2]
      by_cases h4 : k = 4
      · rw [if_pos h4, if_pos h4]
        by_cases h : n ≥ 0
        · rw [if_pos h]; congr 1; rw [Bool.eq_iff_iff]; simp; omega
        · rw [if_neg h]; congr 1; rw [Bool.eq_iff_iff]; simp; omega
      · rw [if_neg h4, if_neg h4]
        by_cases h11 : k = 11
        · rw [if_pos h11, if_pos h11]
          by_cases h : n ≥ 0
          · rw [if_pos h]; congr 1; rw [Bool.eq_iff_iff]; simp; omega
          · rw [if_neg h]; congr 1; rw [Bool.eq_iff_iff]; simp; omega
        · rw [if_neg h11, if_neg h11]
def fE (k : Int) (s : ByteArray) (l : List S36) : Int :=
  if k = 5 then (if (s.size : Int) > 4000 then 2 else 0) else if k = 6 then (if (l.length : Int) > 24 then 2 else nmsGo nameB [] l) else if k = 7 then (if (l.length : Int) = 1 then nmsGo nameB [] l else 3)
  else if k = 8 then (if (l.length : Int) > 200 then 2 else lstGo l) else if k = 9 then (if (l.length : Int) > 200 then 2 else mapGo 0 ⟨#[]⟩ l) else 0
theorem fields_ev (k n : Int) (s : ByteArray) (l : List S36) : Ev (fun q => value_fields.f q k n s l) (fE k s l) := by
  unfold fE
  by_cases h5 : k = 5
  · simp only [value_fields.f, if_pos h5]
    by_cases h : (s.size : Int) > 4000
    · simp only [if_pos h]; exact Ev.now _
    · simp only [if_neg h]; exact Ev.now _
  · simp only [value_fields.f, if_neg h5]
    by_cases h6 : k = 6
    · simp only [if_pos h6]
      by_cases h : (l.length : Int) > 24
      · simp only [if_pos h]; exact Ev.now _
      · simp only [if_neg h, value_names.f, Option.bind_some, names_eq]; exact Ev.now _
    · simp only [if_neg h6]
      by_cases h7 : k = 7
      · simp only [if_pos h7]
        by_cases h : (l.length : Int) = 1
        · simp only [if_pos h, value_names.f, Option.bind_some, names_eq]; exact Ev.now _
        · simp only [if_neg h]; exact Ev.now _
      · simp only [if_neg h7]
        by_cases h8 : k = 8
        · subst h8
          have := fields_j0 true 8 n s l
          rw [if_pos rfl, lst_eq] at this
          exact this
        · simp only [if_neg h8]
          have := fields_j0 (k == 9) k n s l
          by_cases h9 : k = 9
          · subst h9
            rw [if_pos (by decide), map_eq] at this
            rw [if_pos rfl]
            exact this
          · rw [if_neg (by simp [h9])] at this
            simp only [if_neg h9]
            exact this
theorem node_eq (k n : Int) (s : ByteArray) (l : List S36) (first : Bool) (hn : (Lit.int .i64 n).wf = true) : nodeE k n s l first = ownE k first (uB k n s l) (nB k n) (fE k s l) := by
  have hn1 : -9223372036854775808 ≤ n ∧ n ≤ 9223372036854775807 := by
    have h : -9223372036854775808 ≤ n ∧ n ≤ 9223372036854775807 := by
      have h := hn
      simp only [Lit.wf, Bool.and_eq_true, decide_eq_true_eq] at h
      exact h
    exact h
  have es : (s.toList.isEmpty = false) ↔ ¬ s.toList = [] := by cases s.toList <;> simp
  unfold nodeE ownE
  simp only [es]
  by_cases bad : k < 0 ∨ 12 ≤ k ∨ k = 10
  · rw [if_pos (show (k < 0 ∨ 12 ≤ k ∨ k = 10 ∨ (k = 11 ∧ first = false)) by omega)]
    rw [if_neg (by omega), if_neg (by omega), if_neg (by omega), if_neg (by omega), if_neg (by omega), if_neg (by omega), if_neg (by omega), if_neg (by omega), if_neg (by omega), if_neg (by omega), if_neg (by omega)]
  · have hk : k = 0 ∨ k = 1 ∨ k = 2 ∨ k = 3 ∨ k = 4 ∨ k = 5 ∨ k = 6 ∨ k = 7 ∨ k = 8 ∨ k = 9 ∨ k = 11 := by omega
    clear bad
    have hl : (l.length = 0) ↔ ¬ (0 < l.length) := by omega
    rcases hk with rfl | rfl | rfl | rfl | rfl | rfl | rfl | rfl | rfl | rfl | rfl
    all_goals by_cases h0 : n = 0
    all_goals by_cases hs : s.toList = []
    all_goals by_cases hL : 0 < l.length
    all_goals simp [uB, nB, fE, scB, h0, hs, hL, hl]
    all_goals (repeat' split)
    all_goals (first | rfl | omega | simp_all)
end Go.Proofs.Yticdlpkjjokbcaa.PVal
