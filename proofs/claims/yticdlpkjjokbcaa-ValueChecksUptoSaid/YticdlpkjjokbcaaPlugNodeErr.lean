/- Contract of the reference's nodeErr, in the print's form. No statement is proved here. -/
import Derived.Test.YticdlpkjjokbcaaNodeLoops
import Derived.Test.YticdlpkjjokbcaaNamNamed
namespace Go.Proofs.Yticdlpkjjokbcaa.PVal
open Go.RowKit Go.Proofs.YticdlpkjjokbcaaW.PrintWords Go.Proofs.YticdlpkjjokbcaaW.PrintLast
set_option linter.unusedVariables false
set_option linter.unusedSimpArgs false
/-- What nodeErr tells of a node. -/
def nodeE (k n : Int) (s : ByteArray) (l : List S36) (first : Bool) : Int :=
  if k = 0 then (if n ≠ 0 then 3 else (if s.toList.isEmpty = false then 3 else (if l.length ≠ 0 then 3 else (0)))) else
  if k = 1 then (if s.toList.isEmpty = false then 3 else (if l.length ≠ 0 then 3 else (if n < 0 then 11 else (if n > 1 then 11 else (0))))) else
  if k = 2 then (if s.toList.isEmpty = false then 3 else (if l.length ≠ 0 then 3 else (if n < (-9007199254740992) then 11 else (if n > 9007199254740992 then 11 else (0))))) else
  if k = 3 then (if s.toList.isEmpty = false then 3 else (if l.length ≠ 0 then 3 else (if n < (-9223372036854775808) then 11 else (if n > 9223372036854775807 then 11 else (0))))) else
  if k = 4 then (if s.toList.isEmpty = false then 3 else (if l.length ≠ 0 then 3 else (if n < 0 then 11 else (if n > 4194304 then 11 else (0))))) else
  if k = 5 then (if n ≠ 0 then 3 else (if l.length ≠ 0 then 3 else (if (s.size : Int) > 4000 then 2 else 0))) else
  if k = 6 then (if n ≠ 0 then 3 else (if s.toList.isEmpty = false then 3 else (if (l.length : Int) > 24 then 2 else (nmsGo nameB [] l)))) else
  if k = 7 then (if n ≠ 0 then 3 else (if s.toList.isEmpty = false then 3 else (if l.length ≠ 1 then 3 else (nmsGo nameB [] l)))) else
  if k = 8 then (if n ≠ 0 then 3 else (if s.toList.isEmpty = false then 3 else (if (l.length : Int) > 200 then 2 else (lstGo l)))) else
  if k = 9 then (if n ≠ 0 then 3 else (if s.toList.isEmpty = false then 3 else (if (l.length : Int) > 200 then 2 else (mapGo 0 ⟨#[]⟩ l)))) else
  if k = 11 then (if first = true then (if s.toList.isEmpty = false then 3 else (if l.length ≠ 0 then 3 else (if n < 0 then 11 else (if n > 9007199254740992 then 11 else (0))))) else 3) else 3
def clapref1_nodeErr.f (a0_0 a0_1 : Int) (a0_2 : ByteArray) (l0_3 : List S36) (a1 : Bool) : Option Int := if (Lit.int .i64 a0_0).wf = true ∧ l0_3.length ≤ 1000000000000 then some (nodeE a0_0 a0_1 a0_2 l0_3 a1) else none
theorem clapref1_nodeErr.calls (a0_0 : Int) (a0_1 : Int) (a0_2 : ByteArray) (A0_3 : Option Addr) (c0_3 : Nat) (l0_3 : List S36) (a1 : Bool) (r : Int) (w : World) (hr0_3 : Kd.C k36 w A0_3 l0_3.length l0_3) (hc0_3 : l0_3.length ≤ c0_3) (h : clapref1_nodeErr.f a0_0 a0_1 a0_2 l0_3 a1 = some r) :
    Calls Try.prog 13 #[.agg #[.int .i64 a0_0, .int .i64 a0_1, .string a0_2, .slice A0_3 l0_3.length c0_3], .bool a1] w fun e w' => e = .returned (.int .i64 r) ∧ Below w.heap.size w w' := by
  unfold clapref1_nodeErr.f at h
  by_cases hq : (Lit.int .i64 a0_0).wf = true ∧ l0_3.length ≤ 1000000000000
  · rw [if_pos hq] at h
    obtain rfl := Option.some.inj h
    obtain ⟨hwf, hl⟩ := hq
    unfold nodeE
    by_cases q0 : a0_0 = 0
    · rw [if_pos q0]; subst q0; exact node_0 a0_1 a0_2 A0_3 l0_3 c0_3 a1 w
    rw [if_neg q0]
    by_cases q1 : a0_0 = 1
    · rw [if_pos q1]; subst q1; exact node_1 a0_1 a0_2 A0_3 l0_3 c0_3 a1 w
    rw [if_neg q1]
    by_cases q2 : a0_0 = 2
    · rw [if_pos q2]; subst q2; exact node_2 a0_1 a0_2 A0_3 l0_3 c0_3 a1 w
    rw [if_neg q2]
    by_cases q3 : a0_0 = 3
    · rw [if_pos q3]; subst q3; exact node_3 a0_1 a0_2 A0_3 l0_3 c0_3 a1 w
    rw [if_neg q3]
    by_cases q4 : a0_0 = 4
    · rw [if_pos q4]; subst q4; exact node_4 a0_1 a0_2 A0_3 l0_3 c0_3 a1 w
    rw [if_neg q4]
    by_cases q5 : a0_0 = 5
    · rw [if_pos q5]; subst q5; exact node_5 a0_1 a0_2 A0_3 l0_3 c0_3 a1 w
    rw [if_neg q5]
    by_cases q6 : a0_0 = 6
    · rw [if_pos q6]; subst q6; exact node_6 nameB PNam.named_any PNam.named_short a0_1 a0_2 A0_3 l0_3 c0_3 a1 w hr0_3 hc0_3 hl
    rw [if_neg q6]
    by_cases q7 : a0_0 = 7
    · rw [if_pos q7]; subst q7; exact node_7 nameB PNam.named_any PNam.named_short a0_1 a0_2 A0_3 l0_3 c0_3 a1 w hr0_3 hc0_3 hl
    rw [if_neg q7]
    by_cases q8 : a0_0 = 8
    · rw [if_pos q8]; subst q8; exact node_8 nameB PNam.named_any PNam.named_short a0_1 a0_2 A0_3 l0_3 c0_3 a1 w hr0_3 hc0_3 hl
    rw [if_neg q8]
    by_cases q9 : a0_0 = 9
    · rw [if_pos q9]; subst q9; exact node_9 nameB PNam.named_any PNam.named_short a0_1 a0_2 A0_3 l0_3 c0_3 a1 w hr0_3 hc0_3 hl
    rw [if_neg q9]
    by_cases q11 : a0_0 = 11
    · rw [if_pos q11]
      by_cases hf : a1 = true
      · rw [if_pos hf]; subst q11 hf; exact node_11 a0_1 a0_2 A0_3 l0_3 c0_3 true w
      · rw [if_neg hf]; exact node_mark a0_0 a0_1 a0_2 A0_3 l0_3 c0_3 a1 w hwf q11 (Bool.eq_false_iff.2 hf)
    rw [if_neg q11]
    by_cases hk : a0_0 < 0
    · exact node_neg a0_0 a0_1 a0_2 A0_3 l0_3 c0_3 a1 w hwf hk
    · exact node_big a0_0 a0_1 a0_2 A0_3 l0_3 c0_3 a1 w hwf (by omega) q11
  · rw [if_neg hq] at h; cases h
end Go.Proofs.Yticdlpkjjokbcaa.PVal
