/- Plain words of IntsJoins: edges, errors, what the law's parts compute. No statement is proved here. -/
import Derived.Test.YtcmdoffdfnnlcaaIjBox
import Derived.Test.YtcmdoffdfnnlcaaPIjx5
import Derived.Test.YtcmdoffdfnnlcaaPIjx7
import Derived.Test.YtcmdoffdfnnlcaaPIjx7
import Derived.Test.YtcmdoffdfnnlcaaPIjx8
import Derived.Test.YtcmdoffdfnnlcaaPIjx8
import Derived.Test.YtcmdoffdfnnlcaaPIjx3
import Derived.Test.YtcmdoffdfnnlcaaPIjx4
namespace Go.Proofs.Ytcmdoffdfnnlcaa.PIj
open Go.RowKit Go.Proofs.Ytcmdoffdfnnlcaa Go.Proofs.Ytcmdoffdfnnlcaa.Plug Go.Proofs.YtcmdoffdfnnlcaaW.PrintWords Go.Proofs.YtcmdoffdfnnlcaaW.PrintLast Go.Proofs.YtcmdoffdfnnlcaaW.PrintMore
set_option linter.unusedVariables false
set_option linter.unusedSimpArgs false
/-- Is a number one of the document's ints? -/
def rt (n : Int) : Bool := decide (-9007199254740992 ≤ n) && decide (n ≤ 9007199254740992)
/-- The edges of numbers and of ranges. -/
def edL : List Int → List Int
  | [] => []
  | n :: t => (if rt n = true then [n, n + 1] else []) ++ edL t
def errL : List Int → Int
  | [] => 0
  | n :: t => if rt n = true then errL t else 11
def edR : List S36 → List Int
  | [] => []
  | r :: t => [r.f0, r.f1 + 1] ++ edR t
def g2E (e f : Int) : Int := if e = 0 then f else e
def g3E (e lo hi : Int) : Int := if e = 0 ∧ (rt lo && rt hi && decide (lo ≤ hi)) = false then 11 else e
def ed2E (x y : List S36) (e f : Int) : List Int := -9007199254740992 :: (if g2E e f = 0 then edR (x ++ y) else [])
def ed3E (x y : List S36) (e f lo hi : Int) : List Int := if g3E e lo hi = 0 then ed2E x y e f ++ [lo, hi + 1] ++ edR x else ed2E x y e f
/-- What the law's parts compute. -/
structure LawIn (x y : List S36) (l : List Int) (lo hi e f : Int) (s1 s2 s3 s4 s5 m1 m2 m3 m4 m5 : List S36) (h1 h2 h3 h4 h5 : Int) : Prop where
  ee : ∃ k, claplaw1_setErr.f k x = some e
  ff : ∃ k, claplaw1_setErr.f k y = some f
  rg : ∃ k, claplaw1_ranged.f k = some true
  ce : ∃ k, ints_Check.f k x = some e
  cf : ∃ k, ints_Check.f k y = some f
  of : ∃ k, ints_Of.f k l = some (s1, h1)
  mm1 : ∃ k, claplaw1_made.f (fun n => decide (n ∈ l)) k (-9007199254740992 :: edL l) 0 = some m1
  r1 : ∃ k, claplaw1_result.f k s1 h1 m1 (errL l) = some true
  ab : ∃ k, ints_Range_13.f k [x, y] = some (x ++ y)
  un : ∃ k, ints_Union.f k x y = some (s2, h2)
  mm2 : ∃ k, claplaw1_made.f (fun n => memB x n || memB y n) k (ed2E x y e f) 0 = some m2
  r2 : ∃ k, claplaw1_result.f k s2 h2 m2 (g2E e f) = some true
  co : ∃ k, ints_Common.f k x y = some (s3, h3)
  mm3 : ∃ k, claplaw1_made.f (fun n => memB x n && memB y n) k (ed2E x y e f) 0 = some m3
  r3 : ∃ k, claplaw1_result.f k s3 h3 m3 (g2E e f) = some true
  mi : ∃ k, ints_Minus.f k x y = some (s4, h4)
  mm4 : ∃ k, claplaw1_made.f (fun n => memB x n && !memB y n) k (ed2E x y e f) 0 = some m4
  r4 : ∃ k, claplaw1_result.f k s4 h4 m4 (g2E e f) = some true
  ok : g2E e f = 0 → ∀ r ∈ x ++ y, -9007199254740992 ≤ r.f0 ∧ r.f0 ≤ r.f1 ∧ r.f1 ≤ 9007199254740992
  okx : e = 0 → ∀ r ∈ x, -9007199254740992 ≤ r.f0 ∧ r.f0 ≤ r.f1 ∧ r.f1 ≤ 9007199254740992
  wi : ∃ k, ints_Without.f k x lo hi = some (s5, h5)
  mm5 : ∃ k, claplaw1_made.f (fun n => decide (lo ≤ n) && decide (n ≤ hi) && !memB x n) k (ed3E x y e f lo hi) 0 = some m5
  r5 : ∃ k, claplaw1_result.f k s5 h5 m5 (g3E e lo hi) = some true
theorem edL_take (l : List Int) (j : Nat) (h : j < l.length) : edL (l.take (j + 1)) = edL (l.take j) ++ (if rt l[j] = true then [l[j], l[j] + 1] else []) := by
  have e : ∀ a b : List Int, edL (a ++ b) = edL a ++ edL b := by
    intro a b
    induction a with
    | nil => rfl
    | cons n t ih => show _ ++ edL (t ++ b) = (_ ++ edL t) ++ edL b; rw [ih, List.append_assoc]
  rw [List.take_succ_eq_append_getElem h, e]
  congr 1
  show (if rt l[j] = true then [l[j], l[j] + 1] else []) ++ [] = _
  rw [List.append_nil]
theorem errL_take (l : List Int) (j : Nat) (h : j < l.length) : errL (l.take (j + 1)) = if rt l[j] = true then errL (l.take j) else 11 := by
  have e : ∀ (a : List Int) (n : Int), errL (a ++ [n]) = if rt n = true then errL a else 11 := by
    intro a n
    induction a with
    | nil => rfl
    | cons m t ih =>
      show (if rt m = true then errL (t ++ [n]) else 11) = if rt n = true then (if rt m = true then errL t else 11) else 11
      rw [ih]
      cases rt m <;> cases rt n <;> rfl
  rw [List.take_succ_eq_append_getElem h, e]
theorem edL_len (l : List Int) : (edL l).length ≤ 2 * l.length := by
  induction l with
  | nil => exact Nat.le_refl _
  | cons n t ih =>
    show ((if rt n = true then [n, n + 1] else []) ++ edL t).length ≤ _
    rw [List.length_append, List.length_cons]
    split <;> simp <;> omega
theorem edR_len (l : List S36) : (edR l).length = 2 * l.length := by
  induction l with
  | nil => rfl
  | cons n t ih =>
    show ([n.f0, n.f1 + 1] ++ edR t).length = _
    rw [List.length_append, List.length_cons, ih]
    simp; omega
theorem edR_append (a b : List S36) : edR (a ++ b) = edR a ++ edR b := by
  induction a with
  | nil => rfl
  | cons n t ih => show _ ++ edR (t ++ b) = (_ ++ edR t) ++ edR b; rw [ih, List.append_assoc]
theorem edR_take (l : List S36) (j : Nat) (h : j < l.length) : edR (l.take (j + 1)) = edR (l.take j) ++ [l[j].f0, l[j].f1 + 1] := by
  rw [List.take_succ_eq_append_getElem h, edR_append]
  rfl
end Go.Proofs.Ytcmdoffdfnnlcaa.PIj
