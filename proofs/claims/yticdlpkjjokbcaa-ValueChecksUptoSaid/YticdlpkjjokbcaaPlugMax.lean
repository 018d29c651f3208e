/- Contract of slices.Max at []int, in the print's form. No statement is proved here. -/
import Derived.Test.YticdlpkjjokbcaaAid
import Derived.Test.YticdlpkjjokbcaaPure
import Derived.Test.YticdlpkjjokbcaaWMore
namespace Go.Proofs.Yticdlpkjjokbcaa.Plug
open Go.RowKit Go.Proofs.YticdlpkjjokbcaaW.PrintWords Go.Proofs.YticdlpkjjokbcaaW.PrintLast Go.Proofs.YticdlpkjjokbcaaW.PrintMore Go.Proofs.Yticdlpkjjokbcaa
set_option linter.unusedVariables false
set_option linter.unusedSimpArgs false
/-- The greatest of some numbers, m among them. -/
def maxL (m : Int) : List Int → Int
  | [] => m
  | x :: t => maxL (if m < x then x else m) t
def slices_Max_int_int.f (a0 : List Int) : Option Int := match a0 with
  | [] => none
  | x :: t => some (maxL x t)
theorem int_at {w : World} {A : Option Addr} {l : List Int} (h : Kd.C (Kd.int .i64) w A l.length l) (j : Nat) (hj : j < l.length) : ∃ ad, A = some ad ∧ w.cell? (ad.add j) = some (.int .i64 l[j]) := by
  obtain ⟨ad, c, e, _, hK, hc0⟩ := Kd.C_get h (0 : Int) (j : Int) (by omega) (by omega)
  have hK' : c = [.int .i64 (l.getD j 0)] := hK
  subst hK'
  have h1 := hc0 0 _ rfl
  have h2 : w.cell? (ad.add j) = some (.int .i64 (l.getD j 0)) := by
    have e1 : (j : Int).toNat * (Kd.int .i64).sz + 0 = j := by show (j : Int).toNat * 1 + 0 = j; omega
    rw [e1] at h1; exact h1
  rw [List.getD_eq_getElem?_getD, List.getElem?_eq_getElem hj] at h2
  exact ⟨ad, e, h2⟩
theorem maxL_step (m : Int) (l : List Int) (j : Nat) (h : j < l.length) : maxL m (l.drop j) = maxL (if m < l[j] then l[j] else m) (l.drop (j + 1)) := by
  rw [List.drop_eq_getElem_cons h]; rfl
set_option maxHeartbeats 4000000 in
set_option maxRecDepth 100000 in
theorem slices_Max_int_int.calls (A0 : Option Addr) (c0 : Nat) (l0 : List Int) (r : Int) (w : World) (hr0 : Kd.C (Kd.int .i64) w A0 l0.length l0) (hc0 : l0.length ≤ c0) (h : slices_Max_int_int.f l0 = some r) :
    Calls Try.prog 8 #[.slice A0 l0.length c0] w fun e w' => e = .returned (.int .i64 r) ∧ Drawn0 w w' := by
  have hl64 : l0.length ≤ 9223372036854775807 := hr0.2.1
  obtain ⟨x, t, rfl⟩ : ∃ x t, l0 = x :: t := by
    cases l0 with
    | nil => cases h
    | cons x t => exact ⟨x, t, rfl⟩
  obtain rfl := Option.some.inj h
  obtain ⟨ad, rfl, hx⟩ := int_at hr0 0 (by simp)
  rw [List.getElem_cons_zero] at hx
  have HR := Lib.hid hr0
  have HC := Lib.hid hc0
  obtain ⟨n, hn⟩ : ∃ n, n = (x :: t).length := ⟨_, rfl⟩
  have hn1 : 1 ≤ n := by rw [hn]; simp
  rw [← hn] at hl64 ⊢
  have HN := Lib.hid hn
  clear hr0 hc0 hn
  have hz : decide ((n : Int) < 1) = false := decide_eq_false (by omega)
  have hz1 : (0 : Int) < (n : Int) := by omega
  have e0 : ad.add 0 = ad := by cases ad; rfl
  have hx0 : w.cell? ad = some (.int .i64 x) := by rw [← e0]; exact hx
  clear e0
  go_enter Try.func8, Try.ntmps8
  go_wp2_with fail
  go_loopw [3, 4] (fun m i wr => ∃ (j : Nat) (M : Int), 1 ≤ j ∧ j ≤ n ∧ m = .int .i64 M ∧ i = .int .i64 j ∧ maxL x t = maxL M ((x :: t).drop j) ∧ wr = w) (fun m i _ => n - (intOf i).toNat)
  case atStart => exact ⟨1, x, Nat.le_refl _, hn1, rfl, rfl, rfl, rfl⟩
  case round =>
    obtain ⟨j, M, hj1, hj, rfl, rfl, hp, rfl⟩ := hrel
    have HP := Lib.hid hp
    clear hp hx hx0
    by_cases hlt : j < n
    · have hlt' : j < (x :: t).length := by rw [← HN.out]; exact hlt
      obtain ⟨ad2, e2, hc⟩ := int_at HR.out j hlt'
      injection e2 with e2
      subst e2
      have HST := Lib.hid (maxL_step M (x :: t) j hlt')
      generalize (x :: t)[j] = v at *
      clear hlt'
      go_wp2_with fail
      go_roundw
      case rel => exact ⟨j + 1, if M < v then v else M, by omega, by omega, by first | rfl | (simp; done) | (simp [*]; done), by go_num, by rw [HP.out, HST.out], by first | rfl | trivial⟩
      case measure => simp [intOf]; omega
    · obtain rfl : j = n := by omega
      go_wp2_with fail
      go_ret
      refine ⟨?_, Drawn0.refl _⟩
      rw [HP.out, HN.out, List.drop_length]; rfl
end Go.Proofs.Yticdlpkjjokbcaa.Plug
