/- Contract of clapref1.zeros, in the print's form. No statement is proved here. -/
import Derived.Test.YtnbdmmepdmmbmaaDoorShelf
import Derived.Test.YtnbdmmepdmmbmaaDoorPure
namespace Go.Proofs.YtnbdmmepdmmbmaaDoor.Plug
open Go.RowKit Go.Proofs.YtnbdmmepdmmbmaaDoorW.PrintWords Go.Proofs.YtnbdmmepdmmbmaaDoorW.PrintLast
theorem rep48 (p : Nat) : Lib.repeatL (⟨#[48]⟩ : ByteArray).data.toList p = List.replicate p 48 := by
  induction p with
  | zero => rfl
  | succ p ih => show [48] ++ Lib.repeatL _ p = _; rw [ih]; rfl
/-- Zeros behind a number that is not 0. -/
def clapref1_zeros.f (a0 : ByteArray) (a1 : Int) : Option ByteArray := if lb a0 = [] then some ⟨#[]⟩ else if 0 ≤ a1 ∧ a1 ≤ 1000000 then some ⟨(List.replicate a1.toNat (48 : UInt8)).toArray⟩ else none
theorem clapref1_zeros.calls (a0 : ByteArray) (a1 : Int) (r : ByteArray) (w : World) (h : clapref1_zeros.f a0 a1 = some r) :
    Calls Tryd.prog 55 #[.string a0, .int .i64 a1] w fun e w' => e = .returned (.string r) ∧ Below w.heap.size w w' := by
  unfold clapref1_zeros.f at h
  have e0 : (a0.toList == ([] : List UInt8)) = decide (lb a0 = []) := by
    rw [Bool.eq_iff_iff, beq_iff_eq, decide_eq_true_eq, lb_toList]
  by_cases q : lb a0 = []
  · rw [if_pos q] at h
    obtain rfl := Option.some.inj h
    rw [decide_eq_true q] at e0
    clear q h
    go_enter Tryd.func55, Tryd.ntmps55
    go_wp2
    go_ret
    exact ⟨rfl, Below.refl _ _⟩
  · rw [if_neg q] at h
    rw [decide_eq_false q] at e0
    split at h
    · rename_i q2
      obtain rfl := Option.some.inj h
      obtain ⟨c, hc⟩ : ∃ c : Nat, a1 = c := ⟨a1.toNat, by omega⟩
      subst hc
      have hr := fun W => Tryd.strings_Repeat ⟨#[48]⟩ c W (by omega) (by show 1 * _ ≤ _; omega)
      rw [rep48] at hr
      clear q h
      go_enter Tryd.func55, Tryd.ntmps55
      go_wp2_with (go_at_call 80; refine (hr _).mono ?_; rintro e w1 ⟨rfl, hb⟩)
      go_ret
      exact ⟨rfl, hb⟩
    · cases h
end Go.Proofs.YtnbdmmepdmmbmaaDoor.Plug
