/- Contract of strings.Contains at one byte, in the print's form. No statement is proved here. -/
import Derived.Test.YticdlpkjjokbcaaShelf
import Derived.Test.YticdlpkjjokbcaaPure
namespace Go.Proofs.Yticdlpkjjokbcaa.Plug
open Go.RowKit Go.Proofs.YticdlpkjjokbcaaW.PrintWords Go.Proofs.YticdlpkjjokbcaaW.PrintLast
def strings_Contains.f (a0 a1 : ByteArray) : Option Bool := match a1.data.toList with
  | [c] => some (decide (0 ≤ Lib.indexByte (lb a0) c))
  | _ => none
theorem strings_Contains.calls (a0 a1 : ByteArray) (r : Bool) (w : World) (h : strings_Contains.f a0 a1 = some r) :
    Calls Try.prog 23 #[.string a0, .string a1] w fun e w' => e = .returned (.bool r) ∧ Drawn0 w w' := by
  obtain ⟨⟨l⟩⟩ := a1
  unfold strings_Contains.f at h
  cases l with
  | nil => cases h
  | cons c t =>
    cases t with
    | cons d t => cases h
    | nil =>
      injection h with h
      subst h
      refine (Try.strings_Contains_one a0 c w).mono ?_
      rintro e w' ⟨rfl, h⟩
      first | exact ⟨rfl, h ▸ Drawn0.refl _⟩ | exact ⟨rfl, h.symm ▸ Drawn0.refl _⟩
end Go.Proofs.Yticdlpkjjokbcaa.Plug
