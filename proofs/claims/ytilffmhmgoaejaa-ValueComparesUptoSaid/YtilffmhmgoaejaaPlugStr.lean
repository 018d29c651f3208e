/- Contracts of strings.Compare, strings.Contains and strings.Index at one byte, in the print's form. No statement is proved here. -/
import Derived.Test.YtilffmhmgoaejaaShelf
import Derived.Test.YtilffmhmgoaejaaPure
namespace Go.Proofs.Ytilffmhmgoaejaa.Plug
open Go.RowKit Go.Proofs.YtilffmhmgoaejaaW.PrintWords Go.Proofs.YtilffmhmgoaejaaW.PrintLast
def strings_Compare.f (a0 a1 : ByteArray) : Option Int := some (Lib.compareBytes (lb a0) (lb a1))
theorem strings_Compare.calls (a0 a1 : ByteArray) (r : Int) (w : World) (h : strings_Compare.f a0 a1 = some r) :
    Calls Try.prog 39 #[.string a0, .string a1] w fun e w' => e = .returned (.int .i64 r) ∧ Drawn0 w w' := by
  obtain rfl := Option.some.inj h
  refine (Try.strings_Compare a0 a1 w).mono ?_
  rintro e w' ⟨rfl, h⟩
  first | exact ⟨rfl, h ▸ Drawn0.refl _⟩ | exact ⟨rfl, h.symm ▸ Drawn0.refl _⟩
end Go.Proofs.Ytilffmhmgoaejaa.Plug
