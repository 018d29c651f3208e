/- Contract of clapref1.clean, in the print's form. No statement is proved here. -/
import Derived.Test.YtnbdmmepdmmbmaaDoorShelf
import Derived.Test.YtnbdmmepdmmbmaaDoorPure
namespace Go.Proofs.YtnbdmmepdmmbmaaDoor.Plug
open Go.RowKit Go.Proofs.YtnbdmmepdmmbmaaDoorW.PrintWords Go.Proofs.YtnbdmmepdmmbmaaDoorW.PrintLast
/-- Without zeros in front. -/
def clapref1_clean.f (a0 : ByteArray) : Option ByteArray := some ⟨(Lib.trimLeftB (lb a0) 48).toArray⟩
theorem clapref1_clean.calls (a0 : ByteArray) (r : ByteArray) (w : World) (h : clapref1_clean.f a0 = some r) :
    Calls Tryd.prog 52 #[.string a0] w fun e w' => e = .returned (.string r) ∧ Drawn0 w w' := by
  obtain rfl := Option.some.inj h
  go_enter Tryd.func52, Tryd.ntmps52
  go_wp2_with (go_at_call 79; refine (Tryd.strings_TrimLeft_one a0 48 (by decide) _).mono ?_; rintro e w1 ⟨rfl, hw⟩; subst w1)
  go_ret
  exact ⟨rfl, Drawn0.refl _⟩
end Go.Proofs.YtnbdmmepdmmbmaaDoor.Plug
