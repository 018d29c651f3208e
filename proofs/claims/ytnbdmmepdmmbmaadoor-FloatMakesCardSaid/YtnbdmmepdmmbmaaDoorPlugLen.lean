/- Contract of math/bits.Len64, in the print's form. No statement is proved here. -/
import Derived.Test.YtnbdmmepdmmbmaaDoorShelf
import Derived.Test.YtnbdmmepdmmbmaaDoorPure
namespace Go.Proofs.YtnbdmmepdmmbmaaDoor.Plug
open Go.RowKit Go.Proofs.YtnbdmmepdmmbmaaDoorW.PrintWords Go.Proofs.YtnbdmmepdmmbmaaDoorW.PrintLast
def bits_Len64.f (a0 : Int) : Option Int := if 0 ≤ a0 ∧ a0 ≤ 18446744073709551615 then some (Lib.bitLen a0.toNat) else none
theorem bits_Len64.calls (a0 : Int) (r : Int) (w : World) (h : bits_Len64.f a0 = some r) :
    Calls Tryd.prog 50 #[.int .u64 a0] w fun e w' => e = .returned (.int .i64 r) ∧ Drawn0 w w' := by
  unfold bits_Len64.f at h
  split at h
  · rename_i q
    obtain rfl := Option.some.inj h
    refine (Tryd.bits_Len64 a0 w q.1 q.2).mono ?_
    rintro e w' ⟨rfl, h⟩
    first | exact ⟨rfl, h ▸ Drawn0.refl _⟩ | exact ⟨rfl, h.symm ▸ Drawn0.refl _⟩
  · cases h
end Go.Proofs.YtnbdmmepdmmbmaaDoor.Plug
