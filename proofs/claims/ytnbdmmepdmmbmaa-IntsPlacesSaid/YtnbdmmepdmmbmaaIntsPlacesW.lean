/- The walk of the law IntsPlaces, out of the printed contract and the plain law. -/
import Derived.Test.YtnbdmmepdmmbmaaIntsPlaces
import Derived.Test.YtnbdmmepdmmbmaaIntsOpen
import Derived.Test.YtnbdmmepdmmbmaaAid
namespace Go.Proofs.Ytnbdmmepdmmbmaa
open Go.RowKit Go.Proofs.YtnbdmmepdmmbmaaW.PrintWords Go.Proofs.YtnbdmmepdmmbmaaW.PrintLast
set_option linter.unusedVariables false in
theorem IntsPlaces_walk (A0 : Option Addr) (c0 : Nat) (l0 : List PInts.S44) (A1 : Option Addr) (c1 : Nat) (l1 : List PInts.S44) (n k : Int) (W : World) (h0 : Kd.C PInts.k44 W A0 l0.length l0) (hc0 : l0.length ≤ c0) (hb0 : l0.length ≤ 9223372036854775807)
    (h1 : Kd.C PInts.k44 W A1 l1.length l1) (hc1 : l1.length ≤ c1) (hb1 : l1.length ≤ 9223372036854775807) (hn : (Lit.int .i64 n).wf = true) (hk : (Lit.int .i64 k).wf = true) :
    Calls Try.prog 4 #[.slice A0 l0.length c0, .slice A1 l1.length c1, .int .i64 n, .int .i64 k] W (Tr W) := by
  have hk' : k ≤ 9223372036854775807 := by
    simp [Lit.wf, IntKind.min, IntKind.max, IntKind.signed, IntKind.bits] at hk; omega
  obtain ⟨kk, h⟩ := PInts.IntsPlaces l0 l1 n k hb0 hk'
  exact PInts.claplaw1_IntsPlaces.calls kk A0 c0 l0 A1 c1 l1 n k true W h0 hc0 h1 hc1 h
end Go.Proofs.Ytnbdmmepdmmbmaa
