/- Plain words on values: how many nodes they have. No statement is proved here. -/
import Derived.Test.YticdlpkjjokbcaaPValx0
namespace Go.Proofs.Yticdlpkjjokbcaa
open Go.RowKit Go.Proofs.YticdlpkjjokbcaaW.PrintWords Go.Proofs.YticdlpkjjokbcaaW.PrintLast
namespace PVal
mutual
def szV : S24g S36 → Nat
  | ⟨_, _, _, fs⟩ => 1 + szFs fs
def szF : S36 → Nat
  | ⟨_, v⟩ => szV v
def szFs : List S36 → Nat
  | [] => 0
  | f :: t => szF f + szFs t
end
theorem szFs_mem {l : List S36} {f : S36} (h : f ∈ l) : szF f ≤ szFs l := by
  induction l with
  | nil => cases h
  | cons a t ih =>
    show szF f ≤ szF a + szFs t
    rcases List.mem_cons.1 h with q | q
    · rw [q]; omega
    · have := ih q; omega
theorem szV_eq (v : S24g S36) : szV v = 1 + szFs v.f3 := by cases v; rfl
theorem szF_eq (f : S36) : szF f = szV f.f1 := by cases f; rfl
end PVal
end Go.Proofs.Yticdlpkjjokbcaa
