/- Plain words on types: how many nodes they have. No statement is proved here. -/
import Derived.Test.YtaalehglichejaaDoorPTyx0
namespace Go.Proofs.YtaalehglichejaaDoor
open Go.RowKit Go.Proofs.YtaalehglichejaaDoorW.PrintWords Go.Proofs.YtaalehglichejaaDoorW.PrintLast
namespace PTy
mutual
def szV : S24g S29 → Nat
  | ⟨_, _, _, _, _, fs⟩ => 1 + szFs fs
def szF : S29 → Nat
  | ⟨_, v⟩ => szV v
def szFs : List S29 → Nat
  | [] => 0
  | f :: t => szF f + szFs t
end
theorem szFs_mem {l : List S29} {f : S29} (h : f ∈ l) : szF f ≤ szFs l := by
  induction l with
  | nil => cases h
  | cons a t ih =>
    show szF f ≤ szF a + szFs t
    rcases List.mem_cons.1 h with q | q
    · rw [q]; omega
    · have := ih q; omega
theorem szV_eq (v : S24g S29) : szV v = 1 + szFs v.f5 := by cases v; rfl
theorem szF_eq (f : S29) : szF f = szV f.f1 := by cases f; rfl
end PTy
end Go.Proofs.YtaalehglichejaaDoor
