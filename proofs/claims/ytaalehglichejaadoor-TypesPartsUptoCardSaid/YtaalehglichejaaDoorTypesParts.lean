/- TypesParts: the walk and the plain law joined: for types of bulk at most 1048576 the call returns true. -/
import Derived.Test.YtaalehglichejaaDoorTyWalk
import Derived.Test.YtaalehglichejaaDoorTyInj
import Derived.Test.YtaalehglichejaaDoorTyOpen
import Derived.Deep.DeepHandedRow
import Derived.LaidSub
import Derived.Lib.LaidTab
namespace Go.Proofs.YtaalehglichejaaDoor.PTy
open Go.RowKit Go.Proofs.YtaalehglichejaaDoorW.PrintWords Go.Proofs.YtaalehglichejaaDoorW.PrintLast
set_option linter.unusedVariables false
set_option linter.unusedSimpArgs false
theorem sz_le (d : Nat) : ∀ x : S24g S29, szV x ≤ d → szV x ≤ wtV x := by
  induction d with
  | zero => intro x h; rw [szV_eq] at h; omega
  | succ d ih =>
    intro x h
    rw [szV_eq] at h ⊢
    rw [wtV_eq]
    have : ∀ l : List S29, szFs l ≤ d → szFs l ≤ wtFs l := by
      intro l
      induction l with
      | nil => intro _; exact Nat.le_refl _
      | cons a t iht =>
        intro hl
        have e1 : szFs (a :: t) = szF a + szFs t := rfl
        have e2 : wtFs (a :: t) = wtF a + wtFs t := rfl
        have := iht (by omega)
        have h3 := ih a.f1 (by rw [← szF_eq]; omega)
        rw [← szF_eq] at h3
        rw [wtF_eq] at e2
        omega
    have := this x.f5 (by omega)
    omega
theorem quo_le (s : ByteArray) (h : s.size ≤ 1048576) : (lb (quo s)).length ≤ s.size + 22 := by
  have := itoaB_len (s.size : Int) (by omega) (by omega)
  unfold quo
  rw [lb_len, ByteArray.size_append, ByteArray.size_append]
  have e : (⟨#[58]⟩ : ByteArray).size = 1 := rfl
  omega
theorem text_le (d : Nat) : ∀ x : S24g S29, szV x ≤ d → wtV x ≤ 1048576 → rgV x → (txV x).length + 22 ≤ 40 * wtV x := by
  induction d with
  | zero => intro x h; rw [szV_eq] at h; omega
  | succ d ih =>
    intro x h hw hr
    rw [szV_eq] at h
    rw [wtV_eq] at hw ⊢
    rw [rgV_eq] at hr
    obtain ⟨⟨r0, r2, r3⟩, rfs⟩ := hr
    obtain ⟨r0a, r0b⟩ := i64_of_wf r0
    obtain ⟨r2a, r2b⟩ := i64_of_wf r2
    obtain ⟨r3a, r3b⟩ := i64_of_wf r3
    have n0 := itoaB_len x.f0 r0a r0b
    have n2 := itoaB_len x.f2 r2a r2b
    have n3 := itoaB_len x.f3 r3a r3b
    have q1 := quo_le x.f1 (by omega)
    have q4 := quo_le x.f4 (by omega)
    have this : ∀ l : List S29, szFs l ≤ d → wtFs l ≤ 1048576 → rgFs l → (txFs l).length ≤ 40 * wtFs l := by
      intro l
      induction l with
      | nil => intro _ _ _; exact Nat.zero_le _
      | cons a t iht =>
        intro hl hwl hrl
        have e1 : szFs (a :: t) = szF a + szFs t := rfl
        have e2 : wtFs (a :: t) = wtF a + wtFs t := rfl
        have e3 : txFs (a :: t) = txF a ++ txFs t := rfl
        rw [wtF_eq] at e2
        have i1 := iht (by omega) (by omega) hrl.2
        have hra := hrl.1
        rw [rgF_eq] at hra
        have h3 := ih a.f1 (by rw [← szF_eq]; omega) (by omega) hra
        have q0 := quo_le a.f0 (by omega)
        rw [e3, txF_eq]
        simp only [List.length_append]
        omega
    have := this x.f5 (by omega) (by omega) rfs
    rw [txV_full x [] |> fun h => (List.append_nil (txV x)).symm.trans h]
    simp only [List.length_append, List.length_cons, List.length_nil]
    rw [← lb_itoaB, ← lb_itoaB, ← lb_itoaB, lb_len, lb_len, lb_len]
    omega
theorem part_facts (nm : ByteArray) (x : S24g S29) (hw : wtV x ≤ 1048576) (hr : rgV x) : wtV (partR nm x.f5) ≤ 1048576 ∧ rgV (partR nm x.f5) := by
  unfold partR
  by_cases h : 0 ≤ placeOf nm 0 x.f5
  · rw [if_pos h]
    have hp := placeOf_lt nm x.f5 0
    obtain ⟨j, hj⟩ : ∃ j : Nat, placeOf nm 0 x.f5 = j := ⟨_, (Int.toNat_of_nonneg h).symm⟩
    have hlt : j < x.f5.length := by omega
    rw [hj, rd_get x.f5 j hlt]
    have hm : x.f5[j] ∈ x.f5 := List.getElem_mem hlt
    have h1 := wtFs_mem hm
    rw [wtF_eq] at h1
    rw [wtV_eq] at hw
    rw [rgV_eq] at hr
    have h2 := rgFs_mem hr.2 hm
    rw [rgF_eq] at h2
    exact ⟨by omega, h2⟩
  · rw [if_neg h]
    refine ⟨by decide, ?_⟩
    exact ⟨⟨by decide, by decide, by decide⟩, trivial⟩
end Go.Proofs.YtaalehglichejaaDoor.PTy
namespace Go.Proofs.YtaalehglichejaaDoor
open Go.RowKit Go.Proofs.YtaalehglichejaaDoorW.PrintWords Go.Proofs.YtaalehglichejaaDoorW.PrintLast
theorem TypesParts_walk (x : PTy.S24g PTy.S29) (A : Option Addr) (c : Nat) (y : PTy.S24g PTy.S29) (B : Option Addr) (d : Nat) (nm : ByteArray) (w : World) (hC : Kd.C PTy.k29 w A x.f5.length x.f5) (hc : x.f5.length ≤ c) (rx : PTy.rgV x) (wx : PTy.wtV x ≤ 1048576)
    (hD : Kd.C PTy.k29 w B y.f5.length y.f5) (hd : y.f5.length ≤ d) (ry : PTy.rgV y) (wy : PTy.wtV y ≤ 1048576) (_ : nm.size + 1 ≤ 1048576) (hL : laidMetH Tryd.prog Rows.typesPartsUptoRow.laid w) :
    Calls Tryd.prog 3 #[.agg #[.int .i64 x.f0, .string x.f1, .int .i64 x.f2, .int .i64 x.f3, .string x.f4, .slice A x.f5.length c], .agg #[.int .i64 y.f0, .string y.f1, .int .i64 y.f2, .int .i64 y.f3, .string y.f4, .slice B y.f5.length d], .string nm] w (Tr w) := by
  have ht : PTy.Tab w := by
    have h1 := laidMetH.filter (fun x => x.1 == "internal/strconv.uint64pow10") hL
    have hl : Rows.typesPartsUptoRow.laid.filter (fun x => x.1 == "internal/strconv.uint64pow10") = [("internal/strconv.uint64pow10", Lib.tabData .u64 Lib.pow10Tab)] := by kernel_rfl
    rw [hl] at h1
    exact Lib.tabIs_of_head (rest := []) (g := 0) (t := 91) (e := 76) (n := 20) (by kernel_rfl) (by kernel_rfl) (by kernel_rfl) (by kernel_rfl) (by kernel_rfl) (by kernel_rfl) h1
  obtain ⟨wp, rp⟩ := PTy.part_facts nm x wx rx
  have s1 := PTy.sz_le _ x (Nat.le_refl _)
  have t1 := PTy.text_le _ x (Nat.le_refl _) wx rx
  have t2 := PTy.text_le _ y (Nat.le_refl _) wy ry
  have t3 := PTy.text_le _ _ (Nat.le_refl _) wp rp
  exact PTy.law_walk x y nm A B c d w hC hc hD hd ht (by omega) rx ry rp (by omega) (by omega) (by omega) (PTy.eq_text x y)
end Go.Proofs.YtaalehglichejaaDoor
