/- Contract of the law's fact 'ranged' (ints.Of over slices.SortFunc), in the print's form. No statement is proved here. -/
import Derived.Test.YtnbdmmepdmmbmaaIntsJoined
import Derived.Test.YtnbdmmepdmmbmaaPIntsx4
namespace Go.Proofs.Ytnbdmmepdmmbmaa
open Go.RowKit Go.Proofs.YtnbdmmepdmmbmaaW.PrintWords Go.Proofs.YtnbdmmepdmmbmaaW.PrintLast Go.Proofs.Ytnbdmmepdmmbmaa.PInts
set_option linter.unusedVariables false
set_option linter.unusedSimpArgs false
theorem ownR_lower {w : World} {B B' : Nat} {v : Value} {n : Nat} {xs : List Value} (h : w.ownsRow B 44 2 v n xs) (hb : B' ≤ B) : w.ownsRow B' 44 2 v n xs := by
  obtain ⟨h1, h2⟩ := h
  refine ⟨h1, ?_⟩
  rcases h2 with h2 | ⟨g, cap, cur, hv, hg, r⟩
  · exact .inl h2
  · exact .inr ⟨g, cap, cur, hv, by omega, r⟩
theorem ownR_ge {w : World} {B : Nat} {v : Value} {n : Nat} {xs : List Value} (h : w.ownsRow B 44 2 v n xs) (k : Nat) (hk : v.ownBlock = some k) : B ≤ k := by
  rcases h.2 with ⟨rfl, _⟩ | ⟨g, cap, cur, rfl, hg, _⟩
  · cases hk
  · have : g = k := Option.some.inj hk
    omega
def rowJ : Nat → List Value
  | 0 => []
  | 1 => [i6 7, i6 7]
  | 2 => [i6 7, i6 7, i6 2, i6 2]
  | 3 => [i6 7, i6 7, i6 2, i6 2, i6 1, i6 1]
  | _ => [i6 7, i6 7, i6 2, i6 2, i6 1, i6 1, i6 3, i6 3]
theorem limited2 (A : Option Addr) (c : Nat) (w : World) : Calls Try.prog 59 #[.slice A 2 c] w fun e w' => e = .returned (.tuple #[.slice A 2 c, .int .i64 0]) ∧ w' = w := by
  go_enter Try.func59, Try.ntmps59
  go_wp2
  go_ret2
  exact ⟨rfl, rfl⟩
theorem flat4 : Sort.flatK encR 2 row4 = #[i6 7, i6 7, i6 2, i6 2, i6 1, i6 1, i6 3, i6 3] := by kernel_rfl
theorem holds_of_own {w : World} {B g c : Nat} (h : w.ownsRow B 44 2 (.slice (some ⟨g, 0, none⟩) 4 c) 4 (rowJ 4)) : Sort.HoldsK encR 2 w g 0 row4 := by
  intro j hj
  have hj8 : j < 8 := by
    have h8 : (Sort.flatK encR 2 row4).size = 8 := by rw [Sort.size_flatK]; rfl
    omega
  refine ⟨?_, h.frozenAt _⟩
  rw [Nat.zero_add, h.cellAt j (by omega), flat4]
  match j, hj8 with
  | 0, _ => rfl
  | 1, _ => rfl
  | 2, _ => rfl
  | 3, _ => rfl
  | 4, _ => rfl
  | 5, _ => rfl
  | 6, _ => rfl
  | 7, _ => rfl
set_option maxRecDepth 100000 in
set_option maxHeartbeats 2000000 in
theorem of4 (b cap : Nat) (w : World) (p0 : w.cell? ⟨b, 0, none⟩ = some (.int .i64 7)) (p1 : w.cell? ⟨b, 1, none⟩ = some (.int .i64 2)) (p2 : w.cell? ⟨b, 2, none⟩ = some (.int .i64 1)) (p3 : w.cell? ⟨b, 3, none⟩ = some (.int .i64 3)) (hb : b < w.heap.size) :
    Calls Try.prog 25 #[.slice (some ⟨b, 0, none⟩) 4 cap] w fun e w' => ∃ v, e = .returned (.tuple #[v, .int .i64 0]) ∧ w'.ownsRow w.heap.size 44 2 v 2 (outJ 4).2 ∧ Below w.heap.size w w' := by
  obtain ⟨i0, hi, hz0, hz1, hz2⟩ := range_parts
  have HC := Lib.hid (And.intro p0 (And.intro p1 (And.intro p2 p3)))
  clear p0 p1 p2 p3
  go_enter Try.func25, Try.ntmps25
  go_wp2
  go_loopw [9, 4] (fun i v wr => ∃ j : Nat, j ≤ 4 ∧ i = .int .i64 j ∧ wr.ownsRow w.heap.size 44 2 v j (rowJ j) ∧ Below w.heap.size w wr) (fun i _ _ => 4 - (intOf i).toNat)
  case atStart => exact ⟨0, by omega, rfl, ⟨rfl, .inl ⟨rfl, rfl⟩⟩, Below.refl _ _⟩
  case round =>
    obtain ⟨j, hj, rfl, hO, hB⟩ := hrel
    have hsz := hB.size
    have HO := Lib.hid hO
    have HB := Lib.hid hB
    have hcell : ∀ i u, w.cell? ⟨b, i, none⟩ = some u → wr.cell? ⟨b, i, none⟩ = some u := fun i u h => (hB.cell (p := ⟨b, i, none⟩) hb).trans h
    obtain ⟨p0, p1, p2, p3⟩ := HC.out
    replace p0 := hcell _ _ p0; replace p1 := hcell _ _ p1; replace p2 := hcell _ _ p2; replace p3 := hcell _ _ p3
    clear hcell hO hB
    have hj5 : j = 0 ∨ j = 1 ∨ j = 2 ∨ j = 3 ∨ j = 4 := by omega
    rcases hj5 with rfl | rfl | rfl | rfl | rfl
    · go_wp2_with (at_builtin; refine wpList_append_own _ rfl _ _ 37 rfl w.heap.size 44 i0 (.agg #[.int .i64 0, .int .i64 0]) 2 16 Try.underlying37 hi hz0 hz1 hz2 rfl (by decide) _ _ _ rfl (HO.out.alloc _) ⟨wr.heap.size, 0, none⟩ 1 1 [.int .i64 7, .int .i64 7] rfl rfl ?c1 ?c2 ?c3 ?c4 ?c5 ?_)
      case c1 =>
        intro j u hj
        match j, hj with
        | 0, hj => simp at hj; subst hj; simp [Addr.add]
        | 1, hj => simp at hj; subst hj; simp [Addr.add]
      case c2 => intro u hu; simp at hu; rcases hu with rfl | rfl <;> rfl
      case c3 => unfold maxLen; omega
      case c4 => omega
      case c5 => simp; omega
      intro v' w2 hown' hgrow hnil
      go_wp2
      exact ⟨⟨1, by omega, rfl, hown', (HB.out.alloc hsz _).grown hgrow (by simp; omega) (fun k hk => ownR_ge HO.out k hk)⟩, by decide⟩
    · go_wp2_with (at_builtin; refine wpList_append_own _ rfl _ _ 37 rfl w.heap.size 44 i0 (.agg #[.int .i64 0, .int .i64 0]) 2 16 Try.underlying37 hi hz0 hz1 hz2 rfl (by decide) _ _ _ rfl (HO.out.alloc _) ⟨wr.heap.size, 0, none⟩ 1 1 [.int .i64 2, .int .i64 2] rfl rfl ?c1 ?c2 ?c3 ?c4 ?c5 ?_)
      case c1 =>
        intro j u hj
        match j, hj with
        | 0, hj => simp at hj; subst hj; simp [Addr.add]
        | 1, hj => simp at hj; subst hj; simp [Addr.add]
      case c2 => intro u hu; simp at hu; rcases hu with rfl | rfl <;> rfl
      case c3 => unfold maxLen; omega
      case c4 => omega
      case c5 => simp; omega
      intro v' w2 hown' hgrow hnil
      go_wp2
      exact ⟨⟨2, by omega, rfl, hown', (HB.out.alloc hsz _).grown hgrow (by simp; omega) (fun k hk => ownR_ge HO.out k hk)⟩, by decide⟩
    · go_wp2_with (at_builtin; refine wpList_append_own _ rfl _ _ 37 rfl w.heap.size 44 i0 (.agg #[.int .i64 0, .int .i64 0]) 2 16 Try.underlying37 hi hz0 hz1 hz2 rfl (by decide) _ _ _ rfl (HO.out.alloc _) ⟨wr.heap.size, 0, none⟩ 1 1 [.int .i64 1, .int .i64 1] rfl rfl ?c1 ?c2 ?c3 ?c4 ?c5 ?_)
      case c1 =>
        intro j u hj
        match j, hj with
        | 0, hj => simp at hj; subst hj; simp [Addr.add]
        | 1, hj => simp at hj; subst hj; simp [Addr.add]
      case c2 => intro u hu; simp at hu; rcases hu with rfl | rfl <;> rfl
      case c3 => unfold maxLen; omega
      case c4 => omega
      case c5 => simp; omega
      intro v' w2 hown' hgrow hnil
      go_wp2
      exact ⟨⟨3, by omega, rfl, hown', (HB.out.alloc hsz _).grown hgrow (by simp; omega) (fun k hk => ownR_ge HO.out k hk)⟩, by decide⟩
    · go_wp2_with (at_builtin; refine wpList_append_own _ rfl _ _ 37 rfl w.heap.size 44 i0 (.agg #[.int .i64 0, .int .i64 0]) 2 16 Try.underlying37 hi hz0 hz1 hz2 rfl (by decide) _ _ _ rfl (HO.out.alloc _) ⟨wr.heap.size, 0, none⟩ 1 1 [.int .i64 3, .int .i64 3] rfl rfl ?c1 ?c2 ?c3 ?c4 ?c5 ?_)
      case c1 =>
        intro j u hj
        match j, hj with
        | 0, hj => simp at hj; subst hj; simp [Addr.add]
        | 1, hj => simp at hj; subst hj; simp [Addr.add]
      case c2 => intro u hu; simp at hu; rcases hu with rfl | rfl <;> rfl
      case c3 => unfold maxLen; omega
      case c4 => omega
      case c5 => simp; omega
      intro v' w2 hown' hgrow hnil
      go_wp2
      exact ⟨⟨4, by omega, rfl, hown', (HB.out.alloc hsz _).grown hgrow (by simp; omega) (fun k hk => ownR_ge HO.out k hk)⟩, by decide⟩
    · have HO := Lib.hid (show wr.ownsRow w.heap.size 44 2 _ 4 (rowJ 4) from HO.out)
      obtain ⟨g2, c2, rfl, hg2, hg3, _, _⟩ := own2 HO.out (by decide)
      have hjo := joined4 g2 c2 wr (holds_of_own HO.out) hg3
      go_wp2_with fail
      go_at_call 60
      refine hjo.mono ?_
      rintro e w1 ⟨v, rfl, hO1, hb1⟩
      obtain ⟨g3, c3, rfl, hg4, hg5, _, _⟩ := own2 hO1 (by decide)
      have HO1 := Lib.hid hO1
      have HB1 := Lib.hid (HB.out.trans (hb1.mono hg2))
      clear hO1 hb1 hjo
      go_wp2_with (go_at_call 59; refine (limited2 _ _ _).mono ?_; rintro e w2 ⟨rfl, hw⟩; subst w2)
      go_ret2
      exact ⟨_, rfl, ownR_lower HO1.out hsz, HB1.out⟩
theorem C_two {w : World} {A : Option Addr} {ad : Addr} (hA : A = some ad) (r s : S44) (h : ∀ i u, [Value.int .i64 r.f0, .int .i64 r.f1, .int .i64 s.f0, .int .i64 s.f1][i]? = some u → w.cell? (ad.add i) = some u) : Kd.C k44 w A 2 [r, s] := by
  refine ⟨rfl, by omega, fun _ => ⟨ad, hA, fun j p hj => ?_⟩⟩
  match j, hj with
  | 0, hj =>
    simp at hj; subst hj
    refine ⟨_, rfl, k44_mk w r, fun i u hu => ?_⟩
    match i, hu with
    | 0, hu => exact h 0 u hu
    | 1, hu => exact h 1 u hu
  | 1, hj =>
    simp at hj; subst hj
    refine ⟨_, rfl, k44_mk w s, fun i u hu => ?_⟩
    match i, hu with
    | 0, hu => exact h 2 u hu
    | 1, hu => exact h 3 u hu
theorem own_cap {w : World} {B g c n : Nat} {xs : List Value} (h : w.ownsRow B 44 2 (.slice (some ⟨g, 0, none⟩) n c) n xs) : n ≤ c := by
  rcases h.2 with ⟨q, _⟩ | ⟨g', cap', cur, h', _, _, hn, _⟩
  · cases q
  · simp only [Value.slice.injEq] at h'
    obtain ⟨_, _, rfl⟩ := h'
    exact hn
def two : List S44 := [⟨1, 3⟩, ⟨7, 7⟩]
theorem two_eq : ints_Range.f 5 two two = some true := by kernel_rfl
set_option maxRecDepth 100000 in
set_option maxHeartbeats 2000000 in
theorem ranged_any (w : World) : Calls Try.prog 19 #[] w fun e w' => e = .returned (.bool true) ∧ Below w.heap.size w w' := by
  have hof := of4 w.heap.size 4 (w.alloc (.cells #[.int .i64 7, .int .i64 2, .int .i64 1, .int .i64 3] 3)) (by simp [go_sem]) (by simp [go_sem]) (by simp [go_sem]) (by simp [go_sem]) (by simp)
  go_enter Try.func19, Try.ntmps19
  go_wp2_with fail
  go_at_call 25
  refine hof.mono ?_
  rintro e w1 ⟨v, rfl, hO, hb⟩
  obtain ⟨g, c, rfl, hg, hg3, hc, _⟩ := own2 hO (by decide)
  have hcap := own_cap hO
  have HB := Lib.hid (blw_then (blw_alloc (Below.refl _ _) (.cells #[.int .i64 7, .int .i64 2, .int .i64 1, .int .i64 3] 3)) hb)
  have HC := Lib.hid hc
  clear hof hO hb hc
  have hr0 : Kd.C k44 (w1.alloc (.cells #[.int .i64 1, .int .i64 3, .int .i64 7, .int .i64 7] 44)) (some ⟨g, 0, none⟩) 2 two := C_two rfl _ _ fun i u hu => by
    match i, hu with
    | 0, hu => rw [World.cell?_alloc_lt _ _ _ hg3]; exact (HC.out 0 (by decide)).trans hu
    | 1, hu => rw [World.cell?_alloc_lt _ _ _ hg3]; exact (HC.out 1 (by decide)).trans hu
    | 2, hu => rw [World.cell?_alloc_lt _ _ _ hg3]; exact (HC.out 2 (by decide)).trans hu
    | 3, hu => rw [World.cell?_alloc_lt _ _ _ hg3]; exact (HC.out 3 (by decide)).trans hu
  have hr1 : Kd.C k44 (w1.alloc (.cells #[.int .i64 1, .int .i64 3, .int .i64 7, .int .i64 7] 44)) (some ⟨w1.heap.size, 0, none⟩) 2 two := C_two rfl _ _ fun i u hu => by
    match i, hu with
    | 0, hu => simp at hu; subst hu; simp [go_sem, two]
    | 1, hu => simp at hu; subst hu; simp [go_sem, two]
    | 2, hu => simp at hu; subst hu; simp [go_sem, two]
    | 3, hu => simp at hu; subst hu; simp [go_sem, two]
  have heq := ints_Range.calls 5 (some ⟨g, 0, none⟩) c two (some ⟨w1.heap.size, 0, none⟩) 2 two true _ hr0 hcap hr1 (by decide) two_eq
  clear hr0 hr1
  go_wp2_with fail
  go_at_call 56
  refine heq.mono ?_
  rintro e w2 ⟨rfl, hd⟩
  obtain ⟨nd, rfl⟩ := hd
  have HB2 := Lib.hid (blw_drewN (blw_alloc HB.out (.cells #[.int .i64 1, .int .i64 3, .int .i64 7, .int .i64 7] 44)) nd)
  clear heq
  go_wp2_with fail
  go_ret
  exact ⟨rfl, HB2.out⟩
namespace Plug
def claplaw1_ranged.f : Option Bool := some true
theorem claplaw1_ranged.calls (r : Bool) (w : World) (h : claplaw1_ranged.f = some r) : Calls Try.prog 19 #[] w fun e w' => e = .returned (.bool r) ∧ Below w.heap.size w w' := by
  obtain rfl := Option.some.inj h
  exact ranged_any w
end Plug
end Go.Proofs.Ytnbdmmepdmmbmaa
