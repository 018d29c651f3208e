/- Contract of ints.joined, in the print's form: ranges are sorted and joined. No statement is proved here. -/
import Derived.Test.YtcmdoffdfnnlcaaAid
import Derived.Test.YtcmdoffdfnnlcaaPure
import Derived.Test.YtcmdoffdfnnlcaaJoinW
import Derived.Test.YtcmdoffdfnnlcaaIntsShelf
import Derived.Shelf.SlSortCmp.NoneTotal
namespace Go.Proofs.Ytcmdoffdfnnlcaa.Plug
open Go.RowKit Go.Sort Go.Proofs.Ytcmdoffdfnnlcaa Go.Proofs.Ytcmdoffdfnnlcaa.PIj Go.Proofs.YtcmdoffdfnnlcaaW.PrintWords Go.Proofs.YtcmdoffdfnnlcaaW.PrintLast Go.Proofs.YtcmdoffdfnnlcaaW.PrintMore
set_option linter.unusedVariables false
set_option linter.unusedSimpArgs false
/-- A range whose numbers are ints of the document's. -/
def rOk (x : S36) : Prop := -9007199254740992 ≤ x.f0 ∧ x.f0 ≤ 9007199254740992 ∧ -9007199254740992 ≤ x.f1 ∧ x.f1 ≤ 9007199254740992
instance (x : S36) : Decidable (rOk x) := by unfold rOk; exact inferInstance
abbrev RS := {x : S36 // rOk x}
instance : Inhabited RS := ⟨⟨⟨0, 0⟩, by unfold rOk; decide⟩⟩
/-- A range's two cells. -/
def encR (x : RS) : List Value := [.int .i64 x.1.f0, .int .i64 x.1.f1]
/-- What the closure answers. -/
def cfR (x y : RS) : Int := if x.1.f0 = y.1.f0 then x.1.f1 - y.1.f1 else x.1.f0 - y.1.f0
theorem s_ext {x y : S36} (h0 : x.f0 = y.f0) (h1 : x.f1 = y.f1) : x = y := by cases x; cases y; simp_all
theorem lt_iff (x y : RS) : ltOf cfR x y = true ↔ x.1.f0 < y.1.f0 ∨ (x.1.f0 = y.1.f0 ∧ x.1.f1 < y.1.f1) := by
  unfold ltOf cfR
  rw [decide_eq_true_eq]
  split <;> omega
theorem lt_niff (x y : RS) : ltOf cfR x y = false ↔ ¬ (x.1.f0 < y.1.f0 ∨ (x.1.f0 = y.1.f0 ∧ x.1.f1 < y.1.f1)) := by
  rw [← lt_iff, Bool.not_eq_true]
theorem swoR : SWO (ltOf cfR) where
  irrefl x := by rw [lt_niff]; omega
  trans x y z h1 h2 := by rw [lt_iff] at *; omega
  ntrans x y z h1 h2 := by rw [lt_niff] at *; omega
theorem totR (x y : RS) (h1 : ltOf cfR x y = false) (h2 : ltOf cfR y x = false) : x = y := by
  rw [lt_niff] at h1 h2
  exact Subtype.ext (s_ext (by omega) (by omega))
theorem cmp_any (x y : RS) (W : World) : Calls Try.prog 35 #[.agg #[.int .i64 x.1.f0, .int .i64 x.1.f1], .agg #[.int .i64 y.1.f0, .int .i64 y.1.f1]] W fun e w' => e = .returned (.int .i64 (cfR x y)) ∧ ∃ q os', w' = Sort.grow (W.drewN q) os' := by
  obtain ⟨⟨x1, x2⟩, hx⟩ := x
  obtain ⟨⟨y1, y2⟩, hy⟩ := y
  unfold rOk at hx hy
  unfold cfR
  simp only at hx hy ⊢
  by_cases h : x1 = y1
  · have h1 : (x1 != y1) = false := by simpa using h
    have hw : wrap64 (x2 - y2) = x2 - y2 := wrap_eq (by omega) (by omega)
    rw [if_pos h]
    clear hx hy
    go_enter Try.func35, Try.ntmps35
    go_wp2
    go_ret
    exact ⟨congrArg (fun z => Ending.returned (.int .i64 z)) hw, 0, _, by rw [Sort.alloc_eq_grow, Sort.alloc_eq_grow, Sort.grow_grow]; rfl⟩
  · have h1 : (x1 != y1) = true := by simpa using h
    have hw : wrap64 (x1 - y1) = x1 - y1 := wrap_eq (by omega) (by omega)
    rw [if_neg h]
    clear hx hy
    go_enter Try.func35, Try.ntmps35
    go_wp2
    go_ret
    exact ⟨congrArg (fun z => Ending.returned (.int .i64 z)) hw, 0, _, by rw [Sort.alloc_eq_grow, Sort.alloc_eq_grow, Sort.grow_grow]; rfl⟩
theorem cmp_lays (blk off size : Nat) (w : World) : CmpLays Try.prog 35 #[] encR 2 cfR blk off size w := fun _ _ _ _ x y => cmp_any x y _
def leR (x y : S36) : Bool := decide (x.f0 < y.f0 ∨ (x.f0 = y.f0 ∧ x.f1 ≤ y.f1))
def sortR (l : List S36) : List S36 := l.mergeSort leR
theorem sortR_length (l : List S36) : (sortR l).length = l.length := List.length_mergeSort l
theorem sortR_val (d : List RS) : (d.mergeSort fun x y => !(ltOf cfR) y x).map (·.1) = sortR (d.map (·.1)) := by
  unfold sortR
  refine List.map_mergeSort fun x _ y _ => ?_
  unfold leR
  rw [Bool.eq_iff_iff, Bool.not_eq_true', lt_niff, decide_eq_true_eq]
  omega
theorem below_sort (w : World) (blk off n : Nat) (hb : blk < w.heap.size) (d : Array RS) (os : Array Obj) : w.grownBy (sortWorldK encR 2 w blk off n d os) (some blk) := by
  refine ⟨rfl, rfl, rfl, ?_, fun k hk hne => ?_⟩
  · simp [sortWorldK, Sort.putRowK, Sort.putRow, Sort.mapBlock, Sort.grow, Sort.ahead]
  · have : blk ≠ k := fun e => hne (by rw [e])
    simp only [sortWorldK, Sort.putRowK, Sort.putRow, Sort.mapBlock, Sort.grow, Sort.ahead]
    rw [Array.getElem?_append_left (by simp; omega), Array.getElem?_modify, if_neg (by omega)]
theorem holds_R {w : World} {base : Nat} {ok : Nat → Prop} {g cap : Nat} {l : List S36} (h : Kd.R k36 36 w base ok (.slice (some ⟨g, 0, none⟩) l.length cap) l) (d : Array RS) (hd : d.toList.map (·.1) = l) : Sort.HoldsK encR 2 w g 0 d := by
  have hl : d.size = l.length := by rw [← hd, List.length_map, Array.length_toList]
  intro j hj
  simp only [Sort.size_flatK] at hj
  have hi : j / 2 < d.size := by omega
  obtain ⟨c, hcl, hM, hcc, hff⟩ := Kd.R_elem h z36 ((j / 2 : Nat) : Int) (by omega) (by omega)
  obtain rfl := k36_openM hM
  have e1 : (((j / 2 : Nat) : Int)).toNat = j / 2 := by omega
  have e2 : l.getD (j / 2) z36 = (d[j / 2]!).1 := by
    rw [List.getD_eq_getElem?_getD, ← hd, List.getElem?_map, Array.getElem?_toList, Array.getElem?_eq_getElem hi]
    simp [getElem!_pos d (j / 2) hi]
  rw [e1, e2] at hcc
  rw [e1] at hff
  have hsz : k36.sz = 2 := rfl
  rw [hsz] at hcc hff
  refine ⟨?_, ?_⟩
  · rw [Sort.get_flatK encR 2 d j hj]
    have hm : j % 2 = 0 ∨ j % 2 = 1 := by omega
    rcases hm with hm | hm
    · have := hcc 0 _ rfl
      rw [show 0 + j = j / 2 * 2 + 0 by omega, this, hm]; rfl
    · have := hcc 1 _ rfl
      rw [show 0 + j = j / 2 * 2 + 1 by omega, this, hm]; rfl
  · have := hff (j % 2)
    rw [show 0 + j = j / 2 * 2 + j % 2 by omega]; exact this
theorem reads_R {w : World} {g : Nat} {d : Array RS} (hm : d.size ≤ 9223372036854775807) (h : Sort.HoldsK encR 2 w g 0 d) : Kd.C k36 w (some ⟨g, 0, none⟩) d.size (d.toList.map (·.1)) := by
  refine ⟨by simp, hm, fun _ => ⟨_, rfl, fun j p hj => ?_⟩⟩
  have hj' : j < d.size := by
    have := (List.getElem?_eq_some_iff.1 hj).1
    simpa using this
  have hp : p = (d[j]!).1 := by
    rw [List.getElem?_map, Array.getElem?_toList, Array.getElem?_eq_getElem hj'] at hj
    rw [getElem!_pos d j hj']
    exact (Option.some.inj hj).symm
  subst hp
  refine ⟨_, rfl, k36_mk w _, fun i u hu => ?_⟩
  have c := fun k (hk : k < 2) => (Sort.HoldsK.cell h (i := j) (c := k) hj' hk).1
  match i, hu with
  | 0, hu =>
    obtain rfl := Option.some.inj hu
    have := c 0 (by omega)
    rw [add_plain, show k36.sz = 2 from rfl]
    simpa [encR] using this
  | 1, hu =>
    obtain rfl := Option.some.inj hu
    have := c 1 (by omega)
    rw [add_plain, show k36.sz = 2 from rfl]
    simpa [encR] using this
/-- What joined makes of ranges in order. -/
def joinGo : List S36 → List S36 → List S36
  | out, [] => out
  | [], r :: t => joinGo [r] t
  | o :: out, r :: t => if o.f1 ≥ r.f0 - 1 then joinGo (⟨o.f0, mx o.f1 r.f1⟩ :: out) t else joinGo (r :: o :: out) t
def jn (l : List S36) : List S36 := (joinGo [] (sortR l)).reverse
def ints_joined.f (l0 : List S36) : Option (List S36) := if (∀ x ∈ l0, rOk x) ∧ l0.length ≤ 1000000000 then some (jn l0) else none
theorem rd_R (l : List S36) (j : Nat) (h : j < l.length) : rd_T36 l (j : Int) = l[j] := by simp [rd_T36, List.getD_eq_getElem?_getD, List.getElem?_eq_getElem h]
theorem rd_last (o : S36) (out : List S36) : rd_T36 (o :: out).reverse (out.length : Int) = o := by
  simp [rd_T36, List.getD_eq_getElem?_getD]
theorem set_last (o x : S36) (out : List S36) : (o :: out).reverse.set (out.length : Int).toNat x = (x :: out).reverse := by
  rw [List.reverse_cons, List.reverse_cons, Int.toNat_natCast]
  rw [List.set_append_right _ _ (by simp)]
  simp
theorem joinW_ev (l : List S36) (ok : ∀ x ∈ l, rOk x) (hl : l.length ≤ 1000000000) : ∀ (d j : Nat) (out : List S36), l.length - j ≤ d → j ≤ l.length → out.length ≤ j →
    Ev (fun k => joinW.l0 k out.reverse l (l.length : Int) (j : Int)) (joinGo out (l.drop j)).reverse := by
  have w1 : ∀ n : Int, -1000000000000000000 ≤ n → n ≤ 1000000000000000000 → wrap64 n = n := fun n h1 h2 => wrap_eq (by omega) (by omega)
  intro d
  induction d with
  | zero =>
    intro j out hd hj ho
    obtain rfl : j = l.length := by omega
    apply Ev.succ
    simp only [joinW.l0, if_neg (show ¬ (l.length : Int) < (l.length : Int) by omega)]
    rw [List.drop_length]
    have e : joinGo out [] = out := by cases out <;> rfl
    rw [e]; exact Ev.now _
  | succ d ih =>
    intro j out hd hj ho
    by_cases hlt : j < l.length
    · have hm := List.getElem_mem hlt
      have hok := ok _ hm
      have hrd := rd_R l j hlt
      rw [List.drop_eq_getElem_cons hlt]
      generalize l[j] = r at *
      have hr := hok
      unfold rOk at hr
      have c1 : (j : Int) < (l.length : Int) := Int.ofNat_lt.2 hlt
      have c2 : (0 : Int) ≤ (j : Int) := Int.natCast_nonneg j
      have e2 : wrap64 ((j : Int) + 1) = ((j + 1 : Nat) : Int) := by rw [w1 _ (by omega) (by omega)]; omega
      have e3 : wrap64 (r.f0 - 1) = r.f0 - 1 := w1 _ (by omega) (by omega)
      have er : (⟨r.f0, r.f1⟩ : S36) = r := by cases r; rfl
      apply Ev.succ
      cases out with
      | nil =>
        have R := ih (j + 1) [r] (by omega) hlt (by simp)
        have e4 : wrap64 ((([] : List S36).reverse.length : Int) - 1) = -1 := by rw [w1] <;> simp
        simp only [joinW.l0, if_pos c1, if_pos c2, e4, if_neg (show ¬ (-1 : Int) ≥ 0 by decide), if_pos (show ([] : List S36).reverse.length < 8796093022208 by simp), hrd, e2, er]
        exact R
      | cons o out =>
        have e4 : wrap64 (((o :: out).reverse.length : Int) - 1) = (out.length : Int) := by
          rw [List.length_reverse, List.length_cons] at *
          rw [w1 _ (by omega) (by omega)]; omega
        have c5 : (out.length : Int) ≥ 0 := by omega
        have c6 : (out.length : Int) < ((o :: out).reverse.length : Int) := by rw [List.length_reverse, List.length_cons]; omega
        have c7 : (o :: out).reverse.length < 8796093022208 := by rw [List.length_reverse]; omega
        rw [List.length_cons] at ho
        simp only [joinW.l0, if_pos c1, if_pos c2, e4, if_pos c5, if_pos c6, hrd, rd_last, set_last, e2, e3, er]
        have eg : joinGo (o :: out) (r :: l.drop (j + 1)) = if o.f1 ≥ r.f0 - 1 then joinGo (⟨o.f0, mx o.f1 r.f1⟩ :: out) (l.drop (j + 1)) else joinGo (r :: o :: out) (l.drop (j + 1)) := rfl
        rw [eg]
        by_cases hc : o.f1 ≥ r.f0 - 1
        · rw [if_pos hc]
          simp only [if_pos hc]
          exact ih (j + 1) _ (by omega) hlt (by rw [List.length_cons]; omega)
        · rw [if_neg hc]
          simp only [if_neg hc, if_pos c7]
          have R := ih (j + 1) (r :: o :: out) (by omega) hlt (by simp only [List.length_cons]; omega)
          rw [List.reverse_cons] at R
          exact R
    · obtain rfl : j = l.length := by omega
      apply Ev.succ
      simp only [joinW.l0, if_neg (show ¬ (l.length : Int) < (l.length : Int) by omega)]
      rw [List.drop_length]
      have e : joinGo out [] = out := by cases out <;> rfl
      rw [e]; exact Ev.now _
theorem sortR_mem {l : List S36} {x : S36} : x ∈ sortR l ↔ x ∈ l := (List.mergeSort_perm l leR).mem_iff
set_option maxHeartbeats 4000000 in
set_option maxRecDepth 100000 in
theorem ints_joined.calls (P0_ : Nat → Prop) (u9000_ : Value) (l0 : List S36) (r : List S36) (w0 w : World) (hB : Below w0.heap.size w0 w) (ho0 : Kd.R k36 36 w w0.heap.size P0_ u9000_ l0) (h : ints_joined.f l0 = some r) :
    Calls Try.prog 26 #[u9000_] w fun e w' => ∃ v0_ : Value, e = .returned (v0_) ∧ Kd.R k36 36 w' w0.heap.size (fun k_ => (P0_ k_ ∨ w.heap.size ≤ k_)) v0_ r ∧ Below w0.heap.size w0 w' ∧ Kept w w' (fun k_ => P0_ k_) := by
  unfold ints_joined.f at h
  by_cases hq : (∀ x ∈ l0, rOk x) ∧ l0.length ≤ 1000000000
  · rw [if_pos hq] at h
    obtain rfl := Option.some.inj h
    obtain ⟨hok, hlen⟩ := hq
    obtain ⟨A0, c0, rfl, hc0, hC⟩ := Kd.R_reads ho0
    obtain ⟨k, hk⟩ := Ev.rounds (joinW_ev (sortR l0) (fun x hx => hok x (sortR_mem.1 hx)) (by rw [sortR_length]; exact hlen) (sortR l0).length 0 [] (by omega) (by omega) (by simp))
    rw [List.drop_zero] at hk
    have hsort : Calls Try.prog 34 #[.slice A0 (sortR l0).length c0, .func (.func 35) #[] #[]] w fun e w1 => e = .returned (.tuple #[]) ∧ Kd.C k36 w1 A0 (sortR l0).length (sortR l0) ∧ (Below w0.heap.size w0 w1 ∧ Kept w w1 (fun k_ => P0_ k_) ∧ w.heap.size ≤ w1.heap.size) := by
      rw [sortR_length]
      by_cases hn : 0 < l0.length
      · obtain ⟨g, cap, e1, hg, hlt, _⟩ := Kd.R_form ho0 hn
        cases e1
        obtain ⟨d, hd⟩ : ∃ d : Array RS, d.toList.map (·.1) = l0 := ⟨(l0.attachWith rOk hok).toArray, by simp⟩
        have hds : d.size = l0.length := by rw [← hd, List.length_map, Array.length_toList]
        have eg : ∀ args w, (callFunc 35 args).run Try.prog w = .ok (.enter 35 args) w := enters_of Try.func35 (by kernel_rfl) rfl
        have hs := AnyQ.slices_SortFunc_total Try.sortR 2 Try.isAgg36 Try.sizeOf36 encR (fun _ => rfl) (fun x v hv => by simp [encR] at hv; rcases hv with rfl | rfl <;> rfl) cfR swoR 35 #[] g 0 c0 d w eg (cmp_lays g 0 d.size w) (holds_R ho0 d hd) hlt (by omega) totR
        rw [hds] at hs
        refine hs.mono ?_
        rintro e w' ⟨rfl, n, os, rfl⟩
        have hgr := below_sort w g 0 n hlt (d.toList.mergeSort fun x y => !(ltOf cfR) y x).toArray os
        refine ⟨rfl, ?_, hB.grown hgr hB.size (fun k hk => by have : g = k := Option.some.inj hk; omega), Kept.of_grown hgr (Kept.refl w _) (fun k hk => .inl (ho0.1 k hk)), hgr.size⟩
        have hH := holdsK_sortWorldK_c encR 2 w g 0 d (d.toList.mergeSort fun x y => !(ltOf cfR) y x).toArray n os (holds_R ho0 d hd) hlt (by simp)
        have hR := reads_R (by simp; omega) hH
        simp only [List.size_toArray, List.length_mergeSort, Array.length_toList, hds] at hR
        rw [sortR_val, hd] at hR
        exact hR
      · obtain rfl : l0 = [] := List.eq_nil_of_length_eq_zero (by omega)
        refine (AnyF.slices_SortFunc_none Try.sortR A0 c0 _ w).mono ?_
        rintro e w' ⟨rfl, rfl⟩
        exact ⟨rfl, by rw [show sortR [] = [] by simp [sortR]]; exact hC, hB, Kept.refl _ _, Nat.le_refl _⟩
    have hj := joinW.calls k A0 c0 (sortR l0) (jn l0) w (fun w1 => Below w0.heap.size w0 w1 ∧ Kept w w1 (fun k_ => P0_ k_) ∧ w.heap.size ≤ w1.heap.size) hsort (by rw [sortR_length]; exact hc0) hk
    rw [sortR_length] at hj
    refine hj.mono ?_
    rintro e w' ⟨v, w1, ⟨hb1, hk1, hs1⟩, rfl, hR, hb⟩
    refine ⟨v, rfl, ?_, hb1.trans (hb.mono hb1.size), hk1.below hb⟩
    exact Kd.R_mono (Kd.R_lower (Kd.R_bound hR) hb1.size) (fun k hk => .inr (Nat.le_trans hs1 hk.2.1))
  · rw [if_neg hq] at h; cases h
end Go.Proofs.Ytcmdoffdfnnlcaa.Plug
