/- Contracts of types.Part and of the law's own search (over slices.IndexFunc with a closure). No statement is proved here. -/
import Derived.Test.YtaalehglichejaaDoorTCopy
namespace Go.Proofs.YtaalehglichejaaDoor.PTy
open Go.RowKit Go.Proofs.YtaalehglichejaaDoorW.PrintWords Go.Proofs.YtaalehglichejaaDoorW.PrintLast
set_option linter.unusedVariables false
set_option linter.unusedSimpArgs false
/-- The place of the first part with a name, or -1. -/
def placeOf (nm : ByteArray) : Nat → List S29 → Int
  | _, [] => -1
  | j, f :: t => if lb f.f0 = lb nm then (j : Int) else placeOf nm (j + 1) t
theorem placeOf_step (nm : ByteArray) (l : List S29) (j : Nat) (h : j < l.length) : placeOf nm j (l.drop j) = if lb l[j].f0 = lb nm then (j : Int) else placeOf nm (j + 1) (l.drop (j + 1)) := by
  rw [List.drop_eq_getElem_cons h]; rfl
theorem placeOf_lt (nm : ByteArray) : ∀ (l : List S29) (j : Nat), placeOf nm j l < 0 ∨ ((j : Int) ≤ placeOf nm j l ∧ placeOf nm j l < j + l.length)
  | [], j => .inl (by show (-1 : Int) < 0; decide)
  | f :: t, j => by
    unfold placeOf
    by_cases h : lb f.f0 = lb nm
    · rw [if_pos h]; right; simp; omega
    · rw [if_neg h]
      rcases placeOf_lt nm t (j + 1) with q | q
      · exact .inl q
      · right; simp; omega
theorem rd_get (l : List S29) (j : Nat) (h : j < l.length) : rd_T29 l (j : Int) = l[j] := by simp [rd_T29, List.getD_eq_getElem?_getD, List.getElem?_eq_getElem h]
/-- A closure that compares a part's name with the one that it was made with. -/
def CloOk (m fb : Nat) (nm : ByteArray) : Prop := ∀ (s0 : ByteArray) (k : Int) (s1 : ByteArray) (x y : Int) (s2 : ByteArray) (A : Option Addr) (n c : Nat) (w : World), w.cell? ⟨fb, 0, none⟩ = some (.string nm) →
    Calls Tryd.prog m #[.agg #[.string s0, .int .i64 k, .string s1, .int .i64 x, .int .i64 y, .string s2, .slice A n c], .pointer (some ⟨fb, 0, none⟩)] w fun e w' => e = .returned (.bool (decide (lb s0 = lb nm))) ∧ Below w.heap.size w w'
set_option maxHeartbeats 4000000 in
set_option maxRecDepth 1000000 in
theorem cloA_ok (fb : Nat) (nm : ByteArray) : CloOk 11 fb nm := by
  intro s0 k s1 x y s2 A n c w hcell
  have hu24 := Tryd.underlying24
  have hu29 := Tryd.underlying29
  have hc2 := Lib.cell?_alloc_some (.cells #[.string s0, .int .i64 k, .string s1, .int .i64 x, .int .i64 y, .string s2, .slice A n c] 29) hcell
  clear hcell
  go_enter Tryd.func11, Tryd.ntmps11
  go_wp2_with fail
  go_ret
  refine ⟨?_, blw_alloc (Below.refl _ _) _⟩
  refine ret_bool ?_
  rw [Bool.eq_iff_iff]
  simp [Lib.toList_data]
set_option maxHeartbeats 4000000 in
set_option maxRecDepth 1000000 in
theorem cloB_ok (fb : Nat) (nm : ByteArray) : CloOk 6 fb nm := by
  intro s0 k s1 x y s2 A n c w hcell
  have hu24 := Tryd.underlying24
  have hu29 := Tryd.underlying29
  have hc2 := Lib.cell?_alloc_some (.cells #[.string s0, .int .i64 k, .string s1, .int .i64 x, .int .i64 y, .string s2, .slice A n c] 29) hcell
  clear hcell
  go_enter Tryd.func6, Tryd.ntmps6
  go_wp2_with fail
  go_ret
  refine ⟨?_, blw_alloc (Below.refl _ _) _⟩
  refine ret_bool ?_
  rw [Bool.eq_iff_iff]
  simp [Lib.toList_data]
set_option maxHeartbeats 4000000 in
set_option maxRecDepth 1000000 in
theorem indexA (fb : Nat) (nm : ByteArray) (A : Option Addr) (c : Nat) (l : List S29) (w : World) (hC : Kd.C k29 w A l.length l) (hc : l.length ≤ c) (hcell : w.cell? ⟨fb, 0, none⟩ = some (.string nm)) :
    Calls Tryd.prog 5 #[.slice A l.length c, .func (.func 11) #[] #[.pointer (some ⟨fb, 0, none⟩)]] w fun e w' => e = .returned (.int .i64 (placeOf nm 0 l)) ∧ Below w.heap.size w w' := by
  have HC := Lib.hid hC
  have HCC := Lib.hid hc
  have HCE := Lib.hid hcell
  have HM := Lib.hid (cloA_ok fb nm)
  have hl64 : l.length ≤ 9223372036854775807 := hC.2.1
  have hfb : fb < w.heap.size := by
    rcases Nat.lt_or_ge fb w.heap.size with h | h
    · exact h
    · simp [World.cell?, Array.getElem?_eq_none h] at hcell
  clear hC hc hcell
  have hu24 := Tryd.underlying24
  have hu29 := Tryd.underlying29
  go_enter Tryd.func5, Tryd.ntmps5
  go_wp2_with fail
  go_loopw [8] (fun i wr => ∃ j : Nat, j ≤ l.length ∧ i = .int .i64 j ∧ Below w.heap.size w wr ∧ placeOf nm 0 l = placeOf nm j (l.drop j)) (fun i _ => l.length - (intOf i).toNat)
  case atStart => exact ⟨0, by omega, rfl, Below.refl _ _, rfl⟩
  case round =>
    obtain ⟨j, hj, rfl, hb, hp⟩ := hrel
    have HB := Lib.hid hb
    have HP := Lib.hid hp
    clear hb hp
    by_cases hlt : j < l.length
    · obtain ⟨ad, A6, c6, hA, x0, x1, x2, x3, x4, x5, x6, hl6, hC6⟩ := at_T29 HC.out (j : Int) (by omega) (by omega)
      subst hA
      replace x0 := pw_cell_below HB.out x0
      replace x1 := pw_cell_below HB.out x1
      replace x2 := pw_cell_below HB.out x2
      replace x3 := pw_cell_below HB.out x3
      replace x4 := pw_cell_below HB.out x4
      replace x5 := pw_cell_below HB.out x5
      replace x6 := pw_cell_below HB.out x6
      rw [rd_get l j hlt] at x0 x1 x2 x3 x4 x5 x6 hl6 hC6
      have HST := Lib.hid (placeOf_step nm l j hlt)
      generalize l[j] = f at *
      have HC6 := Lib.hid hC6
      have HL6 := Lib.hid hl6
      have HCW := Lib.hid ((HB.out.cell (p := ⟨fb, 0, none⟩) hfb).trans HCE.out)
      clear hC6 hl6
      simp only [Int.toNat_natCast] at x0 x1 x2 x3 x4 x5 x6
      by_cases heq : lb f.f0 = lb nm
      · have HDE := Lib.hid (decide_eq_true heq)
        rw [if_pos heq] at HST
        clear heq
        go_wp2_with (go_at_call 11; refine (HM.out _ _ _ _ _ _ _ _ _ _ HCW.out).mono ?_; rw [HDE.out]; rintro e w1 ⟨rfl, hb1⟩; have HB1 := Lib.hid (HB.out.trans (hb1.mono HB.out.size)); clear hb1)
        go_ret
        exact ⟨by rw [HP.out, HST.out]; try rfl, HB1.out⟩
      · have HDE := Lib.hid (decide_eq_false heq)
        rw [if_neg heq] at HST
        clear heq
        go_wp2_with (go_at_call 11; refine (HM.out _ _ _ _ _ _ _ _ _ _ HCW.out).mono ?_; rw [HDE.out]; rintro e w1 ⟨rfl, hb1⟩; have HB1 := Lib.hid (HB.out.trans (hb1.mono HB.out.size)); clear hb1)
        go_roundw
        case rel => exact ⟨j + 1, by omega, by go_num, HB1.out, by rw [HP.out, HST.out]⟩
        case measure => simp [intOf]; omega
    · obtain rfl : j = l.length := by omega
      go_wp2_with fail
      go_ret
      exact ⟨by rw [HP.out, List.drop_length]; try rfl, HB.out⟩
set_option maxHeartbeats 4000000 in
set_option maxRecDepth 1000000 in
theorem indexB (fb : Nat) (nm : ByteArray) (A : Option Addr) (c : Nat) (l : List S29) (w : World) (hC : Kd.C k29 w A l.length l) (hc : l.length ≤ c) (hcell : w.cell? ⟨fb, 0, none⟩ = some (.string nm)) :
    Calls Tryd.prog 5 #[.slice A l.length c, .func (.func 6) #[] #[.pointer (some ⟨fb, 0, none⟩)]] w fun e w' => e = .returned (.int .i64 (placeOf nm 0 l)) ∧ Below w.heap.size w w' := by
  have HC := Lib.hid hC
  have HCC := Lib.hid hc
  have HCE := Lib.hid hcell
  have HM := Lib.hid (cloB_ok fb nm)
  have hl64 : l.length ≤ 9223372036854775807 := hC.2.1
  have hfb : fb < w.heap.size := by
    rcases Nat.lt_or_ge fb w.heap.size with h | h
    · exact h
    · simp [World.cell?, Array.getElem?_eq_none h] at hcell
  clear hC hc hcell
  have hu24 := Tryd.underlying24
  have hu29 := Tryd.underlying29
  go_enter Tryd.func5, Tryd.ntmps5
  go_wp2_with fail
  go_loopw [8] (fun i wr => ∃ j : Nat, j ≤ l.length ∧ i = .int .i64 j ∧ Below w.heap.size w wr ∧ placeOf nm 0 l = placeOf nm j (l.drop j)) (fun i _ => l.length - (intOf i).toNat)
  case atStart => exact ⟨0, by omega, rfl, Below.refl _ _, rfl⟩
  case round =>
    obtain ⟨j, hj, rfl, hb, hp⟩ := hrel
    have HB := Lib.hid hb
    have HP := Lib.hid hp
    clear hb hp
    by_cases hlt : j < l.length
    · obtain ⟨ad, A6, c6, hA, x0, x1, x2, x3, x4, x5, x6, hl6, hC6⟩ := at_T29 HC.out (j : Int) (by omega) (by omega)
      subst hA
      replace x0 := pw_cell_below HB.out x0
      replace x1 := pw_cell_below HB.out x1
      replace x2 := pw_cell_below HB.out x2
      replace x3 := pw_cell_below HB.out x3
      replace x4 := pw_cell_below HB.out x4
      replace x5 := pw_cell_below HB.out x5
      replace x6 := pw_cell_below HB.out x6
      rw [rd_get l j hlt] at x0 x1 x2 x3 x4 x5 x6 hl6 hC6
      have HST := Lib.hid (placeOf_step nm l j hlt)
      generalize l[j] = f at *
      have HC6 := Lib.hid hC6
      have HL6 := Lib.hid hl6
      have HCW := Lib.hid ((HB.out.cell (p := ⟨fb, 0, none⟩) hfb).trans HCE.out)
      clear hC6 hl6
      simp only [Int.toNat_natCast] at x0 x1 x2 x3 x4 x5 x6
      by_cases heq : lb f.f0 = lb nm
      · have HDE := Lib.hid (decide_eq_true heq)
        rw [if_pos heq] at HST
        clear heq
        go_wp2_with (go_at_call 6; refine (HM.out _ _ _ _ _ _ _ _ _ _ HCW.out).mono ?_; rw [HDE.out]; rintro e w1 ⟨rfl, hb1⟩; have HB1 := Lib.hid (HB.out.trans (hb1.mono HB.out.size)); clear hb1)
        go_ret
        exact ⟨by rw [HP.out, HST.out]; try rfl, HB1.out⟩
      · have HDE := Lib.hid (decide_eq_false heq)
        rw [if_neg heq] at HST
        clear heq
        go_wp2_with (go_at_call 6; refine (HM.out _ _ _ _ _ _ _ _ _ _ HCW.out).mono ?_; rw [HDE.out]; rintro e w1 ⟨rfl, hb1⟩; have HB1 := Lib.hid (HB.out.trans (hb1.mono HB.out.size)); clear hb1)
        go_roundw
        case rel => exact ⟨j + 1, by omega, by go_num, HB1.out, by rw [HP.out, HST.out]⟩
        case measure => simp [intOf]; omega
    · obtain rfl : j = l.length := by omega
      go_wp2_with fail
      go_ret
      exact ⟨by rw [HP.out, List.drop_length]; try rfl, HB.out⟩
theorem R_lowcell {α : Type} {d : Kd α} {e base : Nat} {ok : Nat → Prop} {w : World} {v : Value} {xs : List α} (h : d.R e w base ok v xs) {p : Addr} (hp : p.block < base) (u : Value) : d.R e (w.setCell p u) base ok v xs :=
  Kd.R_mono (Kd.R_far (Kd.R_bound h) (fun k hk => by have := hk.2.1; omega) u) (fun k hk => hk.1)
/-- The type of the first part with a name; the empty type. -/
def partR (nm : ByteArray) (l : List S29) : S24g S29 := if 0 ≤ placeOf nm 0 l then (rd_T29 l (placeOf nm 0 l)).f1 else ⟨0, ⟨#[]⟩, 0, 0, ⟨#[]⟩, []⟩
/-- A type was returned that reads as r. -/
def PartPost (r : S24g S29) (ok : Bool) (w : World) (e : Ending) (w' : World) : Prop := ∃ A7 c7, e = .returned (.tuple #[.agg #[.int .i64 r.f0, .string r.f1, .int .i64 r.f2, .int .i64 r.f3, .string r.f4, .slice A7 r.f5.length c7], .bool ok]) ∧ r.f5.length ≤ c7 ∧ Kd.C k29 w' A7 r.f5.length r.f5 ∧ Below w.heap.size w w'
set_option maxHeartbeats 8000000 in
set_option maxRecDepth 1000000 in
theorem part_any (x : S24g S29) (nm : ByteArray) (A : Option Addr) (c : Nat) (w : World) (hs : szV x ≤ 1000000000000) (hC : Kd.C k29 w A x.f5.length x.f5) (hc : x.f5.length ≤ c) :
    Calls Tryd.prog 4 #[.agg #[.int .i64 x.f0, .string x.f1, .int .i64 x.f2, .int .i64 x.f3, .string x.f4, .slice A x.f5.length c], .string nm] w (PartPost (partR nm x.f5) (decide (0 ≤ placeOf nm 0 x.f5)) w) := by
  have HC := Lib.hid hC
  have HCC := Lib.hid hc
  have HS := Lib.hid hs
  clear hC hc hs
  have hu24 := Tryd.underlying24
  have hu29 := Tryd.underlying29
  go_enter Tryd.func4, Tryd.ntmps4
  go_wp2_with fail
  obtain ⟨gb, hgb⟩ : ∃ gb, gb = w.heap.size := ⟨_, rfl⟩
  obtain ⟨w2, hw2⟩ : ∃ w2, w2 = ((w.alloc (.cells #[.int .i64 x.f0, .string x.f1, .int .i64 x.f2, .int .i64 x.f3, .string x.f4, .slice A x.f5.length c] 24)).alloc (.cells #[.string nm] 9)).alloc (.cells #[.int .i64 0, .string ⟨#[]⟩, .int .i64 0, .int .i64 0, .string ⟨#[]⟩, .slice none 0 0] 24) := ⟨_, rfl⟩
  rw [← hgb, ← hw2]
  have HB2 := Lib.hid (show Below w.heap.size w w2 by rw [hw2]; exact blw_alloc (blw_alloc (blw_alloc (Below.refl _ _) _) _) _)
  have hz2 : w2.heap.size = gb + 3 := by rw [hw2, hgb]; simp
  have blkT : w2.heap[gb]? = some (.cells #[.int .i64 x.f0, .string x.f1, .int .i64 x.f2, .int .i64 x.f3, .string x.f4, .slice A x.f5.length c] 24 (0, 0)) := by
    rw [hw2, hgb]; exact (Below.heap_alloc _ _ _ (by simp; omega)).trans ((Below.heap_alloc _ _ _ (by simp)).trans (heap_alloc_new w _))
  have blkN : w2.heap[gb + 1]? = some (.cells #[.string nm] 9 (0, 0)) := by
    have h1 := heap_alloc_new (w.alloc (.cells #[.int .i64 x.f0, .string x.f1, .int .i64 x.f2, .int .i64 x.f3, .string x.f4, .slice A x.f5.length c] 24)) (.cells #[.string nm] 9)
    rw [hw2, hgb]; exact (Below.heap_alloc _ _ _ (by simp)).trans (by simpa using h1)
  have blkR : w2.heap[gb + 2]? = some (.cells #[.int .i64 0, .string ⟨#[]⟩, .int .i64 0, .int .i64 0, .string ⟨#[]⟩, .slice none 0 0] 24 (0, 0)) := by
    have h1 := heap_alloc_new ((w.alloc (.cells #[.int .i64 x.f0, .string x.f1, .int .i64 x.f2, .int .i64 x.f3, .string x.f4, .slice A x.f5.length c] 24)).alloc (.cells #[.string nm] 9)) (.cells #[.int .i64 0, .string ⟨#[]⟩, .int .i64 0, .int .i64 0, .string ⟨#[]⟩, .slice none 0 0] 24)
    rw [hw2, hgb]; simpa using h1
  have HGB := Lib.hid hgb
  clear hw2 hgb
  go_at_call 5
  refine (indexA (gb + 1) nm A c x.f5 _ (Kd.C_below HC.out HB2.out) HCC.out ((blk_cell blkN 0).trans rfl)).mono ?_
  rintro e w3 ⟨rfl, hb3⟩
  have blkT3 := (hb3.block gb (by omega)).trans blkT
  have blkR3 := (hb3.block (gb + 2) (by omega)).trans blkR
  have HB3 := Lib.hid (show Below gb w w3 by rw [HGB.out]; exact HB2.out.trans (hb3.mono (by rw [← HGB.out]; omega)))
  clear blkT blkN blkR hb3 hz2 HB2
  have hpl := placeOf_lt nm x.f5 0
  by_cases hp : 0 ≤ placeOf nm 0 x.f5
  · have HPR : Hid (partR nm x.f5 = (rd_T29 x.f5 (placeOf nm 0 x.f5)).f1) := Lib.hid (by unfold partR; rw [if_pos hp])
    have HOK := Lib.hid (decide_eq_true hp)
    have hl64 : x.f5.length ≤ 9223372036854775807 := HC.out.2.1
    obtain ⟨j, hj⟩ : ∃ j : Nat, placeOf nm 0 x.f5 = j := ⟨_, (Int.toNat_of_nonneg hp).symm⟩
    rw [hj] at hpl HPR ⊢
    have hlt : j < x.f5.length := by omega
    obtain ⟨ad, A6, c6, hA, x0, x1, x2, x3, x4, x5, x6, hl6, hC6⟩ := at_T29 HC.out (j : Int) (by omega) (by omega)
    subst hA
    rw [rd_get x.f5 j hlt] at x0 x1 x2 x3 x4 x5 x6 hl6 hC6 HPR
    have HSF := Lib.hid (szFs_mem (List.getElem_mem hlt))
    generalize x.f5[j] = f at *
    simp only [Int.toNat_natCast] at x0 x1 x2 x3 x4 x5 x6
    have HB3w := Lib.hid (HGB.out ▸ HB3.out : Below w.heap.size w w3)
    have HCF := Lib.hid (Kd.C_below hC6 HB3w.out)
    replace x1 := pw_cell_below HB3w.out x1
    replace x2 := pw_cell_below HB3w.out x2
    replace x3 := pw_cell_below HB3w.out x3
    replace x4 := pw_cell_below HB3w.out x4
    replace x5 := pw_cell_below HB3w.out x5
    replace x6 := pw_cell_below HB3w.out x6
    have HL6 := Lib.hid hl6
    clear x0 hC6 hl6 hpl
    have t5 := (blk_cell blkT3 5).trans rfl
    have hj0 : (0 : Int) ≤ (j : Int) := by omega
    have hj1 : (j : Int) < (x.f5.length : Int) := by omega
    have hd0 : decide ((j : Int) < 0) = false := decide_eq_false (by omega)
    have hsz : szV f.f1 ≤ 1000000000000 := by have := HSF.out; have := HS.out; rw [szV_eq] at this; rw [szF_eq] at *; omega
    have HSZ := Lib.hid hsz
    clear hp hsz hj hlt
    go_wp2_with fail
    go_at_call 9
    refine (copy_any _ f.f1 A6 c6 _ (Nat.le_refl _) HSZ.out HCF.out HL6.out).mono ?_
    rintro e w4 ⟨v3, rfl, hR, hb4⟩
    obtain ⟨A7, c7, rfl, hc7, hC7⟩ := Kd.R_reads hR
    have blkR4 := (hb4.block (gb + 2) (blk_lt blkR3)).trans blkR3
    have hgw : gb ≤ w3.heap.size := by have := blk_lt blkR3; omega
    have HB4 := Lib.hid (HB3.out.trans (hb4.mono hgw))
    have HC7 := Lib.hid hC7
    have HR := Lib.hid hR
    have HC7c := Lib.hid hc7
    have hg4 : gb + 2 < w3.heap.size := blk_lt blkR3
    clear blkT3 blkR3 hb4 hC7 hc7 hR hgw x1 x2 x3 x4 x5 x6 t5
    generalize f.f1 = r at *
    have f0 := blk_frozen blkR4 0
    have f1 := blk_frozen blkR4 1
    have f2 := blk_frozen blkR4 2
    have f3 := blk_frozen blkR4 3
    have f4 := blk_frozen blkR4 4
    have f5 := blk_frozen blkR4 5
    have b0 := (blk_cell blkR4 0).trans rfl
    have b1 := (blk_cell blkR4 1).trans rfl
    have b2 := (blk_cell blkR4 2).trans rfl
    have b3 := (blk_cell blkR4 3).trans rfl
    have b4 := (blk_cell blkR4 4).trans rfl
    have b5 := (blk_cell blkR4 5).trans rfl
    go_wp2_with fail
    obtain ⟨wf, hwf⟩ : ∃ wf, wf = ((((((w4.setCell ⟨gb + 2, 0, none⟩ (.int .i64 r.f0)).setCell ⟨gb + 2, 1, none⟩ (.string r.f1)).setCell ⟨gb + 2, 2, none⟩ (.int .i64 r.f2)).setCell ⟨gb + 2, 3, none⟩ (.int .i64 r.f3)).setCell ⟨gb + 2, 4, none⟩ (.string r.f4)).setCell ⟨gb + 2, 5, none⟩ (.slice A7 r.f5.length c7)) := ⟨_, rfl⟩
    rw [← hwf]
    have hblk : wf.heap[gb + 2]? = some (.cells #[.int .i64 r.f0, .string r.f1, .int .i64 r.f2, .int .i64 r.f3, .string r.f4, .slice A7 r.f5.length c7] 24 (0, 0)) := by
      rw [hwf]; exact (blk_set (blk_set (blk_set (blk_set (blk_set (blk_set blkR4 0 _) 1 _) 2 _) 3 _) 4 _) 5 _).trans rfl
    have hbel : Below gb w wf := by rw [hwf]; exact ((((((HB4.out.setCell (p := ⟨gb + 2, 0, none⟩) (by show gb ≤ gb + 2; omega) _).setCell (p := ⟨gb + 2, 1, none⟩) (by show gb ≤ gb + 2; omega) _).setCell (p := ⟨gb + 2, 2, none⟩) (by show gb ≤ gb + 2; omega) _).setCell (p := ⟨gb + 2, 3, none⟩) (by show gb ≤ gb + 2; omega) _).setCell (p := ⟨gb + 2, 4, none⟩) (by show gb ≤ gb + 2; omega) _).setCell (p := ⟨gb + 2, 5, none⟩) (by show gb ≤ gb + 2; omega) _)
    have d0 := (blk_cell hblk 0).trans rfl
    have d1 := (blk_cell hblk 1).trans rfl
    have d2 := (blk_cell hblk 2).trans rfl
    have d3 := (blk_cell hblk 3).trans rfl
    have d4 := (blk_cell hblk 4).trans rfl
    have d5 := (blk_cell hblk 5).trans rfl
    have hRf : Kd.R k29 29 wf w3.heap.size (fun _ => True) (.slice A7 r.f5.length c7) r.f5 := by
      rw [hwf]; exact (R_lowcell (R_lowcell (R_lowcell (R_lowcell (R_lowcell (R_lowcell HR.out (p := ⟨gb + 2, 0, none⟩) hg4 _) (p := ⟨gb + 2, 1, none⟩) hg4 _) (p := ⟨gb + 2, 2, none⟩) hg4 _) (p := ⟨gb + 2, 3, none⟩) hg4 _) (p := ⟨gb + 2, 4, none⟩) hg4 _) (p := ⟨gb + 2, 5, none⟩) hg4 _)
    obtain ⟨A8, c8, e8, h8, hC8⟩ := Kd.R_reads hRf
    injection e8 with e8 _ e9
    subst e8 e9
    exact bodyPost_ret (v := .tuple #[.agg #[.int .i64 r.f0, .string r.f1, .int .i64 r.f2, .int .i64 r.f3, .string r.f4, .slice A7 r.f5.length c7], .bool true]) (by simp [results, Tryd.results4, go_sem, d0, d1, d2, d3, d4, d5, hu24]) rfl (by rw [HPR.out, HOK.out]; exact ⟨A7, c7, rfl, h8, hC8, HGB.out ▸ hbel⟩)
  · have HPR : Hid (partR nm x.f5 = ⟨0, ⟨#[]⟩, 0, 0, ⟨#[]⟩, []⟩) := Lib.hid (by unfold partR; rw [if_neg hp])
    have HOK := Lib.hid (decide_eq_false hp)
    have hd0 : decide (placeOf nm 0 x.f5 < 0) = true := decide_eq_true (by omega)
    clear hp hpl
    have f0 := blk_frozen blkR3 0
    have f1 := blk_frozen blkR3 1
    have f2 := blk_frozen blkR3 2
    have f3 := blk_frozen blkR3 3
    have f4 := blk_frozen blkR3 4
    have f5 := blk_frozen blkR3 5
    have b0 := (blk_cell blkR3 0).trans rfl
    have b1 := (blk_cell blkR3 1).trans rfl
    have b2 := (blk_cell blkR3 2).trans rfl
    have b3 := (blk_cell blkR3 3).trans rfl
    have b4 := (blk_cell blkR3 4).trans rfl
    have b5 := (blk_cell blkR3 5).trans rfl
    clear blkT3
    go_wp2_with fail
    obtain ⟨wf, hwf⟩ : ∃ wf, wf = ((((((w3.setCell ⟨gb + 2, 0, none⟩ (.int .i64 0)).setCell ⟨gb + 2, 1, none⟩ (.string ⟨#[]⟩)).setCell ⟨gb + 2, 2, none⟩ (.int .i64 0)).setCell ⟨gb + 2, 3, none⟩ (.int .i64 0)).setCell ⟨gb + 2, 4, none⟩ (.string ⟨#[]⟩)).setCell ⟨gb + 2, 5, none⟩ (.slice none 0 0)) := ⟨_, rfl⟩
    rw [← hwf]
    have hblk : wf.heap[gb + 2]? = some (.cells #[.int .i64 0, .string ⟨#[]⟩, .int .i64 0, .int .i64 0, .string ⟨#[]⟩, .slice none 0 0] 24 (0, 0)) := by
      rw [hwf]; exact (blk_set (blk_set (blk_set (blk_set (blk_set (blk_set blkR3 0 _) 1 _) 2 _) 3 _) 4 _) 5 _).trans rfl
    have hbel : Below gb w wf := by rw [hwf]; exact ((((((HB3.out.setCell (p := ⟨gb + 2, 0, none⟩) (by show gb ≤ gb + 2; omega) _).setCell (p := ⟨gb + 2, 1, none⟩) (by show gb ≤ gb + 2; omega) _).setCell (p := ⟨gb + 2, 2, none⟩) (by show gb ≤ gb + 2; omega) _).setCell (p := ⟨gb + 2, 3, none⟩) (by show gb ≤ gb + 2; omega) _).setCell (p := ⟨gb + 2, 4, none⟩) (by show gb ≤ gb + 2; omega) _).setCell (p := ⟨gb + 2, 5, none⟩) (by show gb ≤ gb + 2; omega) _)
    have d0 := (blk_cell hblk 0).trans rfl
    have d1 := (blk_cell hblk 1).trans rfl
    have d2 := (blk_cell hblk 2).trans rfl
    have d3 := (blk_cell hblk 3).trans rfl
    have d4 := (blk_cell hblk 4).trans rfl
    have d5 := (blk_cell hblk 5).trans rfl
    exact bodyPost_ret (v := .tuple #[.agg #[.int .i64 0, .string ⟨#[]⟩, .int .i64 0, .int .i64 0, .string ⟨#[]⟩, .slice none 0 0], .bool false]) (by simp [results, Tryd.results4, go_sem, d0, d1, d2, d3, d4, d5, hu24]) rfl (by rw [HPR.out, HOK.out]; exact ⟨none, 0, rfl, Nat.le_refl _, Kd.C_nil _ _, HGB.out ▸ hbel⟩)
end Go.Proofs.YtaalehglichejaaDoor.PTy
