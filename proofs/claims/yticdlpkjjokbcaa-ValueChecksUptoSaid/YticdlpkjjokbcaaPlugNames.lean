/- Contract of value.names (over slices.ContainsFunc with a closure), in the print's form. No statement is proved here. -/
import Derived.Test.YticdlpkjjokbcaaPlugName
import Derived.Test.YticdlpkjjokbcaaValWords
import Derived.Lib.Walk
import Derived.Lib.SliceRun
namespace Go.Proofs.Yticdlpkjjokbcaa.PVal
open Go.RowKit Go.Proofs.YticdlpkjjokbcaaW.PrintWords Go.Proofs.YticdlpkjjokbcaaW.PrintLast
set_option linter.unusedVariables false
set_option linter.unusedSimpArgs false
/-- The place of the first field with a name, or -1. -/
def placeOf (nm : ByteArray) : Nat → List S36 → Int
  | _, [] => -1
  | j, f :: t => if lb f.f0 = lb nm then (j : Int) else placeOf nm (j + 1) t
theorem placeOf_lo (nm : ByteArray) (l : List S36) : ∀ j, (0 ≤ placeOf nm j l ↔ ∃ f ∈ l, lb f.f0 = lb nm) := by
  induction l with
  | nil => intro j; simp [placeOf]
  | cons f t ih =>
    intro j
    unfold placeOf
    by_cases h : lb f.f0 = lb nm
    · rw [if_pos h]; exact ⟨fun _ => ⟨f, List.mem_cons_self, h⟩, fun _ => by omega⟩
    · rw [if_neg h, ih]
      exact ⟨fun ⟨g, hg, e⟩ => ⟨g, List.mem_cons_of_mem _ hg, e⟩, fun ⟨g, hg, e⟩ => by
        rcases List.mem_cons.1 hg with q | q
        · rw [q] at e; exact absurd e h
        · exact ⟨g, q, e⟩⟩
theorem placeOf_lt (nm : ByteArray) (l : List S36) (j : Nat) : -1 ≤ placeOf nm j l := by
  induction l generalizing j with
  | nil => simp [placeOf]
  | cons f t ih => unfold placeOf; split <;> first | omega | exact ih _
theorem placeOf_step (nm : ByteArray) (l : List S36) (j : Nat) (h : j < l.length) : placeOf nm j (l.drop j) = if lb l[j].f0 = lb nm then (j : Int) else placeOf nm (j + 1) (l.drop (j + 1)) := by
  rw [List.drop_eq_getElem_cons h]; rfl
theorem rd_get (l : List S36) (j : Nat) (h : j < l.length) : rd_T36 l (j : Int) = l[j] := by simp [rd_T36, List.getD_eq_getElem?_getD, List.getElem?_eq_getElem h]
set_option maxHeartbeats 4000000 in
set_option maxRecDepth 1000000 in
theorem clo_any (fb : Nat) (nm s0 : ByteArray) (x y : Int) (s1 : ByteArray) (A : Option Addr) (n c : Nat) (w : World) (hcell : w.cell? ⟨fb, 0, none⟩ = some (.string nm)) :
    Calls Try.prog 26 #[.agg #[.string s0, .int .i64 x, .int .i64 y, .string s1, .slice A n c], .pointer (some ⟨fb, 0, none⟩)] w fun e w' => e = .returned (.bool (decide (lb s0 = lb nm))) ∧ Below w.heap.size w w' := by
  have hu24 := Try.underlying24
  have hu36 := Try.underlying36
  have hc2 := Lib.cell?_alloc_some (.cells #[.string s0, .int .i64 x, .int .i64 y, .string s1, .slice A n c] 36) hcell
  clear hcell
  go_enter Try.func26, Try.ntmps26
  go_wp2_with fail
  go_ret
  refine ⟨?_, blw_alloc (Below.refl _ _) _⟩
  refine ret_bool ?_
  rw [Bool.eq_iff_iff]
  simp [Lib.toList_data]
set_option maxHeartbeats 4000000 in
set_option maxRecDepth 1000000 in
theorem indexF (fb : Nat) (nm : ByteArray) (A : Option Addr) (c : Nat) (l : List S36) (w : World) (hC : Kd.C k36 w A l.length l) (hc : l.length ≤ c) (hcell : w.cell? ⟨fb, 0, none⟩ = some (.string nm)) :
    Calls Try.prog 28 #[.slice A l.length c, .func (.func 26) #[] #[.pointer (some ⟨fb, 0, none⟩)]] w fun e w' => e = .returned (.int .i64 (placeOf nm 0 l)) ∧ Below w.heap.size w w' := by
  have HC := Lib.hid hC
  have HCC := Lib.hid hc
  have HCE := Lib.hid hcell
  have hl64 : l.length ≤ 9223372036854775807 := hC.2.1
  have hfb : fb < w.heap.size := by
    rcases Nat.lt_or_ge fb w.heap.size with h | h
    · exact h
    · simp [World.cell?, Array.getElem?_eq_none h] at hcell
  clear hC hc hcell
  have hu24 := Try.underlying24
  have hu36 := Try.underlying36
  go_enter Try.func28, Try.ntmps28
  go_wp2_with fail
  go_loopw [8] (fun i wr => ∃ j : Nat, j ≤ l.length ∧ i = .int .i64 j ∧ Below w.heap.size w wr ∧ placeOf nm 0 l = placeOf nm j (l.drop j)) (fun i _ => l.length - (intOf i).toNat)
  case atStart => exact ⟨0, by omega, rfl, Below.refl _ _, rfl⟩
  case round =>
    obtain ⟨j, hj, rfl, hb, hp⟩ := hrel
    have HB := Lib.hid hb
    have HP := Lib.hid hp
    clear hb hp
    by_cases hlt : j < l.length
    · obtain ⟨ad, A4, c4, hA, x0, x1, x2, x3, x4, hl4, hC4⟩ := at_T36 HC.out (j : Int) (by omega) (by omega)
      subst hA
      replace x0 := pw_cell_below HB.out x0
      replace x1 := pw_cell_below HB.out x1
      replace x2 := pw_cell_below HB.out x2
      replace x3 := pw_cell_below HB.out x3
      replace x4 := pw_cell_below HB.out x4
      rw [rd_get l j hlt] at x0 x1 x2 x3 x4 hl4 hC4
      have HST := Lib.hid (placeOf_step nm l j hlt)
      generalize l[j] = f at *
      have HC4 := Lib.hid hC4
      have HL4 := Lib.hid hl4
      have HCW := Lib.hid ((HB.out.cell (p := ⟨fb, 0, none⟩) hfb).trans HCE.out)
      clear hC4 hl4
      simp only [Int.toNat_natCast] at x0 x1 x2 x3 x4
      by_cases heq : lb f.f0 = lb nm
      · have HDE := Lib.hid (decide_eq_true heq)
        rw [if_pos heq] at HST
        clear heq
        go_wp2_with (go_at_call 26; refine (clo_any fb nm _ _ _ _ _ _ _ _ HCW.out).mono ?_; rw [HDE.out]; rintro e w1 ⟨rfl, hb1⟩; have HB1 := Lib.hid (HB.out.trans (hb1.mono HB.out.size)); clear hb1)
        go_ret
        exact ⟨by rw [HP.out, HST.out]; try rfl, HB1.out⟩
      · have HDE := Lib.hid (decide_eq_false heq)
        rw [if_neg heq] at HST
        clear heq
        go_wp2_with (go_at_call 26; refine (clo_any fb nm _ _ _ _ _ _ _ _ HCW.out).mono ?_; rw [HDE.out]; rintro e w1 ⟨rfl, hb1⟩; have HB1 := Lib.hid (HB.out.trans (hb1.mono HB.out.size)); clear hb1)
        go_roundw
        case rel => exact ⟨j + 1, by omega, by go_num, HB1.out, by rw [HP.out, HST.out]⟩
        case measure => simp [intOf]; omega
    · obtain rfl : j = l.length := by omega
      go_wp2_with fail
      go_ret
      exact ⟨by rw [HP.out, List.drop_length]; try rfl, HB.out⟩
theorem containsF (fb : Nat) (nm : ByteArray) (A : Option Addr) (c : Nat) (l : List S36) (w : World) (hC : Kd.C k36 w A l.length l) (hc : l.length ≤ c) (hcell : w.cell? ⟨fb, 0, none⟩ = some (.string nm)) :
    Calls Try.prog 25 #[.slice A l.length c, .func (.func 26) #[] #[.pointer (some ⟨fb, 0, none⟩)]] w fun e w' => e = .returned (.bool (decide (0 ≤ placeOf nm 0 l))) ∧ Below w.heap.size w w' := by
  go_enter Try.func25, Try.ntmps25
  go_wp2_with (go_at_call 28; refine (indexF fb nm A c l _ hC hc hcell).mono ?_; rintro e w1 ⟨rfl, hb⟩)
  go_ret
  exact ⟨rfl, hb⟩
def namesGo (l : List S36) : Nat → List S36 → Int
  | _, [] => 0
  | j, f :: t => if nameB f.f0 then (if 0 ≤ placeOf f.f0 0 (l.take j) then 5 else namesGo l (j + 1) t) else 15
theorem namesGo_step (l : List S36) (j : Nat) (h : j < l.length) : namesGo l j (l.drop j) = if nameB l[j].f0 then (if 0 ≤ placeOf l[j].f0 0 (l.take j) then 5 else namesGo l (j + 1) (l.drop (j + 1))) else 15 := by
  rw [List.drop_eq_getElem_cons h]; rfl
set_option maxHeartbeats 4000000 in
set_option maxRecDepth 1000000 in
theorem names_any (A : Option Addr) (c : Nat) (l : List S36) (w : World) (hC : Kd.C k36 w A l.length l) (hc : l.length ≤ c) :
    Calls Try.prog 21 #[.slice A l.length c] w fun e w' => e = .returned (.int .i64 (namesGo l 0 l)) ∧ Below w.heap.size w w' := by
  have HC := Lib.hid hC
  have HCC := Lib.hid hc
  have hl64 : l.length ≤ 9223372036854775807 := hC.2.1
  clear hC hc
  have hu24 := Try.underlying24
  have hu36 := Try.underlying36
  go_enter Try.func21, Try.ntmps21
  go_wp2_with fail
  go_loopw [7] (fun i wr => ∃ j : Nat, j ≤ l.length ∧ i = .int .i64 j ∧ Below w.heap.size w wr ∧ namesGo l 0 l = namesGo l j (l.drop j)) (fun i _ => l.length - (intOf i).toNat)
  case atStart => exact ⟨0, by omega, rfl, Below.refl _ _, rfl⟩
  case round =>
    obtain ⟨j, hj, rfl, hb, hp⟩ := hrel
    have HB := Lib.hid hb
    have HP := Lib.hid hp
    clear hb hp
    by_cases hlt : j < l.length
    · obtain ⟨ad, A4, c4, hA, x0, x1, x2, x3, x4, hl4, hC4⟩ := at_T36 HC.out (j : Int) (by omega) (by omega)
      subst hA
      replace x0 := pw_cell_below HB.out x0
      replace x1 := pw_cell_below HB.out x1
      replace x2 := pw_cell_below HB.out x2
      replace x3 := pw_cell_below HB.out x3
      replace x4 := pw_cell_below HB.out x4
      rw [rd_get l j hlt] at x0 x1 x2 x3 x4 hl4 hC4
      have HST := Lib.hid (namesGo_step l j hlt)
      have htl : (l.take j).length = j := by rw [List.length_take]; omega
      have HTK : Hid (Kd.C k36 w (some ad) j (l.take j)) := Lib.hid (by have := Kd.C_take HC.out (m := j) (by omega); rwa [htl] at this)
      generalize l[j] = f at *
      clear hC4 hl4
      simp only [Int.toNat_natCast] at x0 x1 x2 x3 x4
      go_wp2_with fail
      obtain ⟨eb, heb⟩ : ∃ eb, eb = wr.heap.size := ⟨_, rfl⟩
      obtain ⟨wx, hwx⟩ : ∃ wx, wx = wr.alloc (.cells #[.string f.f0, .int .i64 f.f1.f0, .int .i64 f.f1.f1, .string f.f1.f2, .slice A4 f.f1.f3.length c4] 36) := ⟨_, rfl⟩
      rw [← heb, ← hwx]
      have HE := Lib.hid (show wx.heap[eb]? = some (.cells #[.string f.f0, .int .i64 f.f1.f0, .int .i64 f.f1.f1, .string f.f1.f2, .slice A4 f.f1.f3.length c4] 36 (0, 0)) by rw [hwx, heb]; exact heap_alloc_new wr _)
      have HB := Lib.hid (HB.out.trans (show Below w.heap.size wr wx by rw [hwx]; exact (blw_alloc (Below.refl _ _) _).mono HB.out.size))
      clear heb hwx x0 x1 x2 x3 x4
      by_cases hn : nameB f.f0 = true
      · rw [if_pos hn] at HST
        go_at_call 24
        refine (name_any f.f0 wx).mono ?_
        rw [hn]
        rintro e w1 ⟨rfl, hb1⟩
        have HE := Lib.hid ((hb1.block eb (blk_lt HE.out)).trans HE.out)
        have HB := Lib.hid (HB.out.trans (hb1.mono HB.out.size))
        have hjc : j ≤ c := by have := HCC.out; omega
        clear hb1 hn
        go_wp2_with fail
        go_at_call 25
        refine (show Calls Try.prog 25 #[.slice (some ad) j c, .func (.func 26) #[] #[.pointer (some ⟨eb, 0, none⟩)]] w1 (fun e w' => e = .returned (.bool (decide (0 ≤ placeOf f.f0 0 (l.take j)))) ∧ Below w1.heap.size w1 w') by
          have := containsF eb f.f0 (some ad) c (l.take j) w1 (by rw [htl]; exact Kd.C_below HTK.out HB.out) (by omega) ((blk_cell HE.out 0).trans rfl)
          rwa [htl] at this).mono ?_
        by_cases hp : 0 ≤ placeOf f.f0 0 (l.take j)
        · rw [if_pos hp] at HST
          rw [decide_eq_true hp]
          rintro e w2 ⟨rfl, hb2⟩
          have HB := Lib.hid (HB.out.trans (hb2.mono HB.out.size))
          clear hb2 hp
          go_wp2_with fail
          go_ret
          exact ⟨by rw [HP.out, HST.out]; try rfl, HB.out⟩
        · rw [if_neg hp] at HST
          rw [decide_eq_false hp]
          rintro e w2 ⟨rfl, hb2⟩
          have HB := Lib.hid (HB.out.trans (hb2.mono HB.out.size))
          clear hb2 hp
          go_wp2_with fail
          go_roundw
          case rel => exact ⟨j + 1, by omega, by go_num, HB.out, by rw [HP.out, HST.out]⟩
          case measure => simp [intOf]; omega
      · rw [if_neg hn] at HST
        rw [Bool.not_eq_true] at hn
        go_at_call 24
        refine (name_any f.f0 wx).mono ?_
        rw [hn]
        rintro e w1 ⟨rfl, hb1⟩
        have HB := Lib.hid (HB.out.trans (hb1.mono HB.out.size))
        clear hb1 hn
        go_wp2_with fail
        go_ret
        exact ⟨by rw [HP.out, HST.out]; try rfl, HB.out⟩
    · obtain rfl : j = l.length := by omega
      go_wp2_with fail
      go_ret
      exact ⟨by rw [HP.out, List.drop_length]; try rfl, HB.out⟩
def value_names.f (l0 : List S36) : Option Int := some (namesGo l0 0 l0)
theorem value_names.calls (A0 : Option Addr) (c0 : Nat) (l0 : List S36) (r : Int) (w : World) (hr0 : Kd.C k36 w A0 l0.length l0) (hc0 : l0.length ≤ c0) (h : value_names.f l0 = some r) :
    Calls Try.prog 21 #[.slice A0 l0.length c0] w fun e w' => e = .returned (.int .i64 r) ∧ Below w.heap.size w w' := by
  injection h with h
  subst h
  exact names_any A0 c0 l0 w hr0 hc0
end Go.Proofs.Yticdlpkjjokbcaa.PVal
