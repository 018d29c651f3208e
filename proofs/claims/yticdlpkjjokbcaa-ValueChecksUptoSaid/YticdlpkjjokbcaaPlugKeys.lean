/- Contract of value.keys, in the print's form. No statement is proved here. -/
import Derived.Test.YticdlpkjjokbcaaPlugNames
import Derived.Lib.MinMaxS
namespace Go.Proofs.Yticdlpkjjokbcaa.PVal
open Go.RowKit Go.Proofs.YticdlpkjjokbcaaW.PrintWords Go.Proofs.YticdlpkjjokbcaaW.PrintLast
set_option linter.unusedVariables false
set_option linter.unusedSimpArgs false
theorem le_tot (x y : List UInt8) : (decide (x < y) || x == y) = !decide (y < x) := by
  rw [Bool.eq_iff_iff]
  simp only [Bool.or_eq_true, decide_eq_true_eq, beq_iff_eq, Bool.not_eq_true', decide_eq_false_iff_not]
  constructor
  · rintro (h | rfl)
    · exact fun h2 => List.lt_irrefl _ (List.lt_trans h h2)
    · exact List.lt_irrefl _
  · intro h
    rcases Decidable.em (x < y) with h1 | h1
    · exact .inl h1
    · exact .inr (List.le_antisymm (List.not_lt.1 h) (List.not_lt.1 h1))
theorem leq_run (a b : ByteArray) (w : World) : (binOp .leq 9 (.string a) (.string b)).run Try.prog w = .ok (.bool (!decide (lb b < lb a))) w := by
  rw [← le_tot]
  simp only [binOp, Op.stringOp, Proofs.bytesLess_eq, Lib.toList_data]
  simp [go_sem]
/-- What keys tells, from the place j on. -/
def keysGo (k : Int) (l : List S36) : Nat → List S36 → Int
  | _, [] => 0
  | j, f :: t => if k = 8 then (if f.f0.size = 0 then keysGo k l (j + 1) t else 3) else if 4000 < f.f0.size then 2 else if 0 < j ∧ ¬ lb (rd_T36 l ((j : Int) - 1)).f0 < lb f.f0 then 9 else keysGo k l (j + 1) t
theorem keysGo_step (k : Int) (l : List S36) (j : Nat) (h : j < l.length) : keysGo k l j (l.drop j) = if k = 8 then (if l[j].f0.size = 0 then keysGo k l (j + 1) (l.drop (j + 1)) else 3) else if 4000 < l[j].f0.size then 2 else if 0 < j ∧ ¬ lb (rd_T36 l ((j : Int) - 1)).f0 < lb l[j].f0 then 9 else keysGo k l (j + 1) (l.drop (j + 1)) := by
  rw [List.drop_eq_getElem_cons h]; rfl
theorem size_toList (s : ByteArray) : s.size = s.toList.length := by rw [Lib.toList_data]; exact (Array.length_toList ..).symm
structure YSt (w : World) (gb : Nat) (o : Obj) (wr : World) : Prop where
  bel : Below gb w wr
  blk : wr.heap[gb]? = some o
theorem YSt.then_ {w wr w1 : World} {gb : Nat} {o : Obj} (h : YSt w gb o wr) (k : Below wr.heap.size wr w1) : YSt w gb o w1 :=
  ⟨h.bel.trans (k.mono (by have := blk_lt h.blk; omega)), (k.block gb (blk_lt h.blk)).trans h.blk⟩
set_option maxHeartbeats 4000000 in
set_option maxRecDepth 1000000 in
theorem keys_any (k n : Int) (s : ByteArray) (A : Option Addr) (c : Nat) (l : List S36) (w : World) (hC : Kd.C k36 w A l.length l) (hc : l.length ≤ c) :
    Calls Try.prog 22 #[.agg #[.int .i64 k, .int .i64 n, .string s, .slice A l.length c]] w fun e w' => e = .returned (.int .i64 (keysGo k l 0 l)) ∧ Below w.heap.size w w' := by
  have HC := Lib.hid hC
  have HCC := Lib.hid hc
  have hl64 : l.length ≤ 9223372036854775807 := hC.2.1
  clear hC hc
  have hu24 := Try.underlying24
  have hu36 := Try.underlying36
  go_enter Try.func22, Try.ntmps22
  go_wp2_with fail
  obtain ⟨gb, hgb⟩ : ∃ gb, gb = w.heap.size := ⟨_, rfl⟩
  obtain ⟨w2, hw2⟩ : ∃ w2, w2 = (w.alloc (.cells #[.int .i64 k, .int .i64 n, .string s, .slice A l.length c] 24)) := ⟨_, rfl⟩
  rw [← hgb, ← hw2]
  have HS : Hid (YSt w gb (.cells #[.int .i64 k, .int .i64 n, .string s, .slice A l.length c] 24 (0, 0)) w2) := Lib.hid ⟨by rw [hw2, hgb]; exact blw_alloc (Below.refl _ _) _, by rw [hw2, hgb]; exact heap_alloc_new w _⟩
  have HGB := Lib.hid hgb
  clear hgb hw2
  go_loopw [8] (fun i wr => ∃ j : Nat, j ≤ l.length ∧ i = .int .i64 j ∧ YSt w gb (.cells #[.int .i64 k, .int .i64 n, .string s, .slice A l.length c] 24 (0, 0)) wr ∧ keysGo k l 0 l = keysGo k l j (l.drop j)) (fun i _ => l.length - (intOf i).toNat)
  case atStart => exact ⟨0, by omega, rfl, HS.out, rfl⟩
  case round =>
    obtain ⟨j, hj, rfl, hs, hp⟩ := hrel
    have HS := Lib.hid hs
    have HP := Lib.hid hp
    clear hs hp
    by_cases hlt : j < l.length
    · have hbw : Below w.heap.size w wr := HGB.out ▸ HS.out.bel
      obtain ⟨ad, A4, c4, hA, x0, x1, x2, x3, x4, hl4, hC4⟩ := at_T36 HC.out (j : Int) (by omega) (by omega)
      subst hA
      replace x0 := pw_cell_below hbw x0
      replace x1 := pw_cell_below hbw x1
      replace x2 := pw_cell_below hbw x2
      replace x3 := pw_cell_below hbw x3
      replace x4 := pw_cell_below hbw x4
      rw [rd_get l j hlt] at x0 x1 x2 x3 x4 hl4 hC4
      have HST := Lib.hid (keysGo_step k l j hlt)
      obtain ⟨p0, hp0⟩ : ∃ p0 : ByteArray, p0 = (rd_T36 l ((j : Int) - 1)).f0 := ⟨_, rfl⟩
      have y5 : Hid (0 < j → wr.cell? (ad.add ((j - 1) * 5)) = some (.string p0)) := Lib.hid (fun h0 => by
        obtain ⟨ad', A4, c4, hA, x0, _⟩ := at_T36 HC.out ((j : Int) - 1) (by omega) (by omega)
        injection hA with hA; subst hA
        have := pw_cell_below hbw x0
        rw [hp0]; rwa [show ((j : Int) - 1).toNat = j - 1 by omega] at this)
      rw [← hp0] at HST
      generalize l[j] = f at *
      clear hC4 hl4 hbw hp0
      simp only [Int.toNat_natCast] at x0 x1 x2 x3 x4
      obtain ⟨o, ho⟩ : ∃ o, o = Obj.cells #[.string f.f0, .int .i64 f.f1.f0, .int .i64 f.f1.f1, .string f.f1.f2, .slice A4 f.f1.f3.length c4] 36 (0, 0) := ⟨_, rfl⟩
      have hS1 := HS.out.then_ (show Below wr.heap.size wr (wr.alloc o) from blw_alloc (Below.refl _ _) _)
      have q0 := (blk_cell hS1.blk 0).trans rfl
      have q3 := (blk_cell hS1.blk 3).trans rfl
      have HS1 := Lib.hid hS1
      clear hS1
      subst ho
      by_cases hk : k = 8
      · have hk8 : (k == 8) = true := by simpa using hk
        rw [if_pos hk] at HST
        clear hk
        by_cases h0 : f.f0.size = 0
        · have he : f.f0.toList.isEmpty = true := by rw [List.isEmpty_iff_length_eq_zero, ← size_toList]; exact h0
          rw [if_pos h0] at HST
          clear h0
          go_wp2_with fail
          go_roundw
          case rel => exact ⟨j + 1, by omega, by go_num, HS1.out, by rw [HP.out, HST.out]⟩
          case measure => simp [intOf]; omega
        · have he : f.f0.toList.isEmpty = false := by rw [List.isEmpty_eq_false_iff_exists_mem]; rw [size_toList] at h0; exact List.exists_mem_of_length_pos (by omega)
          rw [if_neg h0] at HST
          clear h0
          go_wp2_with fail
          go_ret
          exact ⟨by rw [HP.out, HST.out]; try rfl, HGB.out ▸ HS1.out.bel⟩
      · have hk8 : (k == 8) = false := by simpa using hk
        rw [if_neg hk] at HST
        clear hk
        by_cases h0 : 4000 < f.f0.size
        · rw [if_pos h0] at HST
          go_wp2_with fail
          go_ret
          exact ⟨by rw [HP.out, HST.out]; try rfl, HGB.out ▸ HS1.out.bel⟩
        · rw [if_neg h0] at HST
          go_wp2_with fail
          rcases Nat.eq_zero_or_pos j with h1 | h1
          · subst h1
            rw [if_neg (by omega)] at HST
            generalize wr.alloc _ = wx at *
            clear x0 x1 x2 x3 x4
            go_quiet (fail)
            have HS2 := Lib.hid (show YSt w gb _ (wx.drewN nq) from ⟨blw_drewN HS1.out.bel nq, HS1.out.blk⟩)
            go_wp2_with fail
            go_roundw
            case rel => exact ⟨0 + 1, by omega, by go_num, HS2.out, by rw [HP.out, HST.out]⟩
            case measure => simp [intOf]; omega
          · have y5 := Lib.cell?_alloc_some (.cells #[.string f.f0, .int .i64 f.f1.f0, .int .i64 f.f1.f1, .string f.f1.f2, .slice A4 f.f1.f3.length c4] 36) (y5.out h1)
            have hw1 : IntKind.i64.wrap ((j : Int) - 1) = ((j - 1 : Nat) : Int) := by rw [IntKind.wrap_i64]; omega
            have hlt1 : j - 1 < l.length := by omega
            have qb := leq_run f.f0 p0
            have z0 : (wr.alloc (.cells #[.string f.f0, .int .i64 f.f1.f0, .int .i64 f.f1.f1, .string f.f1.f2, .slice A4 f.f1.f3.length c4] 36)).cell? ⟨wr.heap.size, 0, none⟩ = some (.string f.f0) := (blk_cell (heap_alloc_new wr _) 0).trans rfl
            generalize wr.alloc _ = wx at *
            clear x0 x1 x2 x3 x4
            by_cases h2 : lb p0 < lb f.f0
            · have HD := Lib.hid (decide_eq_true h2)
              simp only [HD.out] at qb
              rw [if_neg (fun q => q.2 h2)] at HST
              clear h2
              go_quiet (fail)
              have HS2 := Lib.hid (show YSt w gb _ (wx.drewN nq) from ⟨blw_drewN HS1.out.bel nq, HS1.out.blk⟩)
              go_wp2_with fail
              go_roundw
              case rel => exact ⟨j + 1, by omega, by go_num, HS2.out, by rw [HP.out, HST.out]⟩
              case measure => simp [intOf]; omega
            · have HD := Lib.hid (decide_eq_false h2)
              simp only [HD.out] at qb
              rw [if_pos ⟨h1, h2⟩] at HST
              clear h2
              go_quiet (fail)
              have HS2 := Lib.hid (show YSt w gb _ (wx.drewN nq) from ⟨blw_drewN HS1.out.bel nq, HS1.out.blk⟩)
              go_wp2_with fail
              go_ret
              exact ⟨by rw [HP.out, HST.out]; try rfl, HGB.out ▸ HS2.out.bel⟩
    · obtain rfl : j = l.length := by omega
      go_wp2_with fail
      go_ret
      exact ⟨by rw [HP.out, List.drop_length]; try rfl, HGB.out ▸ HS.out.bel⟩
def value_keys.f (a0_0 a0_1 : Int) (a0_2 : ByteArray) (l0_3 : List S36) : Option Int := some (keysGo a0_0 l0_3 0 l0_3)
theorem value_keys.calls (a0_0 : Int) (a0_1 : Int) (a0_2 : ByteArray) (A0_3 : Option Addr) (c0_3 : Nat) (l0_3 : List S36) (r : Int) (w : World) (hr0_3 : Kd.C k36 w A0_3 l0_3.length l0_3) (hc0_3 : l0_3.length ≤ c0_3) (h : value_keys.f a0_0 a0_1 a0_2 l0_3 = some r) :
    Calls Try.prog 22 #[.agg #[.int .i64 a0_0, .int .i64 a0_1, .string a0_2, .slice A0_3 l0_3.length c0_3]] w fun e w' => e = .returned (.int .i64 r) ∧ Below w.heap.size w w' := by
  injection h with h
  subst h
  exact keys_any a0_0 a0_1 a0_2 A0_3 c0_3 l0_3 w hr0_3 hc0_3
end Go.Proofs.Yticdlpkjjokbcaa.PVal
