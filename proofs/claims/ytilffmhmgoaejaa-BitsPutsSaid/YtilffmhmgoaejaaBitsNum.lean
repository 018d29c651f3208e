/- Contracts of slices.Equal at bytes and of the reference's Digits2 and Number2. -/
import Derived.Test.YtilffmhmgoaejaaBitsOf
namespace Go.Proofs.Ytilffmhmgoaejaa
open Go.RowKit
set_option linter.unusedVariables false
set_option linter.unusedSimpArgs false
def eqB (D E : List UInt8) : Bool := decide (D = E)
theorem take_eq_succ {D E : List UInt8} (hl : D.length = E.length) {j : Nat} (hj : j < D.length) (h : D.take j = E.take j) (hg : gb D j = gb E j) : D.take (j + 1) = E.take (j + 1) := by
  rw [List.take_succ_eq_append_getElem hj, List.take_succ_eq_append_getElem (by omega), h]
  have : D[j] = E[j] := by
    unfold gb at hg
    rw [List.getD_eq_getElem?_getD, List.getD_eq_getElem?_getD, List.getElem?_eq_getElem hj, List.getElem?_eq_getElem (by omega)] at hg
    simp only [Option.getD_some] at hg
    exact UInt8.toNat_inj.1 (by omega)
  rw [this]
set_option maxHeartbeats 1000000 in
theorem equal_any (D E : List UInt8) (v u : Value) (w : World) (hv : RB w v D) (hu : RB w u E) (hl : D.length ≤ 1000000000) (hl2 : E.length ≤ 140737488351232) : Calls Try.prog 89 #[v, u] w fun e w' => e = .returned (.bool (eqB D E)) ∧ Below w.heap.size w w' := by
  obtain ⟨A, c, rfl⟩ := hv.len
  obtain ⟨A2, c2, rfl⟩ := hu.len
  have HV := Lib.hid hv
  have HU := Lib.hid hu
  clear hv hu
  by_cases hne : D.length = E.length
  · have h1 : ((D.length : Int) == (E.length : Int)) = true := by rw [hne]; simp
    have h2 : ((D.length : Int) != (E.length : Int)) = false := by rw [hne]; simp
    have HL := Lib.hid hne
    clear hne
    go_enter Try.func89, Try.ntmps89
    go_wp2
    go_loopw [13] (fun i wr => ∃ j : Nat, j ≤ D.length ∧ i = .int .i64 j ∧ D.take j = E.take j ∧ Below w.heap.size w wr) (fun i _ => D.length - (intOf i).toNat)
    case atStart => exact ⟨0, Nat.zero_le _, rfl, rfl, Below.refl _ _⟩
    case round =>
      obtain ⟨j, hj, rfl, hT, hB⟩ := hrel
      have HT := Lib.hid hT
      have HB := Lib.hid hB
      clear hT hB
      by_cases hlt : j < D.length
      · have hltE : j < E.length := by have := HL.out; omega
        obtain ⟨ad, c', hc1, hcell⟩ := (HV.out.below HB.out).get j hlt
        injection hc1 with hA hc2 hc3
        subst hA hc3
        obtain ⟨ad2, c2', hc1, hcell2⟩ := (HU.out.below HB.out).get j hltE
        injection hc1 with hA hc2 hc3
        subst hA hc3
        have i1 : (j : Int) < (D.length : Int) := by omega
        have i2 : (j : Int) < (E.length : Int) := by omega
        have i0 : (0 : Int) ≤ j := by omega
        have hcell' : wr.cell? (ad.add (j : Int).toNat) = some (.int .u8 (gb D j)) := hcell
        have hcell2' : wr.cell? (ad2.add (j : Int).toNat) = some (.int .u8 (gb E j)) := hcell2
        cases hg : (gb D j == gb E j)
        · have hg' : (gb D j != gb E j) = true := by simp [bne, hg]
          go_wp2
          go_quiet (fail)
          go_wp2
          go_ret
          refine ⟨ret_bool ?_, blw_drewN HB.out _⟩
          unfold eqB
          rw [eq_comm, decide_eq_false_iff_not]
          rintro rfl
          simp at hg
        · have hg' : (gb D j != gb E j) = false := by simp [bne, hg]
          have HG := Lib.hid (by simpa using hg : gb D j = gb E j)
          go_wp2
          go_quiet (fail)
          go_wp2
          go_roundw
          case rel => exact ⟨j + 1, by omega, by go_num, take_eq_succ HL.out hlt HT.out HG.out, blw_drewN HB.out _⟩
          case measure => simp [intOf]; omega
      · obtain rfl : j = D.length := by omega
        go_wp2
        go_ret
        refine ⟨ret_bool ?_, HB.out⟩
        unfold eqB
        rw [eq_comm, decide_eq_true_iff]
        have := HT.out
        rw [List.take_length, HL.out, List.take_length] at this
        exact this
  · have h1 : ((D.length : Int) == (E.length : Int)) = false := by rw [beq_eq_false_iff_ne]; omega
    have h2 : ((D.length : Int) != (E.length : Int)) = true := by rw [bne_iff_ne]; omega
    have HL := Lib.hid hne
    clear hne
    go_enter Try.func89, Try.ntmps89
    go_wp2
    go_ret
    refine ⟨ret_bool ?_, Below.refl _ _⟩
    unfold eqB
    rw [eq_comm, decide_eq_false_iff_not]
    rintro rfl
    exact HL.out rfl
theorem app_list (a b : ByteArray) : (a ++ b).data.toList = a.data.toList ++ b.data.toList := by rw [ByteArray.data_append, Array.toList_append]
theorem fbits_cons (n : Int) (j : Nat) : fbits n (j + 1) false = (n / 2 ^ j % 2 == 1) :: fbits n j false := by
  unfold fbits
  rw [List.range_succ_eq_map, List.map_cons, List.map_map]
  congr 1
  · apply List.map_congr_left
    intro i hi
    simp only [Function.comp, fbit, Bool.false_eq_true, if_false]
    rw [show j + 1 - 1 - (i + 1) = j - 1 - i by omega]
theorem half_step (n : Int) (j : Nat) : n / 2 ^ j / 2 = n / 2 ^ (j + 1) := by
  rw [Int.ediv_ediv_of_nonneg (Int.le_of_lt (Int.pow_pos (by decide))), Int.pow_succ]
def DigPost (l : List Bool) (w : World) (e : Ending) (w' : World) : Prop := ∃ S : ByteArray, e = .returned (.string S) ∧ S.data.toList = digs l ∧ w = w'
set_option maxHeartbeats 1000000 in
theorem digits2_any (n : Int) (k : Nat) (hk : k ≤ 64000) (h0 : -9223372036854775808 ≤ n) (h1 : n ≤ 9223372036854775807) (w : World) : Calls Try.prog 47 #[.int .i64 n, .int .i64 k] w (DigPost (fbits n k false) w) := by
  go_enter Try.func47, Try.ntmps47
  go_wp2
  go_loop [7, 5, 0] (fun i s m => ∃ j : Nat, ∃ S : ByteArray, j ≤ k ∧ i = .int .i64 j ∧ s = .string S ∧ S.data.toList = digs (fbits n j false) ∧ m = .int .i64 (n / 2 ^ j)) (fun i _ _ => k - (intOf i).toNat)
  case atStart => exact ⟨0, ⟨#[]⟩, Nat.zero_le _, rfl, rfl, rfl, by simp⟩
  case round =>
    obtain ⟨j, S, hj, rfl, rfl, hS, rfl⟩ := hrel
    have HS := Lib.hid hS
    clear hS
    by_cases hlt : j < k
    · have HC := Lib.hid (fbits_cons n j)
      have HH := half_step n j
      have hsz : S.size = j := by
        have := size_of_list HS.out
        rw [digs_length, fbits_length] at this; exact this
      have HZ := Lib.hid hsz
      clear hsz
      have hS2 : S.size ≤ 100000 := by have := HZ.out; omega
      have hc : n / 2 ^ j % 2 = 0 ∨ n / 2 ^ j % 2 = 1 := by omega
      rcases hc with hc | hc
      all_goals
        have ha : bits .and .i64 (n / 2 ^ j) 1 = n / 2 ^ j % 2 := i64_and1 _
        rw [hc] at ha
        have HX := Lib.hid hc
        clear hc
        go_wp2
        · exfalso
          have q8 : (Utf8.encode 48).size = 1 := by decide +kernel
          have q9 : (Utf8.encode 49).size = 1 := by decide +kernel
          omega
        refine ⟨⟨j + 1, _, by omega, by go_num, rfl, ?_, rfl⟩, by simp [intOf]; omega⟩
        rw [HC.out, HX.out, app_list, HS.out]
        rfl
    · obtain rfl : j = k := by omega
      go_wp2
      go_ret
      exact ⟨S, rfl, HS.out, rfl⟩
/-- The number that digits are, the highest one first. -/
def numOf (l : List Bool) : Nat := l.foldl (fun a b => 2 * a + if b then 1 else 0) 0
theorem numOf_snoc (l : List Bool) (b : Bool) : numOf (l ++ [b]) = 2 * numOf l + if b then 1 else 0 := by simp [numOf]
theorem fold_lt (l : List Bool) : ∀ a : Nat, l.foldl (fun a b => 2 * a + if b then 1 else 0) a < (a + 1) * 2 ^ l.length := by
  induction l with
  | nil => intro a; simp
  | cons b l ih =>
    intro a
    have h := ih (2 * a + if b then 1 else 0)
    rw [List.foldl_cons, List.length_cons, Nat.pow_succ]
    refine Nat.lt_of_lt_of_le h ?_
    rw [← Nat.mul_assoc, Nat.mul_comm ((a + 1) * 2 ^ l.length) 2, ← Nat.mul_assoc]
    exact Nat.mul_le_mul_right _ (by split <;> omega)
theorem numOf_lt (l : List Bool) : numOf l < 2 ^ l.length := by have := fold_lt l 0; simpa [numOf] using this
theorem digs_get (l : List Bool) (S : ByteArray) (h : S.data.toList = digs l) (j : Nat) (hj : j < S.size) (hl : j < l.length) : S[j] = if l[j] then 49 else 48 := by
  have e : S.data.toList[j]? = some S[j] := by
    rw [List.getElem?_eq_getElem (by rw [Array.length_toList]; exact hj)]; rfl
  rw [h] at e
  simp [digs, List.getElem?_map, List.getElem?_eq_getElem hl] at e
  exact e.symm
set_option maxHeartbeats 1000000 in
theorem number2_any (l : List Bool) (S : ByteArray) (h : S.data.toList = digs l) (hl : l.length ≤ 63) (w : World) : Calls Try.prog 46 #[.string S] w fun e w' => e = .returned (.int .i64 (numOf l)) ∧ w = w' := by
  have hsz : S.size = l.length := by rw [size_of_list h, digs_length]
  have HG := Lib.hid (digs_get l S h)
  have HZ := Lib.hid hsz
  have hS2 : S.size ≤ 63 := by omega
  clear h hsz
  go_enter Try.func46, Try.ntmps46
  go_wp2
  go_loop [7, 3] (fun i m => ∃ j : Nat, j ≤ l.length ∧ i = .int .i64 j ∧ m = .int .i64 (numOf (l.take j))) (fun i _ => l.length - (intOf i).toNat)
  case atStart => exact ⟨0, Nat.zero_le _, rfl, rfl⟩
  case round =>
    obtain ⟨j, hj, rfl, rfl⟩ := hrel
    by_cases hlt : j < l.length
    · have hjS : j < S.size := by have := HZ.out; omega
      have hg := HG.out j hjS hlt
      have hb := numOf_lt (l.take j)
      have hp : (2 : Nat) ^ (l.take j).length ≤ 2 ^ 62 := Nat.pow_le_pow_right (by omega) (by rw [List.length_take]; omega)
      have hb2 : numOf (l.take j) < 4611686018427387904 := by omega
      have HT := Lib.hid (show numOf (l.take (j + 1)) = 2 * numOf (l.take j) + if l[j] then 1 else 0 by rw [List.take_succ_eq_append_getElem hlt, numOf_snoc])
      clear hb hp
      cases hc : l[j]
      all_goals
        rw [hc] at hg
        have hx : (S[j].toNat : Int) = (if l[j] then 49 else 48) := by rw [hg, hc]; rfl
        rw [hc] at hx
        simp only [Bool.false_eq_true, if_false, if_true] at hx
        have HC := Lib.hid hc
        clear hg hc
        go_wp2
        refine ⟨⟨j + 1, by omega, by go_num, ?_⟩, by simp [intOf]; omega⟩
        rw [HT.out, HC.out]
        go_num
    · obtain rfl : j = l.length := by omega
      rw [List.take_length]
      have hns : ¬ (l.length < S.size) := by have := HZ.out; omega
      go_wp2
      go_ret
      exact ⟨rfl, rfl⟩

end Go.Proofs.Ytilffmhmgoaejaa
