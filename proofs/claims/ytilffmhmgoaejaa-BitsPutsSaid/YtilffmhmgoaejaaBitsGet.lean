/- Contract of bits.Get. -/
import Derived.Test.YtilffmhmgoaejaaBitsPut
import Derived.Test.YtilffmhmgoaejaaBitsTurn
namespace Go.Proofs.Ytilffmhmgoaejaa
open Go.RowKit
set_option linter.unusedVariables false
set_option linter.unusedSimpArgs false
theorem i64_or_add (x y i : Nat) (hx : x < 9223372036854775808) (hi : i ≤ 63) (hy : y < 2 ^ i) (h : x % 2 ^ i = 0) (hxy : x + y < 9223372036854775808) : bits .or .i64 (x : Int) (y : Int) = ((x + y : Nat) : Int) := by
  show IntKind.i64.wrap ((BitVec.ofInt 64 (x : Int) ||| BitVec.ofInt 64 (y : Int)).toNat : Int) = _
  have e1 := toNat_ofInt64 (x : Int)
  have e2 := toNat_ofInt64 (y : Int)
  have ex : (BitVec.ofInt 64 (x : Int)).toNat = x := by omega
  have ey : (BitVec.ofInt 64 (y : Int)).toNat = y := by omega
  rw [BitVec.toNat_or, ex, ey, nat_join i x y h hy, IntKind.wrap_i64]
  omega
theorem i64_or_comm (x y : Int) : bits .or .i64 x y = bits .or .i64 y x := by
  show IntKind.i64.wrap ((BitVec.ofInt 64 x ||| BitVec.ofInt 64 y).toNat : Int) = IntKind.i64.wrap ((BitVec.ofInt 64 y ||| BitVec.ofInt 64 x).toNat : Int)
  rw [BitVec.or_comm]
/-- The bits of a field. -/
def sub (D : List UInt8) (at_ k : Nat) : List Bool := (List.range k).map fun i => ub D (at_ + i)
theorem sub_length (D : List UInt8) (a k : Nat) : (sub D a k).length = k := by simp [sub]
theorem sub_take (D : List UInt8) (a k j : Nat) (h : j < k) : (sub D a k).take (j + 1) = (sub D a k).take j ++ [ub D (a + j)] := by
  rw [List.take_succ_eq_append_getElem (by rw [sub_length]; exact h)]; simp [sub]
theorem numOf_cons (b : Bool) (l : List Bool) : numOf (b :: l) = (if b then 2 ^ l.length else 0) + numOf l := by
  have key : ∀ (l : List Bool) (a : Nat), l.foldl (fun a b => 2 * a + if b then 1 else 0) a = a * 2 ^ l.length + numOf l := by
    intro l
    induction l with
    | nil => intro a; simp [numOf]
    | cons c l ih =>
      intro a
      rw [List.foldl_cons, ih]
      have := ih (2 * 0 + if c then 1 else 0)
      unfold numOf at this ⊢
      rw [List.foldl_cons, this, List.length_cons, Nat.pow_succ, Nat.add_mul, Nat.mul_comm 2 a, Nat.mul_assoc, Nat.mul_comm 2 (2 ^ l.length)]
      simp only [Nat.mul_zero, Nat.zero_add]
      omega
  unfold numOf
  rw [List.foldl_cons, key]
  cases b <;> simp [numOf]
def getV (D : List UInt8) (a k : Nat) (low : Bool) : Int := ((numOf (if low then (sub D a k).reverse else sub D a k) : Nat) : Int)
def GetBad (x : Int) (w : World) (e : Ending) (w' : World) : Prop := e = .returned (.tuple #[.int .i64 0, .int .i64 x]) ∧ Below w.heap.size w w'
set_option maxHeartbeats 1000000 in
theorem get_chk (D : List UInt8) (L n width : Int) (low : Bool) (v : Value) (w : World) (hv : RB w v D) (h : chk D L ≠ 0) :
    Calls Try.prog 51 #[.agg #[v, .int .i64 L], .int .i64 n, .int .i64 width, .bool low] w (GetBad (chk D L) w) := by
  obtain ⟨A, c, rfl⟩ := hv.len
  have HV := Lib.hid hv
  have h1 : (chk D L != 0) = true := by simpa using h
  have h2 : (chk D L == 0) = false := by simpa using h
  clear hv h
  go_enter Try.func51, Try.ntmps51
  go_wp2_with (go_at_call 45; refine (check_any D L _ _ (HV.out.below (blw_alloc (Below.refl _ _) _))).mono ?_; rintro e w1 ⟨rfl, hbel⟩; obtain ⟨hc, hf⟩ := bcell hbel; have hz := hbel.size; simp at hz)
  go_ret2
  exact ⟨rfl, blw_then (blw_alloc (Below.refl _ _) _) hbel⟩
set_option maxHeartbeats 1000000 in
theorem get_bad (D : List UInt8) (L : Nat) (n width : Int) (low : Bool) (v : Value) (w : World) (hv : RB w v D) (h : chk D L = 0) (x : Int) (hx : ((width < 1 ∨ 63 < width ∨ n < 0) ∧ x = 1) ∨ (1 ≤ width ∧ width ≤ 63 ∧ 0 ≤ n ∧ (L : Int) - width < n ∧ x = 13)) :
    Calls Try.prog 51 #[.agg #[v, .int .i64 L], .int .i64 n, .int .i64 width, .bool low] w (GetBad x w) := by
  obtain ⟨A, c, rfl⟩ := hv.len
  obtain ⟨l0, l1, _⟩ := chk_bd h
  have HC : ∀ w', Below w.heap.size w w' → Calls Try.prog 45 #[.agg #[.slice A D.length c, .int .i64 L]] w' fun e w'' => e = .returned (.int .i64 0) ∧ Below w'.heap.size w' w'' := fun w' hb => by
    have := check_any D L _ w' (hv.below hb); rwa [h] at this
  have HC' := Lib.hid HC
  clear hv h HC
  rcases hx with ⟨hx, rfl⟩ | ⟨hx1, hx2, hx3, hx4, rfl⟩
  all_goals
    go_enter Try.func51, Try.ntmps51
    go_wp2_with (go_at_call 45; refine (HC'.out _ (blw_alloc (Below.refl _ _) _)).mono ?_; rintro e w1 ⟨rfl, hbel⟩; have k0 := (hbel.cell (p := ⟨w.heap.size, 0, none⟩) (by simp)).trans (by simp [go_sem] : _ = some (Value.slice A D.length c)); have k1 := (hbel.cell (p := ⟨w.heap.size, 1, none⟩) (by simp)).trans (by simp [go_sem] : _ = some (Value.int IntKind.i64 L)))
    all_goals try (exfalso; omega)
    all_goals (go_ret2; exact ⟨rfl, blw_then (blw_alloc (Below.refl _ _) _) hbel⟩)
set_option maxHeartbeats 2000000 in
theorem get_ok (D : List UInt8) (L a k : Nat) (low : Bool) (v : Value) (w : World) (hv : RB w v D) (h : chk D L = 0) (hk : 1 ≤ k ∧ k ≤ 63) (ha : a + k ≤ L) :
    Calls Try.prog 51 #[.agg #[v, .int .i64 L], .int .i64 a, .int .i64 k, .bool low] w fun e w' => e = .returned (.tuple #[.int .i64 (getV D a k low), .int .i64 0]) ∧ Below w.heap.size w w' := by
  obtain ⟨A, c, rfl⟩ := hv.len
  obtain ⟨l0, l1, l2, _⟩ := chk_bd h
  have HC : ∀ w', Below w.heap.size w w' → Calls Try.prog 45 #[.agg #[.slice A D.length c, .int .i64 L]] w' fun e w'' => e = .returned (.int .i64 0) ∧ Below w'.heap.size w' w'' := fun w' hb => by
    have := check_any D L _ w' (hv.below hb); rwa [h] at this
  have HC' := Lib.hid HC
  have HV := Lib.hid hv
  have HL2 := Lib.hid l2
  obtain ⟨hk1, hk2⟩ := hk
  clear hv h HC l2
  go_enter Try.func51, Try.ntmps51
  go_wp2_with (go_at_call 45; refine (HC'.out _ (blw_alloc (Below.refl _ _) _)).mono ?_; rintro e w1 ⟨rfl, hbel⟩; have k0 := (hbel.cell (p := ⟨w.heap.size, 0, none⟩) (by simp)).trans (by simp [go_sem] : _ = some (Value.slice A D.length c)); have k1 := (hbel.cell (p := ⟨w.heap.size, 1, none⟩) (by simp)).trans (by simp [go_sem] : _ = some (Value.int IntKind.i64 L)); have hz : w.heap.size < w1.heap.size := by have := hbel.size; simp at this; omega)
  all_goals try (exfalso; omega)
  have HW := Lib.hid (blw_then (blw_alloc (Below.refl _ _) _) hbel)
  clear hbel
  cases low
  · go_loopw [37, 11] (fun i m wr => ∃ j : Nat, j ≤ k ∧ i = .int .i64 j ∧ m = .int .i64 (numOf ((sub D a k).take j)) ∧ Below w1.heap.size w1 wr) (fun i _ _ => k - (intOf i).toNat)
    case atStart => exact ⟨0, Nat.zero_le _, rfl, rfl, Below.refl _ _⟩
    case round =>
      obtain ⟨j, hj, rfl, rfl, hB⟩ := hrel
      have p0 : wr.cell? ⟨w.heap.size, 0, none⟩ = some (.slice A D.length c) := by rw [hB.cell (show w.heap.size < w1.heap.size from hz)]; exact k0
      have p1 : wr.cell? ⟨w.heap.size, 1, none⟩ = some (.int .i64 L) := by rw [hB.cell (show w.heap.size < w1.heap.size from hz)]; exact k1
      have HB := Lib.hid hB
      clear hB
      by_cases hlt : j < k
      · have hb := numOf_lt ((sub D a k).take j)
        have hp : (2 : Nat) ^ ((sub D a k).take j).length ≤ 2 ^ 62 := Nat.pow_le_pow_right (by omega) (by rw [List.length_take, sub_length]; omega)
        have hb2 : numOf ((sub D a k).take j) < 4611686018427387904 := by omega
        have HT := Lib.hid (show numOf ((sub D a k).take (j + 1)) = 2 * numOf ((sub D a k).take j) + if ub D (a + j) then 1 else 0 by rw [sub_take D a k j hlt, numOf_snoc])
        have hor : bits .or .i64 ((numOf ((sub D a k).take j) : Int) * 2) (b01 (ub D (a + j))) = ((2 * numOf ((sub D a k).take j) + (if ub D (a + j) then 1 else 0) : Nat) : Int) := by
          have := i64_or_add (2 * numOf ((sub D a k).take j)) (if ub D (a + j) then 1 else 0) 1 (by omega) (by omega) (by split <;> decide) (by omega) (by split <;> omega)
          rw [← this]
          congr 1
          · omega
          · cases ub D (a + j) <;> rfl
        have HX := Lib.hid hor
        have HVR := Lib.hid (HV.out.below (HW.out.trans (HB.out.mono (by omega))))
        clear hb hp
        go_wp2_with (go_at_call 88; refine (bit_any D L _ (a + j) _ HVR.out (by have := HL2.out; omega) (by omega)).mono ?_; rintro e w4 ⟨rfl, hb4⟩; have HB4 := Lib.hid hb4; clear hb4)
        refine ⟨⟨j + 1, by omega, by go_num, ?_, HB.out.trans (HB4.out.mono (by have := HB.out.size; omega))⟩, by simp [intOf]; omega⟩
        rw [HT.out]; exact congrArg _ (by simp)
      · obtain rfl : j = k := by omega
        have HE := Lib.hid (show (numOf ((sub D a j).take j) : Int) = getV D a j false by unfold getV; rw [List.take_of_length_le (by rw [sub_length]; omega)]; rfl)
        rw [HE.out]
        go_wp2
        go_ret2
        exact ⟨rfl, HW.out.trans (HB.out.mono (by omega))⟩
  · go_loopw [37, 11] (fun i m wr => ∃ j : Nat, j ≤ k ∧ i = .int .i64 j ∧ m = .int .i64 (numOf ((sub D a k).take j).reverse) ∧ Below w1.heap.size w1 wr) (fun i _ _ => k - (intOf i).toNat)
    case atStart => exact ⟨0, Nat.zero_le _, rfl, rfl, Below.refl _ _⟩
    case round =>
      obtain ⟨j, hj, rfl, rfl, hB⟩ := hrel
      have p0 : wr.cell? ⟨w.heap.size, 0, none⟩ = some (.slice A D.length c) := by rw [hB.cell (show w.heap.size < w1.heap.size from hz)]; exact k0
      have p1 : wr.cell? ⟨w.heap.size, 1, none⟩ = some (.int .i64 L) := by rw [hB.cell (show w.heap.size < w1.heap.size from hz)]; exact k1
      have HB := Lib.hid hB
      clear hB
      by_cases hlt : j < k
      · have htl : ((sub D a k).take j).reverse.length = j := by rw [List.length_reverse, List.length_take, sub_length]; omega
        have hb := numOf_lt ((sub D a k).take j).reverse
        rw [htl] at hb
        have hp : (2 : Nat) ^ j ≤ 2 ^ 62 := Nat.pow_le_pow_right (by omega) (by omega)
        have hb2 : numOf ((sub D a k).take j).reverse < 4611686018427387904 := by omega
        have HT := Lib.hid (show numOf ((sub D a k).take (j + 1)).reverse = (if ub D (a + j) then 2 ^ j else 0) + numOf ((sub D a k).take j).reverse by
          rw [sub_take D a k j hlt, List.reverse_append, List.reverse_singleton, List.singleton_append, numOf_cons, htl])
        have hor : bits .or .i64 (numOf ((sub D a k).take j).reverse : Int) (wrap64 (b01 (ub D (a + j)) * 2 ^ j)) = (((if ub D (a + j) then 2 ^ j else 0) + numOf ((sub D a k).take j).reverse : Nat) : Int) := by
          have hc : ((2 : Int) ^ j) = ((2 ^ j : Nat) : Int) := by simp
          have ew : wrap64 (b01 (ub D (a + j)) * 2 ^ j) = ((if ub D (a + j) then 2 ^ j else 0 : Nat) : Int) := by
            rw [hc]; unfold wrap64
            cases ub D (a + j) <;> simp [b01] <;> omega
          rw [ew, i64_or_comm]
          exact i64_or_add _ _ j (by split <;> omega) (by omega) hb (by split <;> simp) (by split <;> omega)
        have HX := Lib.hid hor
        have HVR := Lib.hid (HV.out.below (HW.out.trans (HB.out.mono (by omega))))
        clear hb hp htl
        go_wp2_with (go_at_call 88; refine (bit_any D L _ (a + j) _ HVR.out (by have := HL2.out; omega) (by omega)).mono ?_; rintro e w4 ⟨rfl, hb4⟩; have HB4 := Lib.hid hb4; clear hb4)
        refine ⟨⟨j + 1, by omega, by go_num, ?_, HB.out.trans (HB4.out.mono (by have := HB.out.size; omega))⟩, by simp [intOf]; omega⟩
        rw [HT.out]; exact congrArg _ (by simp)
      · obtain rfl : j = k := by omega
        have HE := Lib.hid (show (numOf ((sub D a j).take j).reverse : Int) = getV D a j true by unfold getV; rw [List.take_of_length_le (by rw [sub_length]; omega)]; rfl)
        rw [HE.out]
        go_wp2
        go_ret2
        exact ⟨rfl, HW.out.trans (HB.out.mono (by omega))⟩

end Go.Proofs.Ytilffmhmgoaejaa
