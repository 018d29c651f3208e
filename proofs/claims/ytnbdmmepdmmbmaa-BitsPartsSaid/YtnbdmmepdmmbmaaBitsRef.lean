/- Contracts of the reference's BitsText and BitsErr: the latter is bits.Check's error. -/
import Derived.Test.YtnbdmmepdmmbmaaBitsText
import Derived.Lib.IndexLaws
namespace Go.Proofs.Ytnbdmmepdmmbmaa
open Go.RowKit
set_option linter.unusedVariables false
set_option linter.unusedSimpArgs false
theorem and1_u8 (x : Nat) (h : x < 256) : bits .and .u8 (x : Int) 1 = ((x % 2 : Nat) : Int) := by
  have := u8_and_nat x 1 h (by omega)
  rw [nat_mask1] at this; exact this
theorem digs_succ (D : List UInt8) (k : Nat) : digs (unp D (k + 1)) = digs (unp D k) ++ [if ub D k then 49 else 48] := by
  rw [unp_succ]; simp [digs]
theorem ub_byte (D : List UInt8) (k m : Nat) (hm : m < 8) : (48 + ((nb D k / 2 ^ (7 - m) % 2 : Nat) : Int)) % 256 = (if ub D (8 * k + m) then 49 else 48 : UInt8).toNat := by
  unfold ub
  rw [show (8 * k + m) / 8 = k by omega, show (8 * k + m) % 8 = m by omega]
  have : nb D k / 2 ^ (7 - m) % 2 = 0 ∨ nb D k / 2 ^ (7 - m) % 2 = 1 := by omega
  rcases this with h | h <;> rw [h] <;> decide
theorem ub_gb (D : List UInt8) (k m : Nat) (hm : m < 8) : (48 + bits .and .u8 (gb D k / 2 ^ (7 - m)) 1) % 256 = ((if ub D (8 * k + m) then 49 else 48 : UInt8).toNat : Int) := by
  have hg : gb D k = (nb D k : Int) := rfl
  have e : ((nb D k : Nat) : Int) / 2 ^ (7 - m) = ((nb D k / 2 ^ (7 - m) : Nat) : Int) := by simp
  have hle : nb D k / 2 ^ (7 - m) ≤ nb D k := Nat.div_le_self _ _
  have hn := nb_lt D k
  rw [hg, e, and1_u8 _ (by omega)]
  exact ub_byte D k m hm
def BText (D : List UInt8) (w : World) (e : Ending) (w' : World) : Prop := ∃ S : ByteArray, e = .returned (.string S) ∧ S.data.toList = digs (unp D (8 * D.length)) ∧ Below w.heap.size w w'
set_option maxHeartbeats 2000000 in
theorem btext_any (D : List UInt8) (v : Value) (w : World) (hv : RB w v D) (hl : D.length ≤ 100000) : Calls Try.prog 41 #[v] w (BText D w) := by
  obtain ⟨A, c, rfl⟩ := hv.len
  have HV := Lib.hid hv
  clear hv
  go_enter Try.func41, Try.ntmps41
  go_wp2
  obtain ⟨w2, hw2⟩ : ∃ w2, w2 = w.alloc (Obj.cells #[Value.pointer none, Value.slice none 0 0] 75) := ⟨_, rfl⟩
  obtain ⟨ob, hob⟩ : ∃ ob, ob = w.heap.size := ⟨_, rfl⟩
  have HBL : Hid (Bld ob ob [] w2) := by show Bld ob ob [] w2; rw [hw2, hob]; exact bld_new w
  have HB2 : Hid (Below ob w w2) := by show Below ob w w2; rw [hw2, hob]; exact blw_alloc (Below.refl _ _) _
  have hs2 : w2.heap.size = ob + 1 := by rw [hw2, hob]; simp
  rw [← hw2, ← hob]
  have HOB := Lib.hid hob
  clear hw2 hob
  go_loopw [9] (fun i wr => ∃ j : Nat, j ≤ D.length ∧ i = .int .i64 j ∧ Bld ob ob (digs (unp D (8 * j))) wr ∧ Below ob w wr) (fun i _ => D.length - (intOf i).toNat)
  case atStart => exact ⟨0, Nat.zero_le _, rfl, HBL.out, HB2.out⟩
  case round =>
    obtain ⟨j, hj, rfl, hO, hB⟩ := hrel
    have hszr := hO.lt
    have HO := Lib.hid hO
    have HB := Lib.hid hB
    clear hO hB
    by_cases hlt : j < D.length
    · obtain ⟨ad, c', hc1, hcell⟩ := (HV.out.below (HOB.out ▸ HB.out)).get j hlt
      injection hc1 with hA hc2 hc3
      subst hA hc3
      have hcell : wr.cell? (ad.add j) = some (.int .u8 (nb D j)) := hcell
      go_wp2
      go_loopw [6] (fun i wr' => ∃ m : Nat, m ≤ 8 ∧ i = .int .i64 (7 - m : Int) ∧ Bld ob ob (digs (unp D (8 * j + m))) wr' ∧ Below ob w wr') (fun i _ => (intOf i + 1).toNat)
      case atStart => exact ⟨0, Nat.zero_le _, rfl, HO.out, HB.out⟩
      case round =>
        obtain ⟨m, hm, rfl, hO2, hB2⟩ := hrel
        have hsz2 := hO2.lt
        have HO2 := Lib.hid hO2
        have HB2' := Lib.hid hB2
        clear hO2 hB2
        by_cases hlt2 : m < 8
        · have hn := nb_lt D j
          have hlen : (digs (unp D (8 * j + m))).length + 1 ≤ 140737488355328 := by rw [digs_length, unp_length]; omega
          have HD := Lib.hid (digs_succ D (8 * j + m))
          go_wp2_with (go_at_call 55; refine (writeByte_eq ob ob _ _ _ (ub_gb D j m hlt2) _ HO2.out hlen (by omega)).mono ?_; rintro e w5 ⟨rfl, hO5, hB5⟩; have HO5 := Lib.hid hO5; have HB5 := Lib.hid hB5; clear hO5 hB5)
          go_roundw
          case rel => exact ⟨m + 1, by omega, congrArg _ (by omega), by rw [← Nat.add_assoc, HD.out]; exact HO5.out, HB2'.out.trans HB5.out.1⟩
          case measure => simp [intOf]; omega
        · obtain rfl : m = 8 := by omega
          go_wp2
          go_roundw
          case rel => exact ⟨j + 1, by omega, by go_num, by rw [Nat.mul_add]; exact HO2.out, HB2'.out⟩
          case measure => simp [intOf]; omega
    · obtain rfl : j = D.length := by omega
      go_wp2_with (go_at_call 51; refine (string_any ob ob _ _ HO.out (by omega)).mono ?_; rintro e w5 ⟨rfl, hO5, hB5⟩; have HB5 := Lib.hid hB5; clear hO5 hB5)
      go_ret
      exact ⟨_, rfl, rfl, HOB.out ▸ (HB.out.trans HB5.out.1)⟩
theorem berr_large (D : List UInt8) (n : Int) (v : Value) (w : World) (hv : RB w v D) (hl : D.length ≤ 140737488351232) (h : n < 0 ∨ 64000 < n) : Calls Try.prog 40 #[v, .int .i64 n] w fun e w' => e = .returned (.int .i64 2) ∧ Below w.heap.size w w' := by
  obtain ⟨A, c, rfl⟩ := hv.len
  clear hv
  go_enter Try.func40, Try.ntmps40
  go_wp2
  all_goals try (exfalso; omega)
  all_goals (go_ret; exact ⟨rfl, Below.refl _ _⟩)
theorem berr_form (D : List UInt8) (n : Int) (v : Value) (w : World) (hv : RB w v D) (hl : D.length ≤ 140737488351232) (h0 : 0 ≤ n) (h1 : n ≤ 64000) (h : 8 * (D.length : Int) < n ∨ n + 8 ≤ 8 * D.length) : Calls Try.prog 40 #[v, .int .i64 n] w fun e w' => e = .returned (.int .i64 3) ∧ Below w.heap.size w w' := by
  obtain ⟨A, c, rfl⟩ := hv.len
  clear hv
  go_enter Try.func40, Try.ntmps40
  go_wp2
  all_goals try (exfalso; omega)
  all_goals (go_ret; exact ⟨rfl, Below.refl _ _⟩)
theorem size_of_list {S : ByteArray} {l : List UInt8} (h : S.data.toList = l) : S.size = l.length := by
  rw [← h, Array.length_toList]; rfl
theorem extract_list (S : ByteArray) (n : Nat) : (S.extract n S.size).data.toList = S.data.toList.drop n := by
  rw [ByteArray.data_extract]; simp [Array.toList_extract]
  rw [List.take_of_length_le]
  rw [List.length_drop, Array.length_toList]; exact Nat.le_refl _
/-- Does a digit 1 stand behind the first n digits of bytes? -/
def tailB (D : List UInt8) (n : Nat) : Bool := decide (0 ≤ Lib.indexByte ((digs (unp D (8 * D.length))).drop n) 49)
def tailR (D : List UInt8) (n : Nat) : Int := if tailB D n then 3 else 0
theorem berr_tail (D : List UInt8) (n : Nat) (v : Value) (w : World) (hv : RB w v D) (h1 : n ≤ 64000) (h2 : n ≤ 8 * D.length) (h3 : 8 * D.length < n + 8) : Calls Try.prog 40 #[v, .int .i64 n] w fun e w' => e = .returned (.int .i64 (tailR D n)) ∧ Below w.heap.size w w' := by
  obtain ⟨A, c, rfl⟩ := hv.len
  have HV := Lib.hid hv
  clear hv
  go_enter Try.func40, Try.ntmps40
  go_wp2_with (first
    | (go_at_call 41; refine (btext_any D _ _ HV.out (by omega)).mono ?_; rintro e w1 ⟨S, rfl, hS, hb⟩; have hsz : n ≤ S.size := (by have q := size_of_list hS; rw [digs_length, unp_length] at q; omega); have HS := Lib.hid hS; clear hS)
    | (go_at_call 68; refine (Try.strings_Contains_one (S.extract n S.size) 49 _).mono ?_; rw [extract_list, HS.out]; rintro e w2 ⟨rfl, rfl⟩))
  all_goals
    go_ret
    refine ⟨ret_int ?_, hb⟩
    unfold tailR tailB
    generalize Lib.indexByte ((digs (unp D (8 * D.length))).drop n) 49 = J at *
    first
      | rw [if_pos (decide_eq_true (show 0 ≤ J by omega))]
      | rw [if_neg (by rw [decide_eq_true_iff]; omega)]
theorem chk_of_packed {l : List Bool} {D : List UInt8} (hP : Packed l D) (h : l.length ≤ 64000) : chk D l.length = 0 := by
  have := chk_pack l h
  rwa [hP.pack_eq] at this
theorem digs_mem (D : List UInt8) (k n : Nat) : (0 ≤ Lib.indexByte ((digs (unp D k)).drop n) 49) ↔ ∃ i, n ≤ i ∧ i < k ∧ ub D i = true := by
  have hget : ∀ j, ((digs (unp D k)).drop n)[j]? = if n + j < k then some (if ub D (n + j) then 49 else 48) else none := by
    intro j
    rw [List.getElem?_drop]
    simp only [digs, unp, List.map_map, List.getElem?_map]
    by_cases h : n + j < k
    · rw [if_pos h, List.getElem?_range h]; rfl
    · rw [if_neg h, List.getElem?_eq_none (by simpa using Nat.le_of_not_lt h)]; rfl
  constructor
  · intro h
    obtain ⟨o, ho⟩ := Int.eq_ofNat_of_zero_le h
    have := (Lib.indexByte_some ho).1
    rw [hget] at this
    split at this
    · next h2 =>
      refine ⟨n + o, by omega, h2, ?_⟩
      cases e : ub D (n + o) with
      | true => rfl
      | false => rw [e] at this; simp at this
    · cases this
  · rintro ⟨i, h1, h2, h3⟩
    have hg := Lib.indexByte_ge ((digs (unp D k)).drop n) 49
    rcases Int.lt_or_le (Lib.indexByte ((digs (unp D k)).drop n) 49) 0 with h | h
    · exfalso
      have hn := Lib.indexByte_none (show Lib.indexByte ((digs (unp D k)).drop n) 49 = -1 by omega) (i - n)
      apply hn
      rw [hget, if_pos (by omega), show n + (i - n) = i by omega, h3]; rfl
    · exact h
theorem tail_chk (D : List UInt8) (n : Nat) (h1 : n ≤ 64000) (h2 : n ≤ 8 * D.length) (h3 : 8 * D.length < n + 8) : tailR D n = chk D n := by
  have hlen : D.length = (n + 7) / 8 := by omega
  unfold tailR tailB
  by_cases h : 0 ≤ Lib.indexByte ((digs (unp D (8 * D.length))).drop n) 49
  · rw [if_pos (decide_eq_true h)]
    obtain ⟨i, g1, g2, g3⟩ := (digs_mem _ _ _).1 h
    have hne : chk D n ≠ 0 := fun e => by
      have := (chk_packed e).rest i (by rw [unp_length]; exact g1)
      rw [g3] at this; cases this
    unfold chk at hne ⊢
    rw [if_neg (by omega), if_neg (by omega)] at hne ⊢
    split at hne
    · next q => rw [if_pos q]
    · exact absurd rfl hne
  · rw [if_neg (by rw [decide_eq_true_iff]; exact h)]
    have hP : Packed (unp D n) D := packed_unp D n hlen fun i hi => by
      cases e : ub D i with
      | false => rfl
      | true =>
        exfalso
        apply h
        refine (digs_mem _ _ _).2 ⟨i, hi, ?_, e⟩
        rcases Nat.lt_or_ge i (8 * D.length) with q | q
        · exact q
        · exfalso; unfold ub at e; rw [nb_beyond D _ (by omega)] at e; simp at e
    have := chk_of_packed hP (by rw [unp_length]; exact h1)
    rw [unp_length] at this; exact this.symm
theorem berr_any (D : List UInt8) (n : Int) (v : Value) (w : World) (hv : RB w v D) (hl : D.length ≤ 140737488351232) : Calls Try.prog 40 #[v, .int .i64 n] w fun e w' => e = .returned (.int .i64 (chk D n)) ∧ Below w.heap.size w w' := by
  by_cases h1 : n < 0 ∨ 64000 < n
  · have := berr_large D n v w hv hl h1
    rwa [show (2 : Int) = chk D n by unfold chk; rw [if_pos h1]] at this
  · obtain ⟨k, rfl⟩ : ∃ k : Nat, n = k := ⟨n.toNat, by omega⟩
    by_cases h2 : 8 * (D.length : Int) < k ∨ (k : Int) + 8 ≤ 8 * D.length
    · have := berr_form D k v w hv hl (by omega) (by omega) h2
      rwa [show (3 : Int) = chk D k by unfold chk; rw [if_neg h1, if_pos (by omega)]] at this
    · have := berr_tail D k v w hv (by omega) (by omega) (by omega)
      rwa [tail_chk D k (by omega) (by omega) (by omega)] at this

end Go.Proofs.Ytnbdmmepdmmbmaa
