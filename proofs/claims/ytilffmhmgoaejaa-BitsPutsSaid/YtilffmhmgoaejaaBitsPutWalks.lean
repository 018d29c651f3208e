/- The walks of the law BitsPuts, case by case. -/
import Derived.Test.YtilffmhmgoaejaaBitsHolds
import Derived.Test.YtilffmhmgoaejaaBitsDigits
import Derived.Test.YtilffmhmgoaejaaBitsGet
namespace Go.Proofs.Ytilffmhmgoaejaa
open Go.RowKit
set_option linter.unusedVariables false
set_option linter.unusedSimpArgs false
def TurnK (l : List Bool) (w : World) (e : Ending) (w' : World) : Prop := ∃ T : ByteArray, e = .returned (.string T) ∧ T.data.toList = digs l ∧ Below w.heap.size w w'
set_option maxHeartbeats 1000000 in
theorem bp_turn (A : Nat) (low : Bool) (l : List Bool) (S : ByteArray) (h : S.data.toList = digs l) (hl : l.length ≤ 1000000) (w : World) (hc : w.cell? ⟨A, 0, none⟩ = some (.bool low)) : Calls Try.prog 48 #[.string S, .pointer (some ⟨A, 0, none⟩)] w (TurnK (if low then l.reverse else l) w) := by
  have H := Lib.hid h
  clear h
  cases low
  · go_enter Try.func48, Try.ntmps48
    go_wp2
    go_ret
    exact ⟨_, rfl, H.out, Below.refl _ _⟩
  · go_enter Try.func48, Try.ntmps48
    go_wp2_with (go_at_call 49; refine (turned_any l S H.out hl _).mono ?_; rintro e w1 ⟨T, rfl, hT, hbel⟩; have HT := Lib.hid hT; clear hT)
    go_ret
    exact ⟨_, rfl, HT.out, hbel⟩
structure BPS (W : World) (A : Option Addr) (n c : Nat) (L : Int) (low : Bool) (wr : World) : Prop where
  c0 : wr.cell? ⟨W.heap.size, 0, none⟩ = some (.slice A n c)
  c1 : wr.cell? ⟨W.heap.size, 1, none⟩ = some (.int .i64 L)
  c2 : wr.cell? ⟨W.heap.size + 1, 0, none⟩ = some (.bool low)
  bel : Below W.heap.size W wr
  sz : W.heap.size + 2 ≤ wr.heap.size
theorem BPS.step {W A n c L low wr w'} (h : BPS W A n c L low wr) (hb : Below wr.heap.size wr w') : BPS W A n c L low w' := by
  have hs := h.sz
  refine ⟨?_, ?_, ?_, h.bel.trans (hb.mono (by omega)), by have := hb.size; omega⟩
  · rw [hb.cell (p := ⟨W.heap.size, 0, none⟩) (by show W.heap.size < _; omega)]; exact h.c0
  · rw [hb.cell (p := ⟨W.heap.size, 1, none⟩) (by show W.heap.size < _; omega)]; exact h.c1
  · rw [hb.cell (p := ⟨W.heap.size + 1, 0, none⟩) (by show W.heap.size + 1 < _; omega)]; exact h.c2
theorem BPS.start (W : World) (A n c L low t1 t2) : BPS W A n c L low ((W.alloc (.cells #[.slice A n c, .int .i64 L] t1)).alloc (.cells #[.bool low] t2)) := by
  refine ⟨?_, ?_, ?_, blw_alloc (blw_alloc (Below.refl _ _) _) _, by simp⟩ <;> simp [go_sem]
theorem bp_mf (fn : Fn) (first cap : Array Value) (w : World) : (Instr.makeFunc fn first cap).run Try.prog w = .ok (.func fn first cap) w := rfl
theorem fbits_rev (n : Int) (k : Nat) : (fbits n k false).reverse = fbits n k true := by
  apply List.ext_getElem
  · simp [fbits]
  · intro i h1 h2
    simp only [fbits, List.length_reverse, List.length_map, List.length_range] at h1 h2
    simp only [fbits, List.getElem_reverse, List.getElem_map, List.getElem_range, List.length_map, List.length_range, fbit]
    rw [show k - 1 - (k - 1 - i) = i by omega]; rfl
theorem fbits_low (n : Int) (k : Nat) (low : Bool) : (if low then (fbits n k false).reverse else fbits n k false) = fbits n k low := by
  cases low
  · rfl
  · exact fbits_rev n k
theorem numOf_fbits (n : Int) (h0 : 0 ≤ n) : ∀ k : Nat, (numOf (fbits n k false) : Int) = n % 2 ^ k
  | 0 => by simp [fbits, numOf]
  | k + 1 => by
    rw [fbits_cons, numOf_cons, fbits_length]
    have ih := numOf_fbits n h0 k
    have e : n % 2 ^ (k + 1) = n % 2 ^ k + 2 ^ k * (n / 2 ^ k % 2) := by
      have hp : (0 : Int) < 2 ^ k := Int.pow_pos (by omega)
      have d1 := Int.mul_ediv_add_emod n (2 ^ k)
      have d2 := Int.mul_ediv_add_emod (n / 2 ^ k) 2
      have l1 := Int.emod_lt_of_pos n hp
      have l2 := Int.emod_nonneg n (show (2 ^ k : Int) ≠ 0 by omega)
      have e1 : n = 2 ^ (k + 1) * (n / 2 ^ k / 2) + (n % 2 ^ k + 2 ^ k * (n / 2 ^ k % 2)) := by
        rw [Int.pow_succ, Int.mul_assoc]
        have : 2 ^ k * (n / 2 ^ k) = 2 ^ k * (2 * (n / 2 ^ k / 2)) + 2 ^ k * (n / 2 ^ k % 2) := by rw [← Int.mul_add, d2]
        omega
      conv => lhs; rw [e1]
      rw [Int.mul_add_emod_self_left]
      have h2 := Int.emod_two_eq (n / 2 ^ k)
      apply Int.emod_eq_of_lt
      · rcases h2 with h2 | h2 <;> rw [h2] <;> omega
      · rw [Int.pow_succ]; rcases h2 with h2 | h2 <;> rw [h2] <;> omega
    rw [e, ← ih]
    have h2 := Int.emod_two_eq (n / 2 ^ k)
    rcases h2 with h2 | h2 <;> simp [h2] <;> omega
theorem pow63 (k : Nat) (h : k ≤ 63) : (1 : Int) ≤ 2 ^ k ∧ (2 : Int) ^ k ≤ 9223372036854775808 := by
  have h1 : (2 : Nat) ^ k ≤ 2 ^ 63 := Nat.pow_le_pow_right (by omega) h
  have h2 : 1 ≤ (2 : Nat) ^ k := Nat.one_le_two_pow
  have e : ((2 : Int) ^ k) = ((2 ^ k : Nat) : Int) := by simp
  rw [e]; omega
theorem digits_bd {D : List UInt8} {L : Nat} (h : chk D L = 0) : L ≤ 64000 := by have := chk_bd h; omega
theorem sub_digs (D : List UInt8) (L a k : Nat) (h : a + k ≤ L) (S : ByteArray) (hS : S.data.toList = digs (unp D L)) : (S.extract a (a + k)).data.toList = digs (sub D a k) := by
  rw [ByteArray.data_extract, Array.toList_extract]
  rw [hS]
  unfold digs unp sub
  apply List.ext_getElem
  · simp; omega
  · intro i h1 h2; simp
set_option maxRecDepth 100000 in
set_option maxHeartbeats 1000000 in
theorem bp_chk (D : List UInt8) (L n at_ width : Int) (low : Bool) (v : Value) (w : World) (hv : RB w v D) (hl : D.length ≤ 140737488351232) (h : chk D L ≠ 0) :
    Calls Try.prog 11 #[.agg #[v, .int .i64 L], .int .i64 n, .int .i64 at_, .int .i64 width, .bool low] w (Tr w) := by
  obtain ⟨A, c, rfl⟩ := hv.len
  have HV := Lib.hid hv
  have h1 : (chk D L != 0) = true := by simpa using h
  have h2 : (chk D L == 0) = false := by simpa using h
  have HH := Lib.hid h
  clear hv h
  go_enter Try.func11, Try.ntmps11
  have hmf := bp_mf
  have H0 := Lib.hid (BPS.start w A D.length c L low)
  go_wp2_with (first
    | (go_at_call 44; refine (digits_err D L _ _ (HV.out.below (H0.out _ _).bel) hl HH.out).mono ?_; rintro e w1 ⟨rfl, hbel⟩; have HS := Lib.hid ((H0.out _ _).step hbel); have k0 := HS.out.c0; have k1 := HS.out.c1; have k2 := HS.out.c2; clear hbel)
    | (go_at_call 25; refine (strung_any _).mono ?_; rintro e w2 ⟨rfl, hbel⟩; have HS := Lib.hid (HS.out.step hbel); have k0 := HS.out.c0; have k1 := HS.out.c1; have k2 := HS.out.c2; clear hbel)
    | (go_at_call 45; refine (check_any D L _ _ (HV.out.below HS.out.bel)).mono ?_; rintro e w3 ⟨rfl, hbel⟩; have HS := Lib.hid (HS.out.step hbel); have k0 := HS.out.c0; have k1 := HS.out.c1; have k2 := HS.out.c2; clear hbel)
    | (go_at_call 50; refine (put_chk D L n width low _ _ (HV.out.below HS.out.bel) HH.out).mono ?_; rintro e w4 ⟨rfl, hbel⟩; have HS := Lib.hid (HS.out.step hbel); have k0 := HS.out.c0; have k1 := HS.out.c1; have k2 := HS.out.c2; have hz : w.heap.size < w4.heap.size := (by have := HS.out.sz; omega); have hz2 : w.heap.size + 1 < w4.heap.size := (by have := HS.out.sz; omega); clear hbel)
    | (go_at_call 51; refine (get_chk D L at_ width low _ _ (HV.out.below (HS.out.step (blw_alloc (Below.refl _ _) _)).bel) HH.out).mono ?_; rintro e w5 ⟨rfl, hbel⟩; have HS := Lib.hid ((HS.out.step (blw_alloc (Below.refl _ _) _)).step hbel); have o0 := (hbel.cell (p := ⟨w4.heap.size, 0, none⟩) (by simp)).trans (by simp [go_sem] : _ = some (Value.slice none 0 0)); have o1 := (hbel.cell (p := ⟨w4.heap.size, 1, none⟩) (by simp)).trans (by simp [go_sem] : _ = some (Value.int IntKind.i64 0)); clear hbel)
    | (go_at_call 52; refine (holds_err (chk D L) HH.out _ _).mono ?_; rintro e w6 ⟨rfl, hbel⟩; have HS := Lib.hid (HS.out.step hbel); clear hbel))
  go_ret
  exact ⟨rfl, HS.out.bel⟩
def OutOk (f : Int) (l : List Bool) (v : Value) (m : Int) (w : World) : Prop := (f ≠ 0 ∧ v = .slice none 0 0 ∧ m = 0) ∨ (f = 0 ∧ RB w v (pack l) ∧ m = l.length ∧ l.length ≤ 64000)
theorem OutOk.below {f l v m w w'} (h : OutOk f l v m w) (hb : Below w.heap.size w w') : OutOk f l v m w' := by
  rcases h with h | ⟨h1, h2, h3⟩
  · exact .inl h
  · exact .inr ⟨h1, h2.below hb, h3⟩
theorem holds_gen {f : Int} {l : List Bool} {v : Value} {m : Int} {w : World} (h : OutOk f l v m w) (S : ByteArray) (hS : f = 0 → S.data.toList = digs l) : Calls Try.prog 52 #[.agg #[v, .int .i64 m], .int .i64 f, .string S, .int .i64 f] w (Tr w) := by
  rcases h with ⟨h1, rfl, rfl⟩ | ⟨rfl, h2, rfl, h4⟩
  · exact holds_err f h1 S w
  · exact holds_ok l S v w (hS rfl) h2 h4
def PutG (f : Int) (l : List Bool) (w : World) (e : Ending) (w' : World) : Prop := ∃ A n c m, e = .returned (.tuple #[.agg #[.slice A n c, .int .i64 m], .int .i64 f]) ∧ OutOk f l (.slice A n c) m w' ∧ Below w.heap.size w w'
theorem PutG.of_zeroed {f : Int} {l : List Bool} {w : World} (h : f ≠ 0) : ∀ e w', Zeroed f w e w' → PutG f l w e w' := by
  rintro e w' ⟨rfl, hb⟩; exact ⟨_, _, _, _, rfl, .inl ⟨h, rfl, rfl⟩, hb⟩
def PutR (D : List UInt8) (L : Nat) (n width : Int) (low : Bool) (f : Int) (l : List Bool) : Prop := ∀ v w, RB w v D → Calls Try.prog 50 #[.agg #[v, .int .i64 L], .int .i64 n, .int .i64 width, .bool low] w (PutG f l w)
def GetR (D : List UInt8) (L : Nat) (a width : Int) (low : Bool) (m g : Int) : Prop := ∀ v w, RB w v D → Calls Try.prog 51 #[.agg #[v, .int .i64 L], .int .i64 a, .int .i64 width, .bool low] w fun e w' => e = .returned (.tuple #[.int .i64 m, .int .i64 g]) ∧ Below w.heap.size w w'
theorem numOf_val (D : List UInt8) (a k : Nat) (low : Bool) : (numOf (if low then (sub D a k).reverse else sub D a k) : Int) = getV D a k low := rfl
theorem bp_slice (S : ByteArray) (a k : Nat) (h : a + k ≤ S.size) (wx : World) : (Instr.slice 9 (.string S) (some (.int .i64 (a : Int))) (some (.int .i64 ((a : Int) + (k : Int)))) none).run Try.prog wx = .ok (.string (S.extract a (a + k))) wx := by
  have := run_slice_string (P := Try.prog) wx 9 S .i64 .i64 (a : Int) ((a : Int) + k) Try.underlying9 (by omega) (by omega) (by omega)
  rw [this]
  rw [show ((a : Int) + k).toNat = a + k by omega, show ((a : Int)).toNat = a by omega]
theorem subl_le (D : List UInt8) (a k : Nat) (low : Bool) (h : k ≤ 63) : (if low then (sub D a k).reverse else sub D a k).length ≤ 63 := by
  cases low <;> simp [sub_length] <;> omega
set_option maxRecDepth 100000 in
set_option maxHeartbeats 4000000 in
theorem bp_neg_neg (D : List UInt8) (L k : Nat) (n : Int) (at_ : Int) (hat : -9223372036854775808 ≤ at_ ∧ at_ ≤ 9223372036854775807) (low : Bool) (v : Value) (w : World) (hv : RB w v D) (h : chk D L = 0) (hk : 1 ≤ k ∧ k ≤ 63) (hnb : -9223372036854775808 ≤ n ∧ n ≤ 9223372036854775807) (hn : n < 0) (ha : at_ < 0) (l : List Bool) (hl : l = unp D L ++ fbits n k low) (HP0 : PutR D L n k low 11 l) (HG0 : GetR D L at_ k low 0 1) :
    Calls Try.prog 11 #[.agg #[v, .int .i64 L], .int .i64 n, .int .i64 at_, .int .i64 k, .bool low] w (Tr w) := by
  obtain ⟨A, c, rfl⟩ := hv.len
  have hL := digits_bd h
  obtain ⟨hk1, hk2⟩ := hk
  obtain ⟨hn1, hn2⟩ := hnb
  have HV := Lib.hid hv
  have HP := Lib.hid HP0
  have HG := Lib.hid HG0
  have HH := Lib.hid h
  have HL := Lib.hid hl
  clear hv h HP0 HG0 hl
  go_enter Try.func11, Try.ntmps11
  have hmf := bp_mf
  have H0 := Lib.hid (BPS.start w A D.length c L low)
  go_wp2_with (first
    | (go_at_call 44; refine (digits_ok D L _ _ (HV.out.below (H0.out _ _).bel) HH.out).mono ?_; rintro e w1 ⟨S, rfl, hS, hbel⟩; have hsz : S.size = L := (by rw [size_of_list hS, digs_length]; simp [unp]); have HSS := Lib.hid hS; clear hS; have HS := Lib.hid ((H0.out _ _).step hbel); have k0 := HS.out.c0; have k1 := HS.out.c1; have k2 := HS.out.c2; clear hbel)
    | (go_at_call 25; refine (strung_any _).mono ?_; rintro e w2 ⟨rfl, hbel⟩; have HS := Lib.hid (HS.out.step hbel); have k0 := HS.out.c0; have k1 := HS.out.c1; have k2 := HS.out.c2; clear hbel)
    | (go_at_call 45; refine (check_any D L _ _ (HV.out.below HS.out.bel)).mono ?_; rw [HH.out]; rintro e w3 ⟨rfl, hbel⟩; have HS := Lib.hid (HS.out.step hbel); have k0 := HS.out.c0; have k1 := HS.out.c1; have k2 := HS.out.c2; clear hbel)
    | (go_at_call 47; refine (digits2_any n k (by omega) hn1 hn2 _).mono ?_; rintro e w7 ⟨T, rfl, hT, rfl⟩; have HT := Lib.hid hT; clear hT)
    | (go_at_call 46; refine (number2_any (fbits n k false) T HT.out (by rw [fbits_length]; omega) _).mono ?_; rintro e w8 ⟨rfl, rfl⟩)
    | (go_at_call 50; refine (HP.out _ _ (HV.out.below HS.out.bel)).mono ?_; rintro e w4 ⟨A1, n1, c1, m1, rfl, hO, hbel⟩; have HO := Lib.hid hO; clear hO; have HS := Lib.hid (HS.out.step hbel); have k0 := HS.out.c0; have k1 := HS.out.c1; have k2 := HS.out.c2; have hz : w.heap.size < w4.heap.size := (by have := HS.out.sz; omega); have hz2 : w.heap.size + 1 < w4.heap.size := (by have := HS.out.sz; omega); clear hbel)
    | (go_at_call 51; refine (HG.out _ _ (HV.out.below (HS.out.step (blw_alloc (Below.refl _ _) _)).bel)).mono ?_; rintro e w5 ⟨rfl, hbel⟩; have HO := Lib.hid (HO.out.below (blw_then (blw_alloc (Below.refl _ _) _) hbel)); have HS := Lib.hid ((HS.out.step (blw_alloc (Below.refl _ _) _)).step hbel); have o0 := (hbel.cell (p := ⟨w4.heap.size, 0, none⟩) (by simp)).trans (by simp [go_sem] : _ = some (Value.slice A1 n1 c1)); have o1 := (hbel.cell (p := ⟨w4.heap.size, 1, none⟩) (by simp)).trans (by simp [go_sem] : _ = some (Value.int IntKind.i64 m1)); clear hbel)
    | (go_at_call 52; refine (holds_gen HO.out _ (by first | (intro h; exact absurd h (by decide)) | (intro _; rw [HL.out, app_list, HSS.out, HU.out]; simp [digs]))).mono ?_; rintro e w6 ⟨rfl, hbel⟩; have HS := Lib.hid (HS.out.step hbel); clear hbel))
  all_goals try (exfalso; omega)
  all_goals (go_ret; exact ⟨rfl, HS.out.bel⟩)

set_option maxRecDepth 100000 in
set_option maxHeartbeats 4000000 in
theorem bp_neg_short (D : List UInt8) (L k : Nat) (n : Int) (at_ : Int) (hat : -9223372036854775808 ≤ at_ ∧ at_ ≤ 9223372036854775807) (low : Bool) (v : Value) (w : World) (hv : RB w v D) (h : chk D L = 0) (hk : 1 ≤ k ∧ k ≤ 63) (hnb : -9223372036854775808 ≤ n ∧ n ≤ 9223372036854775807) (hn : n < 0) (ha : 0 ≤ at_) (hs : (L : Int) < at_ + k) (l : List Bool) (hl : l = unp D L ++ fbits n k low) (HP0 : PutR D L n k low 11 l) (HG0 : GetR D L at_ k low 0 13) :
    Calls Try.prog 11 #[.agg #[v, .int .i64 L], .int .i64 n, .int .i64 at_, .int .i64 k, .bool low] w (Tr w) := by
  obtain ⟨A, c, rfl⟩ := hv.len
  have hL := digits_bd h
  obtain ⟨hk1, hk2⟩ := hk
  obtain ⟨hn1, hn2⟩ := hnb
  have HV := Lib.hid hv
  have HP := Lib.hid HP0
  have HG := Lib.hid HG0
  have HH := Lib.hid h
  have HL := Lib.hid hl
  clear hv h HP0 HG0 hl
  go_enter Try.func11, Try.ntmps11
  have hmf := bp_mf
  have H0 := Lib.hid (BPS.start w A D.length c L low)
  go_wp2_with (first
    | (go_at_call 44; refine (digits_ok D L _ _ (HV.out.below (H0.out _ _).bel) HH.out).mono ?_; rintro e w1 ⟨S, rfl, hS, hbel⟩; have hsz : S.size = L := (by rw [size_of_list hS, digs_length]; simp [unp]); have HSS := Lib.hid hS; clear hS; have HS := Lib.hid ((H0.out _ _).step hbel); have k0 := HS.out.c0; have k1 := HS.out.c1; have k2 := HS.out.c2; clear hbel)
    | (go_at_call 25; refine (strung_any _).mono ?_; rintro e w2 ⟨rfl, hbel⟩; have HS := Lib.hid (HS.out.step hbel); have k0 := HS.out.c0; have k1 := HS.out.c1; have k2 := HS.out.c2; clear hbel)
    | (go_at_call 45; refine (check_any D L _ _ (HV.out.below HS.out.bel)).mono ?_; rw [HH.out]; rintro e w3 ⟨rfl, hbel⟩; have HS := Lib.hid (HS.out.step hbel); have k0 := HS.out.c0; have k1 := HS.out.c1; have k2 := HS.out.c2; clear hbel)
    | (go_at_call 47; refine (digits2_any n k (by omega) hn1 hn2 _).mono ?_; rintro e w7 ⟨T, rfl, hT, rfl⟩; have HT := Lib.hid hT; clear hT)
    | (go_at_call 46; refine (number2_any (fbits n k false) T HT.out (by rw [fbits_length]; omega) _).mono ?_; rintro e w8 ⟨rfl, rfl⟩)
    | (go_at_call 50; refine (HP.out _ _ (HV.out.below HS.out.bel)).mono ?_; rintro e w4 ⟨A1, n1, c1, m1, rfl, hO, hbel⟩; have HO := Lib.hid hO; clear hO; have HS := Lib.hid (HS.out.step hbel); have k0 := HS.out.c0; have k1 := HS.out.c1; have k2 := HS.out.c2; have hz : w.heap.size < w4.heap.size := (by have := HS.out.sz; omega); have hz2 : w.heap.size + 1 < w4.heap.size := (by have := HS.out.sz; omega); clear hbel)
    | (go_at_call 51; refine (HG.out _ _ (HV.out.below (HS.out.step (blw_alloc (Below.refl _ _) _)).bel)).mono ?_; rintro e w5 ⟨rfl, hbel⟩; have HO := Lib.hid (HO.out.below (blw_then (blw_alloc (Below.refl _ _) _) hbel)); have HS := Lib.hid ((HS.out.step (blw_alloc (Below.refl _ _) _)).step hbel); have o0 := (hbel.cell (p := ⟨w4.heap.size, 0, none⟩) (by simp)).trans (by simp [go_sem] : _ = some (Value.slice A1 n1 c1)); have o1 := (hbel.cell (p := ⟨w4.heap.size, 1, none⟩) (by simp)).trans (by simp [go_sem] : _ = some (Value.int IntKind.i64 m1)); clear hbel)
    | (go_at_call 52; refine (holds_gen HO.out _ (by first | (intro h; exact absurd h (by decide)) | (intro _; rw [HL.out, app_list, HSS.out, HU.out]; simp [digs]))).mono ?_; rintro e w6 ⟨rfl, hbel⟩; have HS := Lib.hid (HS.out.step hbel); clear hbel))
  all_goals try (exfalso; omega)
  all_goals (go_ret; exact ⟨rfl, HS.out.bel⟩)

set_option maxRecDepth 100000 in
set_option maxHeartbeats 4000000 in
theorem bp_neg_ok (D : List UInt8) (L k : Nat) (n : Int) (low : Bool) (v : Value) (w : World) (hv : RB w v D) (h : chk D L = 0) (hk : 1 ≤ k ∧ k ≤ 63) (hnb : -9223372036854775808 ≤ n ∧ n ≤ 9223372036854775807) (hn : n < 0) (a : Nat) (hs : a + k ≤ L) (l : List Bool) (hl : l = unp D L ++ fbits n k low) (HP0 : PutR D L n k low 11 l) (HG0 : GetR D L (a : Int) k low (getV D a k low) 0) :
    Calls Try.prog 11 #[.agg #[v, .int .i64 L], .int .i64 n, .int .i64 (a : Int), .int .i64 k, .bool low] w (Tr w) := by
  obtain ⟨A, c, rfl⟩ := hv.len
  have hL := digits_bd h
  obtain ⟨hk1, hk2⟩ := hk
  obtain ⟨hn1, hn2⟩ := hnb
  have HV := Lib.hid hv
  have HP := Lib.hid HP0
  have HG := Lib.hid HG0
  have HH := Lib.hid h
  have HL := Lib.hid hl
  clear hv h HP0 HG0 hl
  go_enter Try.func11, Try.ntmps11
  have hmf := bp_mf
  have H0 := Lib.hid (BPS.start w A D.length c L low)
  go_wp2_with (first
    | (go_at_call 44; refine (digits_ok D L _ _ (HV.out.below (H0.out _ _).bel) HH.out).mono ?_; rintro e w1 ⟨S, rfl, hS, hbel⟩; have hsz : S.size = L := (by rw [size_of_list hS, digs_length]; simp [unp]); have HSS := Lib.hid hS; clear hS; have hsl := bp_slice S a k (by omega); have HS := Lib.hid ((H0.out _ _).step hbel); have k0 := HS.out.c0; have k1 := HS.out.c1; have k2 := HS.out.c2; clear hbel)
    | (go_at_call 25; refine (strung_any _).mono ?_; rintro e w2 ⟨rfl, hbel⟩; have HS := Lib.hid (HS.out.step hbel); have k0 := HS.out.c0; have k1 := HS.out.c1; have k2 := HS.out.c2; clear hbel)
    | (go_at_call 45; refine (check_any D L _ _ (HV.out.below HS.out.bel)).mono ?_; rw [HH.out]; rintro e w3 ⟨rfl, hbel⟩; have HS := Lib.hid (HS.out.step hbel); have k0 := HS.out.c0; have k1 := HS.out.c1; have k2 := HS.out.c2; clear hbel)
    | (go_at_call 47; refine (digits2_any n k (by omega) hn1 hn2 _).mono ?_; rintro e w7 ⟨T, rfl, hT, rfl⟩; have HT := Lib.hid hT; clear hT)
    | (go_at_call 48; refine (bp_turn _ low (sub D a k) (S.extract a (a + k)) (sub_digs D L a k hs S HSS.out) (by rw [sub_length]; omega) _ k2).mono ?_; rintro e wa ⟨X, rfl, hX, hbel⟩; have HX := Lib.hid hX; clear hX; have HS := Lib.hid (HS.out.step hbel); have k0 := HS.out.c0; have k1 := HS.out.c1; have k2 := HS.out.c2; clear hbel)
    | (go_at_call 46; refine (number2_any _ X HX.out (subl_le D a k low (by omega)) _).mono ?_; rw [numOf_val]; rintro e wb ⟨rfl, rfl⟩)
    | (go_at_call 46; refine (number2_any (fbits n k false) T HT.out (by rw [fbits_length]; omega) _).mono ?_; rintro e w8 ⟨rfl, rfl⟩)
    | (go_at_call 50; refine (HP.out _ _ (HV.out.below HS.out.bel)).mono ?_; rintro e w4 ⟨A1, n1, c1, m1, rfl, hO, hbel⟩; have HO := Lib.hid hO; clear hO; have HS := Lib.hid (HS.out.step hbel); have k0 := HS.out.c0; have k1 := HS.out.c1; have k2 := HS.out.c2; have hz : w.heap.size < w4.heap.size := (by have := HS.out.sz; omega); have hz2 : w.heap.size + 1 < w4.heap.size := (by have := HS.out.sz; omega); clear hbel)
    | (go_at_call 51; refine (HG.out _ _ (HV.out.below (HS.out.step (blw_alloc (Below.refl _ _) _)).bel)).mono ?_; rintro e w5 ⟨rfl, hbel⟩; have HO := Lib.hid (HO.out.below (blw_then (blw_alloc (Below.refl _ _) _) hbel)); have HS := Lib.hid ((HS.out.step (blw_alloc (Below.refl _ _) _)).step hbel); have o0 := (hbel.cell (p := ⟨w4.heap.size, 0, none⟩) (by simp)).trans (by simp [go_sem] : _ = some (Value.slice A1 n1 c1)); have o1 := (hbel.cell (p := ⟨w4.heap.size, 1, none⟩) (by simp)).trans (by simp [go_sem] : _ = some (Value.int IntKind.i64 m1)); clear hbel)
    | (go_at_call 52; refine (holds_gen HO.out _ (by first | (intro h; exact absurd h (by decide)) | (intro _; rw [HL.out, app_list, HSS.out, HU.out]; simp [digs]))).mono ?_; rintro e w6 ⟨rfl, hbel⟩; have HS := Lib.hid (HS.out.step hbel); clear hbel))
  all_goals try (exfalso; omega)
  all_goals (go_ret; exact ⟨rfl, HS.out.bel⟩)

set_option maxRecDepth 100000 in
set_option maxHeartbeats 4000000 in
theorem bp_big_neg (D : List UInt8) (L k : Nat) (n : Int) (at_ : Int) (hat : -9223372036854775808 ≤ at_ ∧ at_ ≤ 9223372036854775807) (low : Bool) (v : Value) (w : World) (hv : RB w v D) (h : chk D L = 0) (hk : 1 ≤ k ∧ k ≤ 63) (hnb : -9223372036854775808 ≤ n ∧ n ≤ 9223372036854775807) (hn : 0 ≤ n) (hq : ((numOf (fbits n k false) : Int) != n) = true) (ha : at_ < 0) (l : List Bool) (hl : l = unp D L ++ fbits n k low) (HP0 : PutR D L n k low 11 l) (HG0 : GetR D L at_ k low 0 1) :
    Calls Try.prog 11 #[.agg #[v, .int .i64 L], .int .i64 n, .int .i64 at_, .int .i64 k, .bool low] w (Tr w) := by
  obtain ⟨A, c, rfl⟩ := hv.len
  have hL := digits_bd h
  obtain ⟨hk1, hk2⟩ := hk
  obtain ⟨hn1, hn2⟩ := hnb
  have HV := Lib.hid hv
  have HP := Lib.hid HP0
  have HG := Lib.hid HG0
  have HH := Lib.hid h
  have HL := Lib.hid hl
  clear hv h HP0 HG0 hl
  go_enter Try.func11, Try.ntmps11
  have hmf := bp_mf
  have H0 := Lib.hid (BPS.start w A D.length c L low)
  go_wp2_with (first
    | (go_at_call 44; refine (digits_ok D L _ _ (HV.out.below (H0.out _ _).bel) HH.out).mono ?_; rintro e w1 ⟨S, rfl, hS, hbel⟩; have hsz : S.size = L := (by rw [size_of_list hS, digs_length]; simp [unp]); have HSS := Lib.hid hS; clear hS; have HS := Lib.hid ((H0.out _ _).step hbel); have k0 := HS.out.c0; have k1 := HS.out.c1; have k2 := HS.out.c2; clear hbel)
    | (go_at_call 25; refine (strung_any _).mono ?_; rintro e w2 ⟨rfl, hbel⟩; have HS := Lib.hid (HS.out.step hbel); have k0 := HS.out.c0; have k1 := HS.out.c1; have k2 := HS.out.c2; clear hbel)
    | (go_at_call 45; refine (check_any D L _ _ (HV.out.below HS.out.bel)).mono ?_; rw [HH.out]; rintro e w3 ⟨rfl, hbel⟩; have HS := Lib.hid (HS.out.step hbel); have k0 := HS.out.c0; have k1 := HS.out.c1; have k2 := HS.out.c2; clear hbel)
    | (go_at_call 47; refine (digits2_any n k (by omega) hn1 hn2 _).mono ?_; rintro e w7 ⟨T, rfl, hT, rfl⟩; have HT := Lib.hid hT; clear hT)
    | (go_at_call 46; refine (number2_any (fbits n k false) T HT.out (by rw [fbits_length]; omega) _).mono ?_; rintro e w8 ⟨rfl, rfl⟩)
    | (go_at_call 50; refine (HP.out _ _ (HV.out.below HS.out.bel)).mono ?_; rintro e w4 ⟨A1, n1, c1, m1, rfl, hO, hbel⟩; have HO := Lib.hid hO; clear hO; have HS := Lib.hid (HS.out.step hbel); have k0 := HS.out.c0; have k1 := HS.out.c1; have k2 := HS.out.c2; have hz : w.heap.size < w4.heap.size := (by have := HS.out.sz; omega); have hz2 : w.heap.size + 1 < w4.heap.size := (by have := HS.out.sz; omega); clear hbel)
    | (go_at_call 51; refine (HG.out _ _ (HV.out.below (HS.out.step (blw_alloc (Below.refl _ _) _)).bel)).mono ?_; rintro e w5 ⟨rfl, hbel⟩; have HO := Lib.hid (HO.out.below (blw_then (blw_alloc (Below.refl _ _) _) hbel)); have HS := Lib.hid ((HS.out.step (blw_alloc (Below.refl _ _) _)).step hbel); have o0 := (hbel.cell (p := ⟨w4.heap.size, 0, none⟩) (by simp)).trans (by simp [go_sem] : _ = some (Value.slice A1 n1 c1)); have o1 := (hbel.cell (p := ⟨w4.heap.size, 1, none⟩) (by simp)).trans (by simp [go_sem] : _ = some (Value.int IntKind.i64 m1)); clear hbel)
    | (go_at_call 52; refine (holds_gen HO.out _ (by first | (intro h; exact absurd h (by decide)) | (intro _; rw [HL.out, app_list, HSS.out, HU.out]; simp [digs]))).mono ?_; rintro e w6 ⟨rfl, hbel⟩; have HS := Lib.hid (HS.out.step hbel); clear hbel))
  all_goals try (exfalso; omega)
  all_goals (go_ret; exact ⟨rfl, HS.out.bel⟩)

set_option maxRecDepth 100000 in
set_option maxHeartbeats 4000000 in
theorem bp_big_short (D : List UInt8) (L k : Nat) (n : Int) (at_ : Int) (hat : -9223372036854775808 ≤ at_ ∧ at_ ≤ 9223372036854775807) (low : Bool) (v : Value) (w : World) (hv : RB w v D) (h : chk D L = 0) (hk : 1 ≤ k ∧ k ≤ 63) (hnb : -9223372036854775808 ≤ n ∧ n ≤ 9223372036854775807) (hn : 0 ≤ n) (hq : ((numOf (fbits n k false) : Int) != n) = true) (ha : 0 ≤ at_) (hs : (L : Int) < at_ + k) (l : List Bool) (hl : l = unp D L ++ fbits n k low) (HP0 : PutR D L n k low 11 l) (HG0 : GetR D L at_ k low 0 13) :
    Calls Try.prog 11 #[.agg #[v, .int .i64 L], .int .i64 n, .int .i64 at_, .int .i64 k, .bool low] w (Tr w) := by
  obtain ⟨A, c, rfl⟩ := hv.len
  have hL := digits_bd h
  obtain ⟨hk1, hk2⟩ := hk
  obtain ⟨hn1, hn2⟩ := hnb
  have HV := Lib.hid hv
  have HP := Lib.hid HP0
  have HG := Lib.hid HG0
  have HH := Lib.hid h
  have HL := Lib.hid hl
  clear hv h HP0 HG0 hl
  go_enter Try.func11, Try.ntmps11
  have hmf := bp_mf
  have H0 := Lib.hid (BPS.start w A D.length c L low)
  go_wp2_with (first
    | (go_at_call 44; refine (digits_ok D L _ _ (HV.out.below (H0.out _ _).bel) HH.out).mono ?_; rintro e w1 ⟨S, rfl, hS, hbel⟩; have hsz : S.size = L := (by rw [size_of_list hS, digs_length]; simp [unp]); have HSS := Lib.hid hS; clear hS; have HS := Lib.hid ((H0.out _ _).step hbel); have k0 := HS.out.c0; have k1 := HS.out.c1; have k2 := HS.out.c2; clear hbel)
    | (go_at_call 25; refine (strung_any _).mono ?_; rintro e w2 ⟨rfl, hbel⟩; have HS := Lib.hid (HS.out.step hbel); have k0 := HS.out.c0; have k1 := HS.out.c1; have k2 := HS.out.c2; clear hbel)
    | (go_at_call 45; refine (check_any D L _ _ (HV.out.below HS.out.bel)).mono ?_; rw [HH.out]; rintro e w3 ⟨rfl, hbel⟩; have HS := Lib.hid (HS.out.step hbel); have k0 := HS.out.c0; have k1 := HS.out.c1; have k2 := HS.out.c2; clear hbel)
    | (go_at_call 47; refine (digits2_any n k (by omega) hn1 hn2 _).mono ?_; rintro e w7 ⟨T, rfl, hT, rfl⟩; have HT := Lib.hid hT; clear hT)
    | (go_at_call 46; refine (number2_any (fbits n k false) T HT.out (by rw [fbits_length]; omega) _).mono ?_; rintro e w8 ⟨rfl, rfl⟩)
    | (go_at_call 50; refine (HP.out _ _ (HV.out.below HS.out.bel)).mono ?_; rintro e w4 ⟨A1, n1, c1, m1, rfl, hO, hbel⟩; have HO := Lib.hid hO; clear hO; have HS := Lib.hid (HS.out.step hbel); have k0 := HS.out.c0; have k1 := HS.out.c1; have k2 := HS.out.c2; have hz : w.heap.size < w4.heap.size := (by have := HS.out.sz; omega); have hz2 : w.heap.size + 1 < w4.heap.size := (by have := HS.out.sz; omega); clear hbel)
    | (go_at_call 51; refine (HG.out _ _ (HV.out.below (HS.out.step (blw_alloc (Below.refl _ _) _)).bel)).mono ?_; rintro e w5 ⟨rfl, hbel⟩; have HO := Lib.hid (HO.out.below (blw_then (blw_alloc (Below.refl _ _) _) hbel)); have HS := Lib.hid ((HS.out.step (blw_alloc (Below.refl _ _) _)).step hbel); have o0 := (hbel.cell (p := ⟨w4.heap.size, 0, none⟩) (by simp)).trans (by simp [go_sem] : _ = some (Value.slice A1 n1 c1)); have o1 := (hbel.cell (p := ⟨w4.heap.size, 1, none⟩) (by simp)).trans (by simp [go_sem] : _ = some (Value.int IntKind.i64 m1)); clear hbel)
    | (go_at_call 52; refine (holds_gen HO.out _ (by first | (intro h; exact absurd h (by decide)) | (intro _; rw [HL.out, app_list, HSS.out, HU.out]; simp [digs]))).mono ?_; rintro e w6 ⟨rfl, hbel⟩; have HS := Lib.hid (HS.out.step hbel); clear hbel))
  all_goals try (exfalso; omega)
  all_goals (go_ret; exact ⟨rfl, HS.out.bel⟩)

set_option maxRecDepth 100000 in
set_option maxHeartbeats 4000000 in
theorem bp_big_ok (D : List UInt8) (L k : Nat) (n : Int) (low : Bool) (v : Value) (w : World) (hv : RB w v D) (h : chk D L = 0) (hk : 1 ≤ k ∧ k ≤ 63) (hnb : -9223372036854775808 ≤ n ∧ n ≤ 9223372036854775807) (hn : 0 ≤ n) (hq : ((numOf (fbits n k false) : Int) != n) = true) (a : Nat) (hs : a + k ≤ L) (l : List Bool) (hl : l = unp D L ++ fbits n k low) (HP0 : PutR D L n k low 11 l) (HG0 : GetR D L (a : Int) k low (getV D a k low) 0) :
    Calls Try.prog 11 #[.agg #[v, .int .i64 L], .int .i64 n, .int .i64 (a : Int), .int .i64 k, .bool low] w (Tr w) := by
  obtain ⟨A, c, rfl⟩ := hv.len
  have hL := digits_bd h
  obtain ⟨hk1, hk2⟩ := hk
  obtain ⟨hn1, hn2⟩ := hnb
  have HV := Lib.hid hv
  have HP := Lib.hid HP0
  have HG := Lib.hid HG0
  have HH := Lib.hid h
  have HL := Lib.hid hl
  clear hv h HP0 HG0 hl
  go_enter Try.func11, Try.ntmps11
  have hmf := bp_mf
  have H0 := Lib.hid (BPS.start w A D.length c L low)
  go_wp2_with (first
    | (go_at_call 44; refine (digits_ok D L _ _ (HV.out.below (H0.out _ _).bel) HH.out).mono ?_; rintro e w1 ⟨S, rfl, hS, hbel⟩; have hsz : S.size = L := (by rw [size_of_list hS, digs_length]; simp [unp]); have HSS := Lib.hid hS; clear hS; have hsl := bp_slice S a k (by omega); have HS := Lib.hid ((H0.out _ _).step hbel); have k0 := HS.out.c0; have k1 := HS.out.c1; have k2 := HS.out.c2; clear hbel)
    | (go_at_call 25; refine (strung_any _).mono ?_; rintro e w2 ⟨rfl, hbel⟩; have HS := Lib.hid (HS.out.step hbel); have k0 := HS.out.c0; have k1 := HS.out.c1; have k2 := HS.out.c2; clear hbel)
    | (go_at_call 45; refine (check_any D L _ _ (HV.out.below HS.out.bel)).mono ?_; rw [HH.out]; rintro e w3 ⟨rfl, hbel⟩; have HS := Lib.hid (HS.out.step hbel); have k0 := HS.out.c0; have k1 := HS.out.c1; have k2 := HS.out.c2; clear hbel)
    | (go_at_call 47; refine (digits2_any n k (by omega) hn1 hn2 _).mono ?_; rintro e w7 ⟨T, rfl, hT, rfl⟩; have HT := Lib.hid hT; clear hT)
    | (go_at_call 48; refine (bp_turn _ low (sub D a k) (S.extract a (a + k)) (sub_digs D L a k hs S HSS.out) (by rw [sub_length]; omega) _ k2).mono ?_; rintro e wa ⟨X, rfl, hX, hbel⟩; have HX := Lib.hid hX; clear hX; have HS := Lib.hid (HS.out.step hbel); have k0 := HS.out.c0; have k1 := HS.out.c1; have k2 := HS.out.c2; clear hbel)
    | (go_at_call 46; refine (number2_any _ X HX.out (subl_le D a k low (by omega)) _).mono ?_; rw [numOf_val]; rintro e wb ⟨rfl, rfl⟩)
    | (go_at_call 46; refine (number2_any (fbits n k false) T HT.out (by rw [fbits_length]; omega) _).mono ?_; rintro e w8 ⟨rfl, rfl⟩)
    | (go_at_call 50; refine (HP.out _ _ (HV.out.below HS.out.bel)).mono ?_; rintro e w4 ⟨A1, n1, c1, m1, rfl, hO, hbel⟩; have HO := Lib.hid hO; clear hO; have HS := Lib.hid (HS.out.step hbel); have k0 := HS.out.c0; have k1 := HS.out.c1; have k2 := HS.out.c2; have hz : w.heap.size < w4.heap.size := (by have := HS.out.sz; omega); have hz2 : w.heap.size + 1 < w4.heap.size := (by have := HS.out.sz; omega); clear hbel)
    | (go_at_call 51; refine (HG.out _ _ (HV.out.below (HS.out.step (blw_alloc (Below.refl _ _) _)).bel)).mono ?_; rintro e w5 ⟨rfl, hbel⟩; have HO := Lib.hid (HO.out.below (blw_then (blw_alloc (Below.refl _ _) _) hbel)); have HS := Lib.hid ((HS.out.step (blw_alloc (Below.refl _ _) _)).step hbel); have o0 := (hbel.cell (p := ⟨w4.heap.size, 0, none⟩) (by simp)).trans (by simp [go_sem] : _ = some (Value.slice A1 n1 c1)); have o1 := (hbel.cell (p := ⟨w4.heap.size, 1, none⟩) (by simp)).trans (by simp [go_sem] : _ = some (Value.int IntKind.i64 m1)); clear hbel)
    | (go_at_call 52; refine (holds_gen HO.out _ (by first | (intro h; exact absurd h (by decide)) | (intro _; rw [HL.out, app_list, HSS.out, HU.out]; simp [digs]))).mono ?_; rintro e w6 ⟨rfl, hbel⟩; have HS := Lib.hid (HS.out.step hbel); clear hbel))
  all_goals try (exfalso; omega)
  all_goals (go_ret; exact ⟨rfl, HS.out.bel⟩)

set_option maxRecDepth 100000 in
set_option maxHeartbeats 4000000 in
theorem bp_full_neg (D : List UInt8) (L k : Nat) (n : Int) (at_ : Int) (hat : -9223372036854775808 ≤ at_ ∧ at_ ≤ 9223372036854775807) (low : Bool) (v : Value) (w : World) (hv : RB w v D) (h : chk D L = 0) (hk : 1 ≤ k ∧ k ≤ 63) (hnb : -9223372036854775808 ≤ n ∧ n ≤ 9223372036854775807) (hn : 0 ≤ n) (hq : ((numOf (fbits n k false) : Int) != n) = false) (hf : 64000 < L + k) (ha : at_ < 0) (l : List Bool) (hl : l = unp D L ++ fbits n k low) (HP0 : PutR D L n k low 6 l) (HG0 : GetR D L at_ k low 0 1) :
    Calls Try.prog 11 #[.agg #[v, .int .i64 L], .int .i64 n, .int .i64 at_, .int .i64 k, .bool low] w (Tr w) := by
  obtain ⟨A, c, rfl⟩ := hv.len
  have hL := digits_bd h
  obtain ⟨hk1, hk2⟩ := hk
  obtain ⟨hn1, hn2⟩ := hnb
  have HV := Lib.hid hv
  have HP := Lib.hid HP0
  have HG := Lib.hid HG0
  have HH := Lib.hid h
  have HL := Lib.hid hl
  clear hv h HP0 HG0 hl
  go_enter Try.func11, Try.ntmps11
  have hmf := bp_mf
  have H0 := Lib.hid (BPS.start w A D.length c L low)
  go_wp2_with (first
    | (go_at_call 44; refine (digits_ok D L _ _ (HV.out.below (H0.out _ _).bel) HH.out).mono ?_; rintro e w1 ⟨S, rfl, hS, hbel⟩; have hsz : S.size = L := (by rw [size_of_list hS, digs_length]; simp [unp]); have HSS := Lib.hid hS; clear hS; have HS := Lib.hid ((H0.out _ _).step hbel); have k0 := HS.out.c0; have k1 := HS.out.c1; have k2 := HS.out.c2; clear hbel)
    | (go_at_call 25; refine (strung_any _).mono ?_; rintro e w2 ⟨rfl, hbel⟩; have HS := Lib.hid (HS.out.step hbel); have k0 := HS.out.c0; have k1 := HS.out.c1; have k2 := HS.out.c2; clear hbel)
    | (go_at_call 45; refine (check_any D L _ _ (HV.out.below HS.out.bel)).mono ?_; rw [HH.out]; rintro e w3 ⟨rfl, hbel⟩; have HS := Lib.hid (HS.out.step hbel); have k0 := HS.out.c0; have k1 := HS.out.c1; have k2 := HS.out.c2; clear hbel)
    | (go_at_call 47; refine (digits2_any n k (by omega) hn1 hn2 _).mono ?_; rintro e w7 ⟨T, rfl, hT, rfl⟩; have HT := Lib.hid hT; clear hT)
    | (go_at_call 46; refine (number2_any (fbits n k false) T HT.out (by rw [fbits_length]; omega) _).mono ?_; rintro e w8 ⟨rfl, rfl⟩)
    | (go_at_call 50; refine (HP.out _ _ (HV.out.below HS.out.bel)).mono ?_; rintro e w4 ⟨A1, n1, c1, m1, rfl, hO, hbel⟩; have HO := Lib.hid hO; clear hO; have HS := Lib.hid (HS.out.step hbel); have k0 := HS.out.c0; have k1 := HS.out.c1; have k2 := HS.out.c2; have hz : w.heap.size < w4.heap.size := (by have := HS.out.sz; omega); have hz2 : w.heap.size + 1 < w4.heap.size := (by have := HS.out.sz; omega); clear hbel)
    | (go_at_call 51; refine (HG.out _ _ (HV.out.below (HS.out.step (blw_alloc (Below.refl _ _) _)).bel)).mono ?_; rintro e w5 ⟨rfl, hbel⟩; have HO := Lib.hid (HO.out.below (blw_then (blw_alloc (Below.refl _ _) _) hbel)); have HS := Lib.hid ((HS.out.step (blw_alloc (Below.refl _ _) _)).step hbel); have o0 := (hbel.cell (p := ⟨w4.heap.size, 0, none⟩) (by simp)).trans (by simp [go_sem] : _ = some (Value.slice A1 n1 c1)); have o1 := (hbel.cell (p := ⟨w4.heap.size, 1, none⟩) (by simp)).trans (by simp [go_sem] : _ = some (Value.int IntKind.i64 m1)); clear hbel)
    | (go_at_call 52; refine (holds_gen HO.out _ (by first | (intro h; exact absurd h (by decide)) | (intro _; rw [HL.out, app_list, HSS.out, HU.out]; simp [digs]))).mono ?_; rintro e w6 ⟨rfl, hbel⟩; have HS := Lib.hid (HS.out.step hbel); clear hbel))
  all_goals try (exfalso; omega)
  all_goals (go_ret; exact ⟨rfl, HS.out.bel⟩)

set_option maxRecDepth 100000 in
set_option maxHeartbeats 4000000 in
theorem bp_full_short (D : List UInt8) (L k : Nat) (n : Int) (at_ : Int) (hat : -9223372036854775808 ≤ at_ ∧ at_ ≤ 9223372036854775807) (low : Bool) (v : Value) (w : World) (hv : RB w v D) (h : chk D L = 0) (hk : 1 ≤ k ∧ k ≤ 63) (hnb : -9223372036854775808 ≤ n ∧ n ≤ 9223372036854775807) (hn : 0 ≤ n) (hq : ((numOf (fbits n k false) : Int) != n) = false) (hf : 64000 < L + k) (ha : 0 ≤ at_) (hs : (L : Int) < at_ + k) (l : List Bool) (hl : l = unp D L ++ fbits n k low) (HP0 : PutR D L n k low 6 l) (HG0 : GetR D L at_ k low 0 13) :
    Calls Try.prog 11 #[.agg #[v, .int .i64 L], .int .i64 n, .int .i64 at_, .int .i64 k, .bool low] w (Tr w) := by
  obtain ⟨A, c, rfl⟩ := hv.len
  have hL := digits_bd h
  obtain ⟨hk1, hk2⟩ := hk
  obtain ⟨hn1, hn2⟩ := hnb
  have HV := Lib.hid hv
  have HP := Lib.hid HP0
  have HG := Lib.hid HG0
  have HH := Lib.hid h
  have HL := Lib.hid hl
  clear hv h HP0 HG0 hl
  go_enter Try.func11, Try.ntmps11
  have hmf := bp_mf
  have H0 := Lib.hid (BPS.start w A D.length c L low)
  go_wp2_with (first
    | (go_at_call 44; refine (digits_ok D L _ _ (HV.out.below (H0.out _ _).bel) HH.out).mono ?_; rintro e w1 ⟨S, rfl, hS, hbel⟩; have hsz : S.size = L := (by rw [size_of_list hS, digs_length]; simp [unp]); have HSS := Lib.hid hS; clear hS; have HS := Lib.hid ((H0.out _ _).step hbel); have k0 := HS.out.c0; have k1 := HS.out.c1; have k2 := HS.out.c2; clear hbel)
    | (go_at_call 25; refine (strung_any _).mono ?_; rintro e w2 ⟨rfl, hbel⟩; have HS := Lib.hid (HS.out.step hbel); have k0 := HS.out.c0; have k1 := HS.out.c1; have k2 := HS.out.c2; clear hbel)
    | (go_at_call 45; refine (check_any D L _ _ (HV.out.below HS.out.bel)).mono ?_; rw [HH.out]; rintro e w3 ⟨rfl, hbel⟩; have HS := Lib.hid (HS.out.step hbel); have k0 := HS.out.c0; have k1 := HS.out.c1; have k2 := HS.out.c2; clear hbel)
    | (go_at_call 47; refine (digits2_any n k (by omega) hn1 hn2 _).mono ?_; rintro e w7 ⟨T, rfl, hT, rfl⟩; have HT := Lib.hid hT; clear hT)
    | (go_at_call 46; refine (number2_any (fbits n k false) T HT.out (by rw [fbits_length]; omega) _).mono ?_; rintro e w8 ⟨rfl, rfl⟩)
    | (go_at_call 50; refine (HP.out _ _ (HV.out.below HS.out.bel)).mono ?_; rintro e w4 ⟨A1, n1, c1, m1, rfl, hO, hbel⟩; have HO := Lib.hid hO; clear hO; have HS := Lib.hid (HS.out.step hbel); have k0 := HS.out.c0; have k1 := HS.out.c1; have k2 := HS.out.c2; have hz : w.heap.size < w4.heap.size := (by have := HS.out.sz; omega); have hz2 : w.heap.size + 1 < w4.heap.size := (by have := HS.out.sz; omega); clear hbel)
    | (go_at_call 51; refine (HG.out _ _ (HV.out.below (HS.out.step (blw_alloc (Below.refl _ _) _)).bel)).mono ?_; rintro e w5 ⟨rfl, hbel⟩; have HO := Lib.hid (HO.out.below (blw_then (blw_alloc (Below.refl _ _) _) hbel)); have HS := Lib.hid ((HS.out.step (blw_alloc (Below.refl _ _) _)).step hbel); have o0 := (hbel.cell (p := ⟨w4.heap.size, 0, none⟩) (by simp)).trans (by simp [go_sem] : _ = some (Value.slice A1 n1 c1)); have o1 := (hbel.cell (p := ⟨w4.heap.size, 1, none⟩) (by simp)).trans (by simp [go_sem] : _ = some (Value.int IntKind.i64 m1)); clear hbel)
    | (go_at_call 52; refine (holds_gen HO.out _ (by first | (intro h; exact absurd h (by decide)) | (intro _; rw [HL.out, app_list, HSS.out, HU.out]; simp [digs]))).mono ?_; rintro e w6 ⟨rfl, hbel⟩; have HS := Lib.hid (HS.out.step hbel); clear hbel))
  all_goals try (exfalso; omega)
  all_goals (go_ret; exact ⟨rfl, HS.out.bel⟩)

set_option maxRecDepth 100000 in
set_option maxHeartbeats 4000000 in
theorem bp_full_ok (D : List UInt8) (L k : Nat) (n : Int) (low : Bool) (v : Value) (w : World) (hv : RB w v D) (h : chk D L = 0) (hk : 1 ≤ k ∧ k ≤ 63) (hnb : -9223372036854775808 ≤ n ∧ n ≤ 9223372036854775807) (hn : 0 ≤ n) (hq : ((numOf (fbits n k false) : Int) != n) = false) (hf : 64000 < L + k) (a : Nat) (hs : a + k ≤ L) (l : List Bool) (hl : l = unp D L ++ fbits n k low) (HP0 : PutR D L n k low 6 l) (HG0 : GetR D L (a : Int) k low (getV D a k low) 0) :
    Calls Try.prog 11 #[.agg #[v, .int .i64 L], .int .i64 n, .int .i64 (a : Int), .int .i64 k, .bool low] w (Tr w) := by
  obtain ⟨A, c, rfl⟩ := hv.len
  have hL := digits_bd h
  obtain ⟨hk1, hk2⟩ := hk
  obtain ⟨hn1, hn2⟩ := hnb
  have HV := Lib.hid hv
  have HP := Lib.hid HP0
  have HG := Lib.hid HG0
  have HH := Lib.hid h
  have HL := Lib.hid hl
  clear hv h HP0 HG0 hl
  go_enter Try.func11, Try.ntmps11
  have hmf := bp_mf
  have H0 := Lib.hid (BPS.start w A D.length c L low)
  go_wp2_with (first
    | (go_at_call 44; refine (digits_ok D L _ _ (HV.out.below (H0.out _ _).bel) HH.out).mono ?_; rintro e w1 ⟨S, rfl, hS, hbel⟩; have hsz : S.size = L := (by rw [size_of_list hS, digs_length]; simp [unp]); have HSS := Lib.hid hS; clear hS; have hsl := bp_slice S a k (by omega); have HS := Lib.hid ((H0.out _ _).step hbel); have k0 := HS.out.c0; have k1 := HS.out.c1; have k2 := HS.out.c2; clear hbel)
    | (go_at_call 25; refine (strung_any _).mono ?_; rintro e w2 ⟨rfl, hbel⟩; have HS := Lib.hid (HS.out.step hbel); have k0 := HS.out.c0; have k1 := HS.out.c1; have k2 := HS.out.c2; clear hbel)
    | (go_at_call 45; refine (check_any D L _ _ (HV.out.below HS.out.bel)).mono ?_; rw [HH.out]; rintro e w3 ⟨rfl, hbel⟩; have HS := Lib.hid (HS.out.step hbel); have k0 := HS.out.c0; have k1 := HS.out.c1; have k2 := HS.out.c2; clear hbel)
    | (go_at_call 47; refine (digits2_any n k (by omega) hn1 hn2 _).mono ?_; rintro e w7 ⟨T, rfl, hT, rfl⟩; have HT := Lib.hid hT; clear hT)
    | (go_at_call 48; refine (bp_turn _ low (sub D a k) (S.extract a (a + k)) (sub_digs D L a k hs S HSS.out) (by rw [sub_length]; omega) _ k2).mono ?_; rintro e wa ⟨X, rfl, hX, hbel⟩; have HX := Lib.hid hX; clear hX; have HS := Lib.hid (HS.out.step hbel); have k0 := HS.out.c0; have k1 := HS.out.c1; have k2 := HS.out.c2; clear hbel)
    | (go_at_call 46; refine (number2_any _ X HX.out (subl_le D a k low (by omega)) _).mono ?_; rw [numOf_val]; rintro e wb ⟨rfl, rfl⟩)
    | (go_at_call 46; refine (number2_any (fbits n k false) T HT.out (by rw [fbits_length]; omega) _).mono ?_; rintro e w8 ⟨rfl, rfl⟩)
    | (go_at_call 50; refine (HP.out _ _ (HV.out.below HS.out.bel)).mono ?_; rintro e w4 ⟨A1, n1, c1, m1, rfl, hO, hbel⟩; have HO := Lib.hid hO; clear hO; have HS := Lib.hid (HS.out.step hbel); have k0 := HS.out.c0; have k1 := HS.out.c1; have k2 := HS.out.c2; have hz : w.heap.size < w4.heap.size := (by have := HS.out.sz; omega); have hz2 : w.heap.size + 1 < w4.heap.size := (by have := HS.out.sz; omega); clear hbel)
    | (go_at_call 51; refine (HG.out _ _ (HV.out.below (HS.out.step (blw_alloc (Below.refl _ _) _)).bel)).mono ?_; rintro e w5 ⟨rfl, hbel⟩; have HO := Lib.hid (HO.out.below (blw_then (blw_alloc (Below.refl _ _) _) hbel)); have HS := Lib.hid ((HS.out.step (blw_alloc (Below.refl _ _) _)).step hbel); have o0 := (hbel.cell (p := ⟨w4.heap.size, 0, none⟩) (by simp)).trans (by simp [go_sem] : _ = some (Value.slice A1 n1 c1)); have o1 := (hbel.cell (p := ⟨w4.heap.size, 1, none⟩) (by simp)).trans (by simp [go_sem] : _ = some (Value.int IntKind.i64 m1)); clear hbel)
    | (go_at_call 52; refine (holds_gen HO.out _ (by first | (intro h; exact absurd h (by decide)) | (intro _; rw [HL.out, app_list, HSS.out, HU.out]; simp [digs]))).mono ?_; rintro e w6 ⟨rfl, hbel⟩; have HS := Lib.hid (HS.out.step hbel); clear hbel))
  all_goals try (exfalso; omega)
  all_goals (go_ret; exact ⟨rfl, HS.out.bel⟩)

set_option maxRecDepth 100000 in
set_option maxHeartbeats 4000000 in
theorem bp_ok_neg (D : List UInt8) (L k : Nat) (n : Int) (at_ : Int) (hat : -9223372036854775808 ≤ at_ ∧ at_ ≤ 9223372036854775807) (low : Bool) (v : Value) (w : World) (hv : RB w v D) (h : chk D L = 0) (hk : 1 ≤ k ∧ k ≤ 63) (hnb : -9223372036854775808 ≤ n ∧ n ≤ 9223372036854775807) (hn : 0 ≤ n) (hq : ((numOf (fbits n k false) : Int) != n) = false) (hf : L + k ≤ 64000) (ha : at_ < 0) (l : List Bool) (hl : l = unp D L ++ fbits n k low) (HP0 : PutR D L n k low 0 l) (HG0 : GetR D L at_ k low 0 1) :
    Calls Try.prog 11 #[.agg #[v, .int .i64 L], .int .i64 n, .int .i64 at_, .int .i64 k, .bool low] w (Tr w) := by
  obtain ⟨A, c, rfl⟩ := hv.len
  have hL := digits_bd h
  obtain ⟨hk1, hk2⟩ := hk
  obtain ⟨hn1, hn2⟩ := hnb
  have HV := Lib.hid hv
  have HP := Lib.hid HP0
  have HG := Lib.hid HG0
  have HH := Lib.hid h
  have HL := Lib.hid hl
  clear hv h HP0 HG0 hl
  go_enter Try.func11, Try.ntmps11
  have hmf := bp_mf
  have H0 := Lib.hid (BPS.start w A D.length c L low)
  go_wp2_with (first
    | (go_at_call 44; refine (digits_ok D L _ _ (HV.out.below (H0.out _ _).bel) HH.out).mono ?_; rintro e w1 ⟨S, rfl, hS, hbel⟩; have hsz : S.size = L := (by rw [size_of_list hS, digs_length]; simp [unp]); have HSS := Lib.hid hS; clear hS; have HS := Lib.hid ((H0.out _ _).step hbel); have k0 := HS.out.c0; have k1 := HS.out.c1; have k2 := HS.out.c2; clear hbel)
    | (go_at_call 25; refine (strung_any _).mono ?_; rintro e w2 ⟨rfl, hbel⟩; have HS := Lib.hid (HS.out.step hbel); have k0 := HS.out.c0; have k1 := HS.out.c1; have k2 := HS.out.c2; clear hbel)
    | (go_at_call 45; refine (check_any D L _ _ (HV.out.below HS.out.bel)).mono ?_; rw [HH.out]; rintro e w3 ⟨rfl, hbel⟩; have HS := Lib.hid (HS.out.step hbel); have k0 := HS.out.c0; have k1 := HS.out.c1; have k2 := HS.out.c2; clear hbel)
    | (go_at_call 47; refine (digits2_any n k (by omega) hn1 hn2 _).mono ?_; rintro e w7 ⟨T, rfl, hT, rfl⟩; have HT := Lib.hid hT; clear hT)
    | (go_at_call 46; refine (number2_any (fbits n k false) T HT.out (by rw [fbits_length]; omega) _).mono ?_; rintro e w8 ⟨rfl, rfl⟩)
    | (go_at_call 48; refine (bp_turn _ low (fbits n k false) T HT.out (by rw [fbits_length]; omega) _ k2).mono ?_; rw [fbits_low]; rintro e w9 ⟨U, rfl, hU, hbel⟩; have hUs : U.size = k := (by rw [size_of_list hU, digs_length, fbits_length]); have HU := Lib.hid hU; clear hU; have HS := Lib.hid (HS.out.step hbel); have k0 := HS.out.c0; have k1 := HS.out.c1; have k2 := HS.out.c2; clear hbel)
    | (go_at_call 50; refine (HP.out _ _ (HV.out.below HS.out.bel)).mono ?_; rintro e w4 ⟨A1, n1, c1, m1, rfl, hO, hbel⟩; have HO := Lib.hid hO; clear hO; have HS := Lib.hid (HS.out.step hbel); have k0 := HS.out.c0; have k1 := HS.out.c1; have k2 := HS.out.c2; have hz : w.heap.size < w4.heap.size := (by have := HS.out.sz; omega); have hz2 : w.heap.size + 1 < w4.heap.size := (by have := HS.out.sz; omega); clear hbel)
    | (go_at_call 51; refine (HG.out _ _ (HV.out.below (HS.out.step (blw_alloc (Below.refl _ _) _)).bel)).mono ?_; rintro e w5 ⟨rfl, hbel⟩; have HO := Lib.hid (HO.out.below (blw_then (blw_alloc (Below.refl _ _) _) hbel)); have HS := Lib.hid ((HS.out.step (blw_alloc (Below.refl _ _) _)).step hbel); have o0 := (hbel.cell (p := ⟨w4.heap.size, 0, none⟩) (by simp)).trans (by simp [go_sem] : _ = some (Value.slice A1 n1 c1)); have o1 := (hbel.cell (p := ⟨w4.heap.size, 1, none⟩) (by simp)).trans (by simp [go_sem] : _ = some (Value.int IntKind.i64 m1)); clear hbel)
    | (go_at_call 52; refine (holds_gen HO.out _ (by first | (intro h; exact absurd h (by decide)) | (intro _; rw [HL.out, app_list, HSS.out, HU.out]; simp [digs]))).mono ?_; rintro e w6 ⟨rfl, hbel⟩; have HS := Lib.hid (HS.out.step hbel); clear hbel))
  all_goals try (exfalso; omega)
  all_goals (go_ret; exact ⟨rfl, HS.out.bel⟩)

set_option maxRecDepth 100000 in
set_option maxHeartbeats 4000000 in
theorem bp_ok_short (D : List UInt8) (L k : Nat) (n : Int) (at_ : Int) (hat : -9223372036854775808 ≤ at_ ∧ at_ ≤ 9223372036854775807) (low : Bool) (v : Value) (w : World) (hv : RB w v D) (h : chk D L = 0) (hk : 1 ≤ k ∧ k ≤ 63) (hnb : -9223372036854775808 ≤ n ∧ n ≤ 9223372036854775807) (hn : 0 ≤ n) (hq : ((numOf (fbits n k false) : Int) != n) = false) (hf : L + k ≤ 64000) (ha : 0 ≤ at_) (hs : (L : Int) < at_ + k) (l : List Bool) (hl : l = unp D L ++ fbits n k low) (HP0 : PutR D L n k low 0 l) (HG0 : GetR D L at_ k low 0 13) :
    Calls Try.prog 11 #[.agg #[v, .int .i64 L], .int .i64 n, .int .i64 at_, .int .i64 k, .bool low] w (Tr w) := by
  obtain ⟨A, c, rfl⟩ := hv.len
  have hL := digits_bd h
  obtain ⟨hk1, hk2⟩ := hk
  obtain ⟨hn1, hn2⟩ := hnb
  have HV := Lib.hid hv
  have HP := Lib.hid HP0
  have HG := Lib.hid HG0
  have HH := Lib.hid h
  have HL := Lib.hid hl
  clear hv h HP0 HG0 hl
  go_enter Try.func11, Try.ntmps11
  have hmf := bp_mf
  have H0 := Lib.hid (BPS.start w A D.length c L low)
  go_wp2_with (first
    | (go_at_call 44; refine (digits_ok D L _ _ (HV.out.below (H0.out _ _).bel) HH.out).mono ?_; rintro e w1 ⟨S, rfl, hS, hbel⟩; have hsz : S.size = L := (by rw [size_of_list hS, digs_length]; simp [unp]); have HSS := Lib.hid hS; clear hS; have HS := Lib.hid ((H0.out _ _).step hbel); have k0 := HS.out.c0; have k1 := HS.out.c1; have k2 := HS.out.c2; clear hbel)
    | (go_at_call 25; refine (strung_any _).mono ?_; rintro e w2 ⟨rfl, hbel⟩; have HS := Lib.hid (HS.out.step hbel); have k0 := HS.out.c0; have k1 := HS.out.c1; have k2 := HS.out.c2; clear hbel)
    | (go_at_call 45; refine (check_any D L _ _ (HV.out.below HS.out.bel)).mono ?_; rw [HH.out]; rintro e w3 ⟨rfl, hbel⟩; have HS := Lib.hid (HS.out.step hbel); have k0 := HS.out.c0; have k1 := HS.out.c1; have k2 := HS.out.c2; clear hbel)
    | (go_at_call 47; refine (digits2_any n k (by omega) hn1 hn2 _).mono ?_; rintro e w7 ⟨T, rfl, hT, rfl⟩; have HT := Lib.hid hT; clear hT)
    | (go_at_call 46; refine (number2_any (fbits n k false) T HT.out (by rw [fbits_length]; omega) _).mono ?_; rintro e w8 ⟨rfl, rfl⟩)
    | (go_at_call 48; refine (bp_turn _ low (fbits n k false) T HT.out (by rw [fbits_length]; omega) _ k2).mono ?_; rw [fbits_low]; rintro e w9 ⟨U, rfl, hU, hbel⟩; have hUs : U.size = k := (by rw [size_of_list hU, digs_length, fbits_length]); have HU := Lib.hid hU; clear hU; have HS := Lib.hid (HS.out.step hbel); have k0 := HS.out.c0; have k1 := HS.out.c1; have k2 := HS.out.c2; clear hbel)
    | (go_at_call 50; refine (HP.out _ _ (HV.out.below HS.out.bel)).mono ?_; rintro e w4 ⟨A1, n1, c1, m1, rfl, hO, hbel⟩; have HO := Lib.hid hO; clear hO; have HS := Lib.hid (HS.out.step hbel); have k0 := HS.out.c0; have k1 := HS.out.c1; have k2 := HS.out.c2; have hz : w.heap.size < w4.heap.size := (by have := HS.out.sz; omega); have hz2 : w.heap.size + 1 < w4.heap.size := (by have := HS.out.sz; omega); clear hbel)
    | (go_at_call 51; refine (HG.out _ _ (HV.out.below (HS.out.step (blw_alloc (Below.refl _ _) _)).bel)).mono ?_; rintro e w5 ⟨rfl, hbel⟩; have HO := Lib.hid (HO.out.below (blw_then (blw_alloc (Below.refl _ _) _) hbel)); have HS := Lib.hid ((HS.out.step (blw_alloc (Below.refl _ _) _)).step hbel); have o0 := (hbel.cell (p := ⟨w4.heap.size, 0, none⟩) (by simp)).trans (by simp [go_sem] : _ = some (Value.slice A1 n1 c1)); have o1 := (hbel.cell (p := ⟨w4.heap.size, 1, none⟩) (by simp)).trans (by simp [go_sem] : _ = some (Value.int IntKind.i64 m1)); clear hbel)
    | (go_at_call 52; refine (holds_gen HO.out _ (by first | (intro h; exact absurd h (by decide)) | (intro _; rw [HL.out, app_list, HSS.out, HU.out]; simp [digs]))).mono ?_; rintro e w6 ⟨rfl, hbel⟩; have HS := Lib.hid (HS.out.step hbel); clear hbel))
  all_goals try (exfalso; omega)
  all_goals (go_ret; exact ⟨rfl, HS.out.bel⟩)

set_option maxRecDepth 100000 in
set_option maxHeartbeats 4000000 in
theorem bp_ok_ok (D : List UInt8) (L k : Nat) (n : Int) (low : Bool) (v : Value) (w : World) (hv : RB w v D) (h : chk D L = 0) (hk : 1 ≤ k ∧ k ≤ 63) (hnb : -9223372036854775808 ≤ n ∧ n ≤ 9223372036854775807) (hn : 0 ≤ n) (hq : ((numOf (fbits n k false) : Int) != n) = false) (hf : L + k ≤ 64000) (a : Nat) (hs : a + k ≤ L) (l : List Bool) (hl : l = unp D L ++ fbits n k low) (HP0 : PutR D L n k low 0 l) (HG0 : GetR D L (a : Int) k low (getV D a k low) 0) :
    Calls Try.prog 11 #[.agg #[v, .int .i64 L], .int .i64 n, .int .i64 (a : Int), .int .i64 k, .bool low] w (Tr w) := by
  obtain ⟨A, c, rfl⟩ := hv.len
  have hL := digits_bd h
  obtain ⟨hk1, hk2⟩ := hk
  obtain ⟨hn1, hn2⟩ := hnb
  have HV := Lib.hid hv
  have HP := Lib.hid HP0
  have HG := Lib.hid HG0
  have HH := Lib.hid h
  have HL := Lib.hid hl
  clear hv h HP0 HG0 hl
  go_enter Try.func11, Try.ntmps11
  have hmf := bp_mf
  have H0 := Lib.hid (BPS.start w A D.length c L low)
  go_wp2_with (first
    | (go_at_call 44; refine (digits_ok D L _ _ (HV.out.below (H0.out _ _).bel) HH.out).mono ?_; rintro e w1 ⟨S, rfl, hS, hbel⟩; have hsz : S.size = L := (by rw [size_of_list hS, digs_length]; simp [unp]); have HSS := Lib.hid hS; clear hS; have hsl := bp_slice S a k (by omega); have HS := Lib.hid ((H0.out _ _).step hbel); have k0 := HS.out.c0; have k1 := HS.out.c1; have k2 := HS.out.c2; clear hbel)
    | (go_at_call 25; refine (strung_any _).mono ?_; rintro e w2 ⟨rfl, hbel⟩; have HS := Lib.hid (HS.out.step hbel); have k0 := HS.out.c0; have k1 := HS.out.c1; have k2 := HS.out.c2; clear hbel)
    | (go_at_call 45; refine (check_any D L _ _ (HV.out.below HS.out.bel)).mono ?_; rw [HH.out]; rintro e w3 ⟨rfl, hbel⟩; have HS := Lib.hid (HS.out.step hbel); have k0 := HS.out.c0; have k1 := HS.out.c1; have k2 := HS.out.c2; clear hbel)
    | (go_at_call 47; refine (digits2_any n k (by omega) hn1 hn2 _).mono ?_; rintro e w7 ⟨T, rfl, hT, rfl⟩; have HT := Lib.hid hT; clear hT)
    | (go_at_call 48; have hU' := HU; clear hU'; refine (bp_turn _ low (sub D a k) (S.extract a (a + k)) (sub_digs D L a k hs S HSS.out) (by rw [sub_length]; omega) _ k2).mono ?_; rintro e wa ⟨X, rfl, hX, hbel⟩; have HX := Lib.hid hX; clear hX; have HS := Lib.hid (HS.out.step hbel); have k0 := HS.out.c0; have k1 := HS.out.c1; have k2 := HS.out.c2; clear hbel)
    | (go_at_call 46; refine (number2_any _ X HX.out (subl_le D a k low (by omega)) _).mono ?_; rw [numOf_val]; rintro e wb ⟨rfl, rfl⟩)
    | (go_at_call 46; refine (number2_any (fbits n k false) T HT.out (by rw [fbits_length]; omega) _).mono ?_; rintro e w8 ⟨rfl, rfl⟩)
    | (go_at_call 48; refine (bp_turn _ low (fbits n k false) T HT.out (by rw [fbits_length]; omega) _ k2).mono ?_; rw [fbits_low]; rintro e w9 ⟨U, rfl, hU, hbel⟩; have hUs : U.size = k := (by rw [size_of_list hU, digs_length, fbits_length]); have HU := Lib.hid hU; clear hU; have HS := Lib.hid (HS.out.step hbel); have k0 := HS.out.c0; have k1 := HS.out.c1; have k2 := HS.out.c2; clear hbel)
    | (go_at_call 50; refine (HP.out _ _ (HV.out.below HS.out.bel)).mono ?_; rintro e w4 ⟨A1, n1, c1, m1, rfl, hO, hbel⟩; have HO := Lib.hid hO; clear hO; have HS := Lib.hid (HS.out.step hbel); have k0 := HS.out.c0; have k1 := HS.out.c1; have k2 := HS.out.c2; have hz : w.heap.size < w4.heap.size := (by have := HS.out.sz; omega); have hz2 : w.heap.size + 1 < w4.heap.size := (by have := HS.out.sz; omega); clear hbel)
    | (go_at_call 51; refine (HG.out _ _ (HV.out.below (HS.out.step (blw_alloc (Below.refl _ _) _)).bel)).mono ?_; rintro e w5 ⟨rfl, hbel⟩; have HO := Lib.hid (HO.out.below (blw_then (blw_alloc (Below.refl _ _) _) hbel)); have HS := Lib.hid ((HS.out.step (blw_alloc (Below.refl _ _) _)).step hbel); have o0 := (hbel.cell (p := ⟨w4.heap.size, 0, none⟩) (by simp)).trans (by simp [go_sem] : _ = some (Value.slice A1 n1 c1)); have o1 := (hbel.cell (p := ⟨w4.heap.size, 1, none⟩) (by simp)).trans (by simp [go_sem] : _ = some (Value.int IntKind.i64 m1)); clear hbel)
    | (go_at_call 52; refine (holds_gen HO.out _ (by first | (intro h; exact absurd h (by decide)) | (intro _; rw [HL.out, app_list, HSS.out, HU.out]; simp [digs]))).mono ?_; rintro e w6 ⟨rfl, hbel⟩; have HS := Lib.hid (HS.out.step hbel); clear hbel))
  all_goals try (exfalso; omega)
  all_goals (go_ret; exact ⟨rfl, HS.out.bel⟩)


end Go.Proofs.Ytilffmhmgoaejaa
