/- Contract of bits.Put. -/
import Derived.Test.YtnbdmmepdmmbmaaDoorBitsCopy
namespace Go.Proofs.YtnbdmmepdmmbmaaDoor
open Go.RowKit
set_option linter.unusedVariables false
set_option linter.unusedSimpArgs false
/-- The error of bits.Put. -/
def putE (D : List UInt8) (L n width : Int) : Int :=
  if chk D L ≠ 0 then chk D L else if width < 1 ∨ 63 < width then 1 else if n < 0 ∨ n / 2 ^ width.toNat ≠ 0 then 11 else if 64000 < L + width then 6 else 0
def Zeroed (x : Int) (w : World) (e : Ending) (w' : World) : Prop := e = .returned (.tuple #[.agg #[.slice none 0 0, .int .i64 0], .int .i64 x]) ∧ Below w.heap.size w w'
set_option maxHeartbeats 1000000 in
theorem put_chk (D : List UInt8) (L n width : Int) (low : Bool) (v : Value) (w : World) (hv : RB w v D) (h : chk D L ≠ 0) :
    Calls Tryd.prog 46 #[.agg #[v, .int .i64 L], .int .i64 n, .int .i64 width, .bool low] w (Zeroed (chk D L) w) := by
  obtain ⟨A, c, rfl⟩ := hv.len
  have HV := Lib.hid hv
  have h1 : (chk D L != 0) = true := by simpa using h
  have h2 : (chk D L == 0) = false := by simpa using h
  clear hv h
  go_enter Tryd.func46, Tryd.ntmps46
  go_wp2_with (go_at_call 76; refine (check_any D L _ _ (HV.out.below (blw_alloc (blw_alloc (Below.refl _ _) _) _))).mono ?_; rintro e w1 ⟨rfl, hbel⟩; obtain ⟨hc, hf⟩ := bcell hbel; have hz := hbel.size; simp at hz)
  refine bodyPost_ret (v := .tuple #[.agg #[.slice none 0 0, .int .i64 0], .int .i64 (chk D L)]) (by simp [results, Tryd.results46, go_sem, hc, hz]) rfl ⟨rfl, ?_⟩
  exact ((blw_then (blw_alloc (blw_alloc (Below.refl _ _) _) _) hbel).setCell (p := ⟨w.heap.size + 1, 0, none⟩) (by simp <;> omega) _).setCell (p := ⟨w.heap.size + 1, 1, none⟩) (by simp <;> omega) _
set_option maxHeartbeats 1000000 in
theorem put_arg (D : List UInt8) (L n width : Int) (low : Bool) (v : Value) (w : World) (hv : RB w v D) (h : chk D L = 0) (hw : width < 1 ∨ 63 < width) :
    Calls Tryd.prog 46 #[.agg #[v, .int .i64 L], .int .i64 n, .int .i64 width, .bool low] w (Zeroed 1 w) := by
  obtain ⟨A, c, rfl⟩ := hv.len
  have HC : ∀ w', Below w.heap.size w w' → Calls Tryd.prog 76 #[.agg #[.slice A D.length c, .int .i64 L]] w' fun e w'' => e = .returned (.int .i64 0) ∧ Below w'.heap.size w' w'' := fun w' hb => by
    have := check_any D L _ w' (hv.below hb); rwa [h] at this
  have HC' := Lib.hid HC
  clear hv h HC
  go_enter Tryd.func46, Tryd.ntmps46
  go_wp2_with (go_at_call 76; refine (HC'.out _ (blw_alloc (blw_alloc (Below.refl _ _) _) _)).mono ?_; rintro e w1 ⟨rfl, hbel⟩; obtain ⟨hc, hf⟩ := bcell hbel; have hz := hbel.size; simp at hz)
  all_goals try (exfalso; omega)
  all_goals
    refine bodyPost_ret (v := .tuple #[.agg #[.slice none 0 0, .int .i64 0], .int .i64 1]) (by simp [results, Tryd.results46, go_sem, hc, hz]) rfl ⟨rfl, ?_⟩
    exact ((blw_then (blw_alloc (blw_alloc (Below.refl _ _) _) _) hbel).setCell (p := ⟨w.heap.size + 1, 0, none⟩) (by simp <;> omega) _).setCell (p := ⟨w.heap.size + 1, 1, none⟩) (by simp <;> omega) _
set_option maxHeartbeats 1000000 in
theorem put_range (D : List UInt8) (L n : Int) (k : Nat) (low : Bool) (v : Value) (w : World) (hv : RB w v D) (h : chk D L = 0) (hk : 1 ≤ k ∧ k ≤ 63) (hn : n < 0 ∨ n / 2 ^ k ≠ 0) :
    Calls Tryd.prog 46 #[.agg #[v, .int .i64 L], .int .i64 n, .int .i64 k, .bool low] w (Zeroed 11 w) := by
  obtain ⟨A, c, rfl⟩ := hv.len
  have HC : ∀ w', Below w.heap.size w w' → Calls Tryd.prog 76 #[.agg #[.slice A D.length c, .int .i64 L]] w' fun e w'' => e = .returned (.int .i64 0) ∧ Below w'.heap.size w' w'' := fun w' hb => by
    have := check_any D L _ w' (hv.below hb); rwa [h] at this
  have HC' := Lib.hid HC
  obtain ⟨hk1, hk2⟩ := hk
  have HN := Lib.hid hn
  clear hv h hn HC
  go_enter Tryd.func46, Tryd.ntmps46
  go_wp2_with (go_at_call 76; refine (HC'.out _ (blw_alloc (blw_alloc (Below.refl _ _) _) _)).mono ?_; rintro e w1 ⟨rfl, hbel⟩; obtain ⟨hc, hf⟩ := bcell hbel; have hz := hbel.size; simp at hz)
  all_goals try (exfalso; omega)
  all_goals first
    | (exfalso
       rcases HN.out with q | q
       · omega
       · have q2 : 0 ≤ n ∧ (n / 2 ^ k != 0) = false := by assumption
         exact q (by simpa using q2.2))
    | (refine bodyPost_ret (v := .tuple #[.agg #[.slice none 0 0, .int .i64 0], .int .i64 11]) (by simp [results, Tryd.results46, go_sem, hc, hz]) rfl ⟨rfl, ?_⟩
       exact ((blw_then (blw_alloc (blw_alloc (Below.refl _ _) _) _) hbel).setCell (p := ⟨w.heap.size + 1, 0, none⟩) (by simp <;> omega) _).setCell (p := ⟨w.heap.size + 1, 1, none⟩) (by simp <;> omega) _)
theorem chk_bd {D : List UInt8} {L : Int} (h : chk D L = 0) : 0 ≤ L ∧ L ≤ 64000 ∧ (D.length : Int) = (L + 7) / 8 ∧ ¬ (0 < L % 8 ∧ gb D (L / 8).toNat * 2 ^ (L % 8).toNat % 256 ≠ 0) := by
  unfold chk at h
  split at h
  · omega
  · split at h
    · omega
    · split at h
      · omega
      · next a b c => exact ⟨by omega, by omega, by omega, c⟩
set_option maxHeartbeats 1000000 in
theorem put_full (D : List UInt8) (L n : Int) (k : Nat) (low : Bool) (v : Value) (w : World) (hv : RB w v D) (h : chk D L = 0) (hk : 1 ≤ k ∧ k ≤ 63) (hn : 0 ≤ n ∧ n / 2 ^ k = 0) (hf : 64000 < L + k) :
    Calls Tryd.prog 46 #[.agg #[v, .int .i64 L], .int .i64 n, .int .i64 k, .bool low] w (Zeroed 6 w) := by
  obtain ⟨A, c, rfl⟩ := hv.len
  obtain ⟨l0, l1, _⟩ := chk_bd h
  have HC : ∀ w', Below w.heap.size w w' → Calls Tryd.prog 76 #[.agg #[.slice A D.length c, .int .i64 L]] w' fun e w'' => e = .returned (.int .i64 0) ∧ Below w'.heap.size w' w'' := fun w' hb => by
    have := check_any D L _ w' (hv.below hb); rwa [h] at this
  have HC' := Lib.hid HC
  obtain ⟨hk1, hk2⟩ := hk
  obtain ⟨hn1, hn2⟩ := hn
  clear hv h HC
  go_enter Tryd.func46, Tryd.ntmps46
  go_wp2_with (go_at_call 76; refine (HC'.out _ (blw_alloc (blw_alloc (Below.refl _ _) _) _)).mono ?_; rintro e w1 ⟨rfl, hbel⟩; obtain ⟨hc, hf⟩ := bcell hbel; have hz := hbel.size; simp at hz)
  all_goals try (exfalso; omega)
  all_goals
    refine bodyPost_ret (v := .tuple #[.agg #[.slice none 0 0, .int .i64 0], .int .i64 6]) (by simp [results, Tryd.results46, go_sem, hc, hz]) rfl ⟨rfl, ?_⟩
    exact ((blw_then (blw_alloc (blw_alloc (Below.refl _ _) _) _) hbel).setCell (p := ⟨w.heap.size + 1, 0, none⟩) (by simp <;> omega) _).setCell (p := ⟨w.heap.size + 1, 1, none⟩) (by simp <;> omega) _
/-- The bits of a field: of n, the highest one first, or the lowest one. -/
def fbit (n : Int) (k : Nat) (low : Bool) (i : Nat) : Bool := (n / 2 ^ (if low then i else k - 1 - i)) % 2 == 1
def fbits (n : Int) (k : Nat) (low : Bool) : List Bool := (List.range k).map (fbit n k low)
theorem fbits_take (n : Int) (k : Nat) (low : Bool) (j : Nat) (h : j < k) : (fbits n k low).take (j + 1) = (fbits n k low).take j ++ [fbit n k low j] := by
  rw [List.take_succ_eq_append_getElem (by simpa [fbits] using h)]; simp [fbits]
theorem fbits_length (n : Int) (k : Nat) (low : Bool) : (fbits n k low).length = k := by simp [fbits]
def PutOk (D : List UInt8) (L : Nat) (n : Int) (k : Nat) (low : Bool) (w : World) (e : Ending) (w' : World) : Prop :=
  ∃ v, e = .returned (.tuple #[.agg #[v, .int .i64 (L + k : Nat)], .int .i64 0]) ∧ w'.ownsRow w.heap.size 5 1 v (pack (unp D L ++ fbits n k low)).length (Lib.byteCells (pack (unp D L ++ fbits n k low))) ∧ Below w.heap.size w w'
theorem chk_packed {D : List UInt8} {L : Nat} (h : chk D L = 0) : Packed (unp D L) D := by
  obtain ⟨_, _, h3, h4⟩ := chk_bd h
  refine packed_unp D L (by omega) fun i hi => ?_
  by_cases e : i / 8 < D.length
  · have e8 : i / 8 = L / 8 := by omega
    have h8 : 0 < (L : Int) % 8 := by omega
    have h5 : ¬ (gb D ((L : Int) / 8).toNat * 2 ^ ((L : Int) % 8).toNat % 256 ≠ 0) := fun q => h4 ⟨h8, q⟩
    rw [show ((L : Int) / 8).toNat = L / 8 by omega, show ((L : Int) % 8).toNat = L % 8 by omega] at h5
    have h6 : nb D (L / 8) * 2 ^ (L % 8) % 256 = 0 := by
      have : gb D (L / 8) = (nb D (L / 8) : Int) := rfl
      rw [this] at h5
      have h7 : ((nb D (L / 8) * 2 ^ (L % 8) % 256 : Nat) : Int) = 0 := by simpa using h5
      omega
    unfold ub
    rw [e8]
    have hx := nb_lt D (L / 8)
    have hr : L % 8 = 0 ∨ L % 8 = 1 ∨ L % 8 = 2 ∨ L % 8 = 3 ∨ L % 8 = 4 ∨ L % 8 = 5 ∨ L % 8 = 6 ∨ L % 8 = 7 := by omega
    have hj : i % 8 = 0 ∨ i % 8 = 1 ∨ i % 8 = 2 ∨ i % 8 = 3 ∨ i % 8 = 4 ∨ i % 8 = 5 ∨ i % 8 = 6 ∨ i % 8 = 7 := by omega
    have hle : L % 8 ≤ i % 8 := by omega
    generalize nb D (L / 8) = x at h6 hx ⊢
    rw [beq_eq_false_iff_ne]
    rcases hr with hr | hr | hr | hr | hr | hr | hr | hr <;> rw [hr] at h6 hle <;> rcases hj with hj | hj | hj | hj | hj | hj | hj | hj <;> rw [hj] at hle ⊢ <;> simp only [Nat.reduceSub, Nat.reducePow] at h6 ⊢ <;> omega
  · unfold ub; rw [nb_beyond D _ (by omega)]; simp
theorem and1_b01 (x : Int) : bits .and .i64 x 1 = b01 (x % 2 == 1) := by
  rw [i64_and1]; unfold b01
  have : x % 2 = 0 ∨ x % 2 = 1 := by omega
  rcases this with h | h <;> rw [h] <;> rfl
theorem add_eq (B ob : Nat) (l : List Bool) (b : Bool) (x : Int) (hx : x = b01 b) (w : World) (h : OB B ob l w) (hl : l.length < 64000) (hBw : B ≤ w.heap.size) :
    Calls Tryd.prog 38 #[.pointer (some ⟨ob, 0, none⟩), .int .i64 x] w fun e w' => e = .returned (.tuple #[]) ∧ OB B ob (l ++ [b]) w' ∧ Below B w w' := by
  subst hx; exact add_any B ob l b w h hl hBw
theorem own_lt' {w : World} {B : Nat} {v : Value} {n : Nat} {xs : List Value} (h : w.ownsRow B 5 1 v n xs) (k : Nat) (hk : v.ownBlock = some k) : k < w.heap.size := by
  rcases h.2 with ⟨rfl, _⟩ | ⟨g, cap, cur, rfl, hg, hh, _⟩
  · cases hk
  · have : g = k := Option.some.inj hk
    subst this
    exact (Array.getElem?_eq_some_iff.1 hh).1
set_option maxHeartbeats 2000000 in
theorem put_ok (D : List UInt8) (L : Nat) (n : Int) (k : Nat) (low : Bool) (v : Value) (w : World) (hv : RB w v D) (h : chk D L = 0) (hk : 1 ≤ k ∧ k ≤ 63) (hn : 0 ≤ n ∧ n / 2 ^ k = 0) (hf : L + k ≤ 64000) :
    Calls Tryd.prog 46 #[.agg #[v, .int .i64 L], .int .i64 n, .int .i64 k, .bool low] w (PutOk D L n k low w) := by
  obtain ⟨A, c, rfl⟩ := hv.len
  obtain ⟨l0, l1, l2, _⟩ := chk_bd h
  have hP := Lib.hid (chk_packed h)
  have HC : ∀ w', Below w.heap.size w w' → Calls Tryd.prog 76 #[.agg #[.slice A D.length c, .int .i64 L]] w' fun e w'' => e = .returned (.int .i64 0) ∧ Below w'.heap.size w' w'' := fun w' hb => by
    have := check_any D L _ w' (hv.below hb); rwa [h] at this
  have HC' := Lib.hid HC
  have HV := Lib.hid hv
  obtain ⟨hk1, hk2⟩ := hk
  obtain ⟨hn1, hn2⟩ := hn
  have hD : D.length ≤ 100000 := by omega
  have HL2 := Lib.hid l2
  clear hv h HC l2
  go_enter Tryd.func46, Tryd.ntmps46
  go_wp2_with (first
    | (go_at_call 76; refine (HC'.out _ (blw_alloc (blw_alloc (Below.refl _ _) _) _)).mono ?_; rintro e w1 ⟨rfl, hbel⟩; obtain ⟨hc, hf⟩ := bcell hbel; have hz := hbel.size; simp at hz)
    | (go_at_call 77; refine (copied_any D L _ _ (HV.out.below (blw_then (blw_alloc (blw_alloc (Below.refl _ _) _) _) hbel)) hD).mono ?_; rintro e w2 ⟨v2, rfl, hown2, hbel2⟩; obtain ⟨A2, c2, rfl⟩ := own_slc hown2))
  all_goals try (exfalso; omega)
  obtain ⟨ob, hob⟩ : ∃ ob, ob = w2.heap.size := ⟨_, rfl⟩
  obtain ⟨w3, hw3⟩ : ∃ w3, w3 = w2.alloc (Obj.cells #[Value.slice A2 D.length c2, Value.int IntKind.i64 L] 32) := ⟨_, rfl⟩
  have hz2 := hbel2.size
  have hlt2 : ∀ g, (Value.slice A2 D.length c2).ownBlock = some g → g < w2.heap.size := fun g hg => own_lt' hown2 g hg
  have hOB : OB (w.heap.size + 2) ob (unp D L) w3 := by
    refine ⟨by omega, .slice A2 D.length c2, ?_, ?_, fun e => ?_⟩
    · rw [hw3, hob, unp_length]; exact heap_alloc_new _ _
    · rw [hP.out.pack_eq, hw3]; exact own_lower (hown2.alloc _) (by omega)
    · have := hlt2 ob e; omega
  have hbA : Below (w.heap.size + 2) ((w.alloc (Obj.cells #[Value.slice A D.length c, Value.int IntKind.i64 L] 32)).alloc (Obj.cells #[Value.slice none 0 0, Value.int IntKind.i64 0] 32)) w3 := by
    rw [hw3]
    exact ((hbel.mono (by simp)).trans (hbel2.mono (by omega))).alloc (by omega) _
  rw [← hw3, ← hob]
  have HOB := Lib.hid hOB
  have HBA := Lib.hid hbA
  have hsz3 : w.heap.size + 2 ≤ w3.heap.size := by have := hbA.size; simpa using this
  clear hw3 hob hc hf hz hbel hbel2 hown2 hlt2 hOB hbA hz2
  go_loopw [48] (fun i wr => ∃ j : Nat, j ≤ k ∧ i = .int .i64 j ∧ OB (w.heap.size + 2) ob (unp D L ++ (fbits n k low).take j) wr ∧ Below (w.heap.size + 2) w3 wr) (fun i _ => k - (intOf i).toNat)
  case atStart => exact ⟨0, Nat.zero_le _, rfl, by simpa using HOB.out, Below.refl _ _⟩
  case round =>
    obtain ⟨j, hj, rfl, hO, hB⟩ := hrel
    have hszr := hB.size
    have HO := Lib.hid hO
    have HB := Lib.hid hB
    clear hO hB
    by_cases hlt : j < k
    · have hlen : (unp D L ++ (fbits n k low).take j).length < 64000 := by
        simp only [List.length_append, unp_length, List.length_take, fbits_length]; omega
      have HT := Lib.hid (fbits_take n k low j hlt)
      have hx : bits .and .i64 (n / 2 ^ (if low then j else k - 1 - j)) 1 = b01 (fbit n k low j) := and1_b01 _
      have HX := Lib.hid hx
      clear hx
      cases low
      all_goals
        go_wp2_with (go_at_call 38; refine (add_eq _ ob _ (fbit n k _ j) _ HX.out _ HO.out hlen (by omega)).mono ?_; rintro e w4 ⟨rfl, hO4, hB4⟩; have HO4 := Lib.hid hO4; have HB4 := Lib.hid hB4; clear hO4 hB4)
        go_roundw
        case rel => exact ⟨j + 1, by omega, by go_num, by rw [HT.out, ← List.append_assoc]; exact HO4.out, HB.out.trans HB4.out⟩
        case measure => simp [intOf]; omega
    · obtain rfl : j = k := by omega
      have hO := HO.out
      rw [List.take_of_length_le (by rw [fbits_length]; omega)] at hO
      obtain ⟨hB1, vr, hbr, hownr, hner⟩ := hO
      obtain ⟨A4, c4, rfl⟩ := own_slc hownr
      have c0 : wr.cell? ⟨ob, 0, none⟩ = some (.slice A4 (pack (unp D L ++ fbits n j low)).length c4) := by rw [Lib.cell_of_heap hbr]; rfl
      have c1 : wr.cell? ⟨ob, 1, none⟩ = some (.int .i64 (L + j : Nat)) := by
        rw [Lib.cell_of_heap hbr]; simp [fbits_length, unp_length]
      have hfull := HBA.out.trans HB.out
      have r0 : wr.cell? ⟨w.heap.size + 1, 0, none⟩ = some (.slice none 0 0) := by rw [hfull.cell (by simp)]; simp [go_sem]
      have r1 : wr.cell? ⟨w.heap.size + 1, 1, none⟩ = some (.int .i64 0) := by rw [hfull.cell (by simp)]; simp [go_sem]
      have g0 : wr.frozen? ⟨w.heap.size + 1, 0, none⟩ = false := by rw [hfull.frozen (by simp)]; simp [go_sem]
      have g1 : wr.frozen? ⟨w.heap.size + 1, 1, none⟩ = false := by rw [hfull.frozen (by simp)]; simp [go_sem]
      have HR := Lib.hid hownr
      have HF := Lib.hid hfull
      clear hbr hownr hfull hner
      go_wp2
      have hw1 : w.heap.size + 1 < wr.heap.size := by omega
      refine bodyPost_ret (v := .tuple #[.agg #[.slice A4 (pack (unp D L ++ fbits n j low)).length c4, .int .i64 (L + j : Nat)], .int .i64 0]) (by simp [results, Tryd.results46, go_sem, r0, r1, hw1]) rfl ⟨_, rfl, ?_, ?_⟩
      · exact own_lower (ownsRow_setCell_below (ownsRow_setCell_below HR.out (by simp <;> omega) _) (by simp <;> omega) _) (by omega)
      · exact ((blw_then (blw_alloc (blw_alloc (Below.refl _ _) _) _) (HF.out.mono (by simp))).setCell (p := ⟨w.heap.size + 1, 0, none⟩) (by simp <;> omega) _).setCell (p := ⟨w.heap.size + 1, 1, none⟩) (by simp <;> omega) _

end Go.Proofs.YtnbdmmepdmmbmaaDoor
