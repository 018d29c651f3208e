/- Contracts of bits.Align and bits.Cut. No statement is proved here. -/
import Derived.Test.YtnbdmmepdmmbmaaBitsText
namespace Go.Proofs.Ytnbdmmepdmmbmaa
open Go.RowKit
set_option linter.unusedVariables false
set_option linter.unusedSimpArgs false
/-- What a call left that gives bits and an error: nothing beside an error. -/
def OutOk (f : Int) (l : List Bool) (v : Value) (m : Int) (w : World) : Prop := (f ≠ 0 ∧ v = .slice none 0 0 ∧ m = 0) ∨ (f = 0 ∧ RB w v (pack l) ∧ m = l.length ∧ l.length ≤ 64000)
theorem OutOk.below {f l v m w w'} (h : OutOk f l v m w) (hb : Below w.heap.size w w') : OutOk f l v m w' := by
  rcases h with h | ⟨h1, h2, h3⟩
  · exact .inl h
  · exact .inr ⟨h1, h2.below hb, h3⟩
def PutG (f : Int) (l : List Bool) (w : World) (e : Ending) (w' : World) : Prop := ∃ A n c m, e = .returned (.tuple #[.agg #[.slice A n c, .int .i64 m], .int .i64 f]) ∧ OutOk f l (.slice A n c) m w' ∧ Below w.heap.size w w' ∧
  ∀ (b o b' o' : Nat) (y z : Value), b < w.heap.size → b' < w.heap.size → OutOk f l (.slice A n c) m ((w'.setCell ⟨b, o, none⟩ y).setCell ⟨b', o', none⟩ z)
theorem PutG.of_zeroed {f : Int} {l : List Bool} {w : World} (h : f ≠ 0) : ∀ e w', Zeroed f w e w' → PutG f l w e w' := by
  rintro e w' ⟨rfl, hb⟩; exact ⟨_, _, _, _, rfl, .inl ⟨h, rfl, rfl⟩, hb, fun _ _ _ _ _ _ _ _ => .inl ⟨h, rfl, rfl⟩⟩
def BOk (l : List Bool) (w : World) (e : Ending) (w' : World) : Prop :=
  ∃ v, e = .returned (.tuple #[.agg #[v, .int .i64 l.length], .int .i64 0]) ∧ w'.ownsRow w.heap.size 5 1 v (pack l).length (Lib.byteCells (pack l)) ∧ Below w.heap.size w w'
theorem PutG.of_ok {l : List Bool} {w : World} (hl : l.length ≤ 64000) : ∀ e w', BOk l w e w' → PutG 0 l w e w' := by
  rintro e w' ⟨v, rfl, ho, hb⟩
  obtain ⟨A, c, rfl⟩ := own_slc ho
  exact ⟨_, _, _, _, rfl, .inr ⟨rfl, RB.of_own ho, rfl, hl⟩, hb, fun b o b' o' y z h1 h2 => .inr ⟨rfl, RB.of_own (ownsRow_setCell_below (ownsRow_setCell_below ho h1 _) h2 _), rfl, hl⟩⟩
/-- How many digits Align adds. -/
def padN (L T : Nat) : Nat := (T - L % T) % T
/-- The error of bits.Align. -/
def alignE (D : List UInt8) (L tt : Int) : Int :=
  if chk D L ≠ 0 then chk D L else if tt < 1 ∨ 64000 < tt then 1 else if 64000 < L.toNat + padN L.toNat tt.toNat then 6 else 0
set_option maxHeartbeats 1000000 in
theorem align_chk (D : List UInt8) (L tt : Int) (v : Value) (w : World) (hv : RB w v D) (h : chk D L ≠ 0) :
    Calls Try.prog 8 #[.agg #[v, .int .i64 L], .int .i64 tt] w (Zeroed (chk D L) w) := by
  obtain ⟨A, c, rfl⟩ := hv.len
  have HV := Lib.hid hv
  have h1 : (chk D L != 0) = true := by simpa using h
  have h2 : (chk D L == 0) = false := by simpa using h
  clear hv h
  go_enter Try.func8, Try.ntmps8
  go_wp2_with (go_at_call 43; refine (check_any D L _ _ (HV.out.below (blw_alloc (blw_alloc (Below.refl _ _) _) _))).mono ?_; rintro e w1 ⟨rfl, hbel⟩; obtain ⟨hc, hf⟩ := bcell hbel; have hz := hbel.size; simp at hz)
  refine bodyPost_ret (v := .tuple #[.agg #[.slice none 0 0, .int .i64 0], .int .i64 (chk D L)]) (by simp [results, Try.results8, go_sem, hc, hz]) rfl ⟨rfl, ?_⟩
  exact ((blw_then (blw_alloc (blw_alloc (Below.refl _ _) _) _) hbel).setCell (p := ⟨w.heap.size + 1, 0, none⟩) (by simp <;> omega) _).setCell (p := ⟨w.heap.size + 1, 1, none⟩) (by simp <;> omega) _
set_option maxHeartbeats 1000000 in
theorem align_arg (D : List UInt8) (L tt : Int) (v : Value) (w : World) (hv : RB w v D) (h : chk D L = 0) (hw : tt < 1 ∨ 64000 < tt) :
    Calls Try.prog 8 #[.agg #[v, .int .i64 L], .int .i64 tt] w (Zeroed 1 w) := by
  obtain ⟨A, c, rfl⟩ := hv.len
  have HC : ∀ w', Below w.heap.size w w' → Calls Try.prog 43 #[.agg #[.slice A D.length c, .int .i64 L]] w' fun e w'' => e = .returned (.int .i64 0) ∧ Below w'.heap.size w' w'' := fun w' hb => by
    have := check_any D L _ w' (hv.below hb); rwa [h] at this
  have HC' := Lib.hid HC
  clear hv h HC
  go_enter Try.func8, Try.ntmps8
  go_wp2_with (go_at_call 43; refine (HC'.out _ (blw_alloc (blw_alloc (Below.refl _ _) _) _)).mono ?_; rintro e w1 ⟨rfl, hbel⟩; obtain ⟨hc, hf⟩ := bcell hbel; have hz := hbel.size; simp at hz)
  all_goals try (exfalso; omega)
  all_goals
    refine bodyPost_ret (v := .tuple #[.agg #[.slice none 0 0, .int .i64 0], .int .i64 1]) (by simp [results, Try.results8, go_sem, hc, hz]) rfl ⟨rfl, ?_⟩
    exact ((blw_then (blw_alloc (blw_alloc (Below.refl _ _) _) _) hbel).setCell (p := ⟨w.heap.size + 1, 0, none⟩) (by simp <;> omega) _).setCell (p := ⟨w.heap.size + 1, 1, none⟩) (by simp <;> omega) _
/-- What stands in memory while a result is made: the parameter, the empty result, all else that was there. -/
structure ALF (w : World) (v : Value) (L : Int) (W : World) : Prop where
  c0 : W.cell? ⟨w.heap.size, 0, none⟩ = some v
  c1 : W.cell? ⟨w.heap.size, 1, none⟩ = some (.int .i64 L)
  r0 : W.cell? ⟨w.heap.size + 1, 0, none⟩ = some (.slice none 0 0)
  r1 : W.cell? ⟨w.heap.size + 1, 1, none⟩ = some (.int .i64 0)
  g0 : W.frozen? ⟨w.heap.size + 1, 0, none⟩ = false
  g1 : W.frozen? ⟨w.heap.size + 1, 1, none⟩ = false
  sz : w.heap.size + 1 < W.heap.size
  bel : Below w.heap.size w W
theorem ALF.start (w : World) (v : Value) (L : Int) : ALF w v L ((w.alloc (.cells #[v, .int .i64 L] 24)).alloc (.cells #[.slice none 0 0, .int .i64 0] 24)) := by
  refine ⟨?_, ?_, ?_, ?_, ?_, ?_, by simp, blw_alloc (blw_alloc (Below.refl _ _) _) _⟩ <;> simp [go_sem]
theorem ALF.step {w : World} {v : Value} {L : Int} {W W' : World} (h : ALF w v L W) (hb : Below (w.heap.size + 2) W W') : ALF w v L W' := by
  have hs := h.sz
  refine ⟨?_, ?_, ?_, ?_, ?_, ?_, by have := hb.size; omega, h.bel.trans (hb.mono (by omega))⟩
  · rw [hb.cell (p := ⟨w.heap.size, 0, none⟩) (by show w.heap.size < _; omega)]; exact h.c0
  · rw [hb.cell (p := ⟨w.heap.size, 1, none⟩) (by show w.heap.size < _; omega)]; exact h.c1
  · rw [hb.cell (p := ⟨w.heap.size + 1, 0, none⟩) (by show w.heap.size + 1 < _; omega)]; exact h.r0
  · rw [hb.cell (p := ⟨w.heap.size + 1, 1, none⟩) (by show w.heap.size + 1 < _; omega)]; exact h.r1
  · rw [hb.frozen (p := ⟨w.heap.size + 1, 0, none⟩) (by show w.heap.size + 1 < _; omega)]; exact h.g0
  · rw [hb.frozen (p := ⟨w.heap.size + 1, 1, none⟩) (by show w.heap.size + 1 < _; omega)]; exact h.g1
theorem ALF.call {w : World} {v : Value} {L : Int} {W W' : World} (h : ALF w v L W) (hb : Below W.heap.size W W') : ALF w v L W' := h.step (hb.mono (by have := h.sz; omega))
theorem ALF.new {w : World} {v : Value} {L : Int} {W : World} (h : ALF w v L W) (o : Obj) : ALF w v L (W.alloc o) := h.call (blw_alloc (Below.refl _ _) o)
theorem ALF.out {w : World} {v : Value} {L : Int} {W : World} (h : ALF w v L W) (x y : Value) : Below w.heap.size w ((W.setCell ⟨w.heap.size + 1, 0, none⟩ x).setCell ⟨w.heap.size + 1, 1, none⟩ y) :=
  (h.bel.setCell (p := ⟨w.heap.size + 1, 0, none⟩) (by show w.heap.size ≤ w.heap.size + 1; omega) _).setCell (p := ⟨w.heap.size + 1, 1, none⟩) (by show w.heap.size ≤ w.heap.size + 1; omega) _
set_option maxHeartbeats 2000000 in
theorem align_full (D : List UInt8) (L T : Nat) (v : Value) (w : World) (hv : RB w v D) (h : chk D L = 0) (hT : 1 ≤ T ∧ T ≤ 64000) (hf : 64000 < L + padN L T) :
    Calls Try.prog 8 #[.agg #[v, .int .i64 L], .int .i64 T] w (Zeroed 6 w) := by
  obtain ⟨A, c, rfl⟩ := hv.len
  obtain ⟨l0, l1, l2, _⟩ := chk_bd h
  have HC : ∀ w', Below w.heap.size w w' → Calls Try.prog 43 #[.agg #[.slice A D.length c, .int .i64 L]] w' fun e w'' => e = .returned (.int .i64 0) ∧ Below w'.heap.size w' w'' := fun w' hb => by
    have := check_any D L _ w' (hv.below hb); rwa [h] at this
  have HC' := Lib.hid HC
  have HV := Lib.hid hv
  obtain ⟨hT1, hT2⟩ := hT
  have hD : D.length ≤ 100000 := by omega
  have hm := Nat.mod_lt L (show T > 0 by omega)
  have t1 : (L : Int).tmod (T : Int) = (L : Int) % (T : Int) := Int.tmod_eq_emod_of_nonneg (by omega)
  have t2 : ((T : Int) - (L : Int) % (T : Int)).tmod (T : Int) = (padN L T : Int) := by
    unfold padN; rw [show (T : Int) - (L : Int) % (T : Int) = ((T - L % T : Nat) : Int) by omega, Int.tmod_eq_emod_of_nonneg (by omega)]; rfl
  have hp : padN L T < T := Nat.mod_lt _ (by omega)
  have hm1 : 0 ≤ (L : Int) % (T : Int) ∧ (L : Int) % (T : Int) < T := by omega
  clear hv h HC l2
  have H0 := Lib.hid (ALF.start w (.slice A D.length c) L)
  go_enter Try.func8, Try.ntmps8
  go_wp2_with (first
    | (go_at_call 43; refine (HC'.out _ H0.out.bel).mono ?_; rintro e w1 ⟨rfl, hbel⟩; have HA := Lib.hid (H0.out.call hbel); have c0 := HA.out.c0; have c1 := HA.out.c1; clear hbel)
    | (go_at_call 44; refine (copied_any D L _ _ (HV.out.below HA.out.bel) hD).mono ?_; rintro e w2 ⟨v2, rfl, hown2, hbel2⟩; obtain ⟨A2, c2, rfl⟩ := own_slc hown2; have HA2 := Lib.hid ((HA.out.call hbel2).new (.cells #[.slice A2 D.length c2, .int .i64 L] 24)); have c1 := HA2.out.c1; have r0 := HA2.out.r0; have r1 := HA2.out.r1; have g0 := HA2.out.g0; have g1 := HA2.out.g1; have hsz := HA2.out.sz; clear hbel2 hown2))
  all_goals try (exfalso; omega)
  refine bodyPost_ret (v := .tuple #[.agg #[.slice none 0 0, .int .i64 0], .int .i64 6]) (by simp [results, Try.results8, go_sem, r0, r1, hsz]) rfl ⟨rfl, HA2.out.out _ _⟩
def alignL (D : List UInt8) (L T : Nat) : List Bool := unp D L ++ List.replicate (padN L T) false
set_option maxHeartbeats 4000000 in
theorem align_ok (D : List UInt8) (L T : Nat) (v : Value) (w : World) (hv : RB w v D) (h : chk D L = 0) (hT : 1 ≤ T ∧ T ≤ 64000) (hf : L + padN L T ≤ 64000) :
    Calls Try.prog 8 #[.agg #[v, .int .i64 L], .int .i64 T] w (BOk (alignL D L T) w) := by
  obtain ⟨A, c, rfl⟩ := hv.len
  obtain ⟨l0, l1, l2, _⟩ := chk_bd h
  have hP := Lib.hid (chk_packed h)
  have HC : ∀ w', Below w.heap.size w w' → Calls Try.prog 43 #[.agg #[.slice A D.length c, .int .i64 L]] w' fun e w'' => e = .returned (.int .i64 0) ∧ Below w'.heap.size w' w'' := fun w' hb => by
    have := check_any D L _ w' (hv.below hb); rwa [h] at this
  have HC' := Lib.hid HC
  have HV := Lib.hid hv
  obtain ⟨hT1, hT2⟩ := hT
  have hD : D.length ≤ 100000 := by omega
  have hm := Nat.mod_lt L (show T > 0 by omega)
  have t1 : (L : Int).tmod (T : Int) = (L : Int) % (T : Int) := Int.tmod_eq_emod_of_nonneg (by omega)
  have t2 : ((T : Int) - (L : Int) % (T : Int)).tmod (T : Int) = (padN L T : Int) := by
    unfold padN; rw [show (T : Int) - (L : Int) % (T : Int) = ((T - L % T : Nat) : Int) by omega, Int.tmod_eq_emod_of_nonneg (by omega)]; rfl
  have hp : padN L T < T := Nat.mod_lt _ (by omega)
  have hm1 : 0 ≤ (L : Int) % (T : Int) ∧ (L : Int) % (T : Int) < T := by omega
  clear hv h HC l2
  have H0 := Lib.hid (ALF.start w (.slice A D.length c) L)
  go_enter Try.func8, Try.ntmps8
  go_wp2_with (first
    | (go_at_call 43; refine (HC'.out _ H0.out.bel).mono ?_; rintro e w1 ⟨rfl, hbel⟩; have HA := Lib.hid (H0.out.call hbel); have c0 := HA.out.c0; have c1 := HA.out.c1; clear hbel)
    | (go_at_call 44; refine (copied_any D L _ _ (HV.out.below HA.out.bel) hD).mono ?_; rintro e w2 ⟨v2, rfl, hown2, hbel2⟩; obtain ⟨A2, c2, rfl⟩ := own_slc hown2; have HA2 := Lib.hid ((HA.out.call hbel2).new (.cells #[.slice A2 D.length c2, .int .i64 L] 24)); have c1 := HA2.out.c1; have hz2 := hbel2.size; have HO2 := Lib.hid hown2; clear hbel2 hown2))
  all_goals try (exfalso; omega)
  obtain ⟨ob, hob⟩ : ∃ ob, ob = w2.heap.size := ⟨_, rfl⟩
  obtain ⟨w3, hw3⟩ : ∃ w3, w3 = w2.alloc (Obj.cells #[Value.slice A2 D.length c2, Value.int IntKind.i64 L] 24) := ⟨_, rfl⟩
  rw [← hw3] at HA2
  have hlt2 : ∀ g, (Value.slice A2 D.length c2).ownBlock = some g → g < w2.heap.size := fun g hg => own_lt' HO2.out g hg
  have hz1 := HA.out.sz
  have hOB : OB (w.heap.size + 2) ob (unp D L) w3 := by
    refine ⟨by omega, .slice A2 D.length c2, ?_, ?_, fun e => ?_⟩
    · rw [hw3, hob, unp_length]; exact heap_alloc_new _ _
    · rw [hP.out.pack_eq, hw3]; exact own_lower (HO2.out.alloc _) (by omega)
    · have := hlt2 ob e; omega
  rw [← hw3, ← hob]
  have HOB := Lib.hid hOB
  have hsz3 : w.heap.size + 2 ≤ w3.heap.size := HA2.out.sz
  clear hw3 hob hlt2 hOB hz2 hz1 c0 c1
  go_loopw [39] (fun i wr => ∃ j : Nat, j ≤ padN L T ∧ i = .int .i64 j ∧ OB (w.heap.size + 2) ob (unp D L ++ (List.replicate (padN L T) false).take j) wr ∧ Below (w.heap.size + 2) w3 wr) (fun i _ => padN L T - (intOf i).toNat)
  case atStart => exact ⟨0, Nat.zero_le _, by first | rfl | simp, by simpa using HOB.out, Below.refl _ _⟩
  case round =>
    obtain ⟨j, hj, rfl, hO, hB⟩ := hrel
    have hszr := hB.size
    have HO := Lib.hid hO
    have HB := Lib.hid hB
    clear hO hB
    by_cases hlt : j < padN L T
    · have hlen : (unp D L ++ (List.replicate (padN L T) false).take j).length < 64000 := by
        simp only [List.length_append, unp_length, List.length_take, List.length_replicate]; omega
      have HT := Lib.hid (show (List.replicate (padN L T) false).take (j + 1) = (List.replicate (padN L T) false).take j ++ [false] by rw [List.take_succ_eq_append_getElem (by rw [List.length_replicate]; exact hlt), List.getElem_replicate])
      go_wp2_with (go_at_call 45; refine (add_eq _ ob _ false 0 rfl _ HO.out hlen (by omega)).mono ?_; rintro e w4 ⟨rfl, hO4, hB4⟩; have HO4 := Lib.hid hO4; have HB4 := Lib.hid hB4; clear hO4 hB4)
      go_roundw
      case rel => exact ⟨j + 1, by omega, by go_num, by rw [HT.out, ← List.append_assoc]; exact HO4.out, HB.out.trans HB4.out⟩
      case measure => simp [intOf]; omega
    · obtain rfl : j = padN L T := by omega
      have hO := HO.out
      rw [List.take_of_length_le (by rw [List.length_replicate]; omega)] at hO
      obtain ⟨hB1, vr, hbr, hownr, hner⟩ := hO
      obtain ⟨A4, c4, rfl⟩ := own_slc hownr
      have c0 : wr.cell? ⟨ob, 0, none⟩ = some (.slice A4 (pack (alignL D L T)).length c4) := by rw [Lib.cell_of_heap hbr]; rfl
      have c1 : wr.cell? ⟨ob, 1, none⟩ = some (.int .i64 ((alignL D L T).length : Nat)) := by rw [Lib.cell_of_heap hbr]; rfl
      have HA3 := Lib.hid (HA2.out.step HB.out)
      have r0 := HA3.out.r0
      have r1 := HA3.out.r1
      have g0 := HA3.out.g0
      have g1 := HA3.out.g1
      have hw1 := HA3.out.sz
      have HR := Lib.hid hownr
      clear hbr hownr hner
      go_wp2
      refine bodyPost_ret (v := .tuple #[.agg #[.slice A4 (pack (alignL D L T)).length c4, .int .i64 (alignL D L T).length], .int .i64 0]) (by simp [results, Try.results8, go_sem, r0, r1, hw1]) rfl ⟨_, rfl, ?_, HA3.out.out _ _⟩
      exact own_lower (ownsRow_setCell_below (ownsRow_setCell_below HR.out (by simp <;> omega) _) (by simp <;> omega) _) (by omega)
/-- A part of bits. -/
def cutL (D : List UInt8) (F E : Nat) : List Bool := (List.range (E - F)).map fun i => ub D (F + i)
theorem cutL_len (D : List UInt8) (F E : Nat) : (cutL D F E).length = E - F := by simp [cutL]
theorem cutL_take (D : List UInt8) (F E j : Nat) (h : j < E - F) : (cutL D F E).take (j + 1) = (cutL D F E).take j ++ [ub D (F + j)] := by
  rw [List.take_succ_eq_append_getElem (by rw [cutL_len]; exact h)]; simp [cutL]
set_option maxHeartbeats 1000000 in
theorem cut_chk (D : List UInt8) (L f t : Int) (v : Value) (w : World) (hv : RB w v D) (h : chk D L ≠ 0) :
    Calls Try.prog 11 #[.agg #[v, .int .i64 L], .int .i64 f, .int .i64 t] w (Zeroed (chk D L) w) := by
  obtain ⟨A, c, rfl⟩ := hv.len
  have HV := Lib.hid hv
  have h1 : (chk D L != 0) = true := by simpa using h
  have h2 : (chk D L == 0) = false := by simpa using h
  clear hv h
  have H0 := Lib.hid (ALF.start w (.slice A D.length c) L)
  go_enter Try.func11, Try.ntmps11
  go_wp2_with (go_at_call 43; refine (check_any D L _ _ (HV.out.below H0.out.bel)).mono ?_; rintro e w1 ⟨rfl, hbel⟩; have HA := Lib.hid (H0.out.call hbel); have r0 := HA.out.r0; have r1 := HA.out.r1; have g0 := HA.out.g0; have g1 := HA.out.g1; have hsz := HA.out.sz; clear hbel)
  refine bodyPost_ret (v := .tuple #[.agg #[.slice none 0 0, .int .i64 0], .int .i64 (chk D L)]) (by simp [results, Try.results11, go_sem, r0, r1, hsz]) rfl ⟨rfl, HA.out.out _ _⟩
set_option maxHeartbeats 1000000 in
theorem cut_range (D : List UInt8) (L : Nat) (f t : Int) (v : Value) (w : World) (hv : RB w v D) (h : chk D L = 0) (hr : f < 0 ∨ t < f ∨ (L : Int) < t) :
    Calls Try.prog 11 #[.agg #[v, .int .i64 L], .int .i64 f, .int .i64 t] w (Zeroed 11 w) := by
  obtain ⟨A, c, rfl⟩ := hv.len
  have HC : ∀ w', Below w.heap.size w w' → Calls Try.prog 43 #[.agg #[.slice A D.length c, .int .i64 L]] w' fun e w'' => e = .returned (.int .i64 0) ∧ Below w'.heap.size w' w'' := fun w' hb => by
    have := check_any D L _ w' (hv.below hb); rwa [h] at this
  have HC' := Lib.hid HC
  clear hv h HC
  have H0 := Lib.hid (ALF.start w (.slice A D.length c) L)
  go_enter Try.func11, Try.ntmps11
  go_wp2_with (go_at_call 43; refine (HC'.out _ H0.out.bel).mono ?_; rintro e w1 ⟨rfl, hbel⟩; have HA := Lib.hid (H0.out.call hbel); have c1 := HA.out.c1; have r0 := HA.out.r0; have r1 := HA.out.r1; have g0 := HA.out.g0; have g1 := HA.out.g1; have hsz := HA.out.sz; clear hbel)
  all_goals try (exfalso; omega)
  all_goals exact bodyPost_ret (v := .tuple #[.agg #[.slice none 0 0, .int .i64 0], .int .i64 11]) (by simp [results, Try.results11, go_sem, r0, r1, hsz]) rfl ⟨rfl, HA.out.out _ _⟩
theorem ob_below {B ob : Nat} {l : List Bool} {w w' : World} (h : OB B ob l w) (hb : Below w.heap.size w w') : OB B ob l w' ∧ w.heap.size ≤ w'.heap.size := by
  obtain ⟨h1, v, h2, h3, h4⟩ := h
  exact ⟨⟨h1, v, (hb.block ob (Array.getElem?_eq_some_iff.1 h2).1).trans h2, own_keep h3 hb, h4⟩, hb.size⟩
set_option maxHeartbeats 4000000 in
theorem cut_ok (D : List UInt8) (L F E : Nat) (v : Value) (w : World) (hv : RB w v D) (h : chk D L = 0) (hF : F ≤ E) (hE : E ≤ L) :
    Calls Try.prog 11 #[.agg #[v, .int .i64 L], .int .i64 F, .int .i64 E] w (BOk (cutL D F E) w) := by
  obtain ⟨A, c, rfl⟩ := hv.len
  obtain ⟨l0, l1, l2, _⟩ := chk_bd h
  have HC : ∀ w', Below w.heap.size w w' → Calls Try.prog 43 #[.agg #[.slice A D.length c, .int .i64 L]] w' fun e w'' => e = .returned (.int .i64 0) ∧ Below w'.heap.size w' w'' := fun w' hb => by
    have := check_any D L _ w' (hv.below hb); rwa [h] at this
  have HC' := Lib.hid HC
  have HV := Lib.hid hv
  have hD8 : L ≤ 8 * D.length := by omega
  clear hv h HC l2
  have H0 := Lib.hid (ALF.start w (.slice A D.length c) L)
  go_enter Try.func11, Try.ntmps11
  go_wp2_with (go_at_call 43; refine (HC'.out _ H0.out.bel).mono ?_; rintro e w1 ⟨rfl, hbel⟩; have HA := Lib.hid (H0.out.call hbel); have c1 := HA.out.c1; clear hbel)
  all_goals try (exfalso; omega)
  obtain ⟨ob, hob⟩ : ∃ ob, ob = w1.heap.size := ⟨_, rfl⟩
  obtain ⟨w3, hw3⟩ : ∃ w3, w3 = w1.alloc (Obj.cells #[Value.slice none 0 0, Value.int IntKind.i64 0] 24) := ⟨_, rfl⟩
  have HA2 : Hid (ALF w (.slice A D.length c) L w3) := Lib.hid (hw3 ▸ HA.out.new _)
  have hz1 := HA.out.sz
  have hOB : OB (w.heap.size + 2) ob [] w3 := by
    refine ⟨by omega, .slice none 0 0, ?_, ⟨rfl, .inl ⟨rfl, rfl⟩⟩, fun e => by cases e⟩
    rw [hw3, hob]; exact heap_alloc_new _ _
  rw [← hw3, ← hob]
  have HOB := Lib.hid hOB
  have hsz3 : w.heap.size + 2 ≤ w3.heap.size := HA2.out.sz
  clear hw3 hob hOB hz1 c1
  simp only [show decide (E < F) = false from decide_eq_false (by omega), show decide (L < E) = false from decide_eq_false (by omega), show decide ((F : Int) < 0) = false from decide_eq_false (by omega), Bool.or_false, Bool.or_self]
  go_loopw [10] (fun i wr => ∃ j : Nat, j ≤ E - F ∧ i = .int .i64 ((F + j : Nat) : Int) ∧ OB (w.heap.size + 2) ob ((cutL D F E).take j) wr ∧ Below (w.heap.size + 2) w3 wr) (fun i _ => E - (intOf i).toNat)
  case atStart => exact ⟨0, Nat.zero_le _, by first | rfl | simp, by simpa using HOB.out, Below.refl _ _⟩
  case round =>
    obtain ⟨j, hj, rfl, hO, hB⟩ := hrel
    have hszr := hB.size
    have HO := Lib.hid hO
    have HB := Lib.hid hB
    clear hO hB
    by_cases hlt : j < E - F
    · have hlen : ((cutL D F E).take j).length < 64000 := by
        rw [List.length_take, cutL_len]; omega
      have HT := Lib.hid (cutL_take D F E j hlt)
      have c0 := (HA2.out.step HB.out).c0
      have c1 := (HA2.out.step HB.out).c1
      have hFj : (F : Int) + j < E := by omega
      go_wp2_with (first
        | (go_at_call 54; refine (bit_any D L _ (F + j) _ (HV.out.below (HA2.out.step HB.out).bel) (by omega) (by omega)).mono ?_; rintro e w5 ⟨rfl, hb5⟩; obtain ⟨hO5, hs5⟩ := ob_below HO.out hb5; have HO5 := Lib.hid hO5; have HB5 := Lib.hid (HB.out.trans (hb5.mono (by omega))); clear hb5 hO5)
        | (go_at_call 45; refine (add_eq _ ob _ (ub D (F + j)) _ rfl _ HO5.out hlen (by omega)).mono ?_; rintro e w4 ⟨rfl, hO4, hB4⟩; have HO4 := Lib.hid hO4; have HB4 := Lib.hid (HB5.out.trans hB4); clear hO4 hB4))
      go_roundw
      case rel => exact ⟨j + 1, by omega, by first | go_num | (congr 1; omega), by rw [HT.out]; exact HO4.out, HB4.out⟩
      case measure => simp [intOf]; omega
    · obtain rfl : j = E - F := by omega
      have hO := HO.out
      rw [List.take_of_length_le (by rw [cutL_len]; omega)] at hO
      obtain ⟨hB1, vr, hbr, hownr, hner⟩ := hO
      obtain ⟨A4, c4, rfl⟩ := own_slc hownr
      have c0 : wr.cell? ⟨ob, 0, none⟩ = some (.slice A4 (pack (cutL D F E)).length c4) := by rw [Lib.cell_of_heap hbr]; rfl
      have c1 : wr.cell? ⟨ob, 1, none⟩ = some (.int .i64 ((cutL D F E).length : Nat)) := by rw [Lib.cell_of_heap hbr]; rfl
      have HA3 := Lib.hid (HA2.out.step HB.out)
      have r0 := HA3.out.r0
      have r1 := HA3.out.r1
      have g0 := HA3.out.g0
      have g1 := HA3.out.g1
      have hw1 := HA3.out.sz
      have HR := Lib.hid hownr
      clear hbr hownr hner
      go_wp2
      refine bodyPost_ret (v := .tuple #[.agg #[.slice A4 (pack (cutL D F E)).length c4, .int .i64 (cutL D F E).length], .int .i64 0]) (by simp [results, Try.results11, go_sem, r0, r1, hw1]) rfl ⟨_, rfl, ?_, HA3.out.out _ _⟩
      exact own_lower (ownsRow_setCell_below (ownsRow_setCell_below HR.out (by simp <;> omega) _) (by simp <;> omega) _) (by omega)
end Go.Proofs.Ytnbdmmepdmmbmaa
