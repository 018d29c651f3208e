/- Contracts of bits.Cat and bits.Same. No statement is proved here. -/
import Derived.Test.YtnbdmmepdmmbmaaBitsAlign
import Derived.Test.YtnbdmmepdmmbmaaBitsEqual
namespace Go.Proofs.Ytnbdmmepdmmbmaa
open Go.RowKit
set_option linter.unusedVariables false
set_option linter.unusedSimpArgs false
/-- What stands in memory while Cat runs: the two parameters, the empty result, the row of both. -/
structure CAF (w : World) (va : Value) (L : Int) (vb : Value) (M : Int) (W : World) : Prop where
  a0 : W.cell? ⟨w.heap.size, 0, none⟩ = some va
  a1 : W.cell? ⟨w.heap.size, 1, none⟩ = some (.int .i64 L)
  b0 : W.cell? ⟨w.heap.size + 1, 0, none⟩ = some vb
  b1 : W.cell? ⟨w.heap.size + 1, 1, none⟩ = some (.int .i64 M)
  r0 : W.cell? ⟨w.heap.size + 1 + 1, 0, none⟩ = some (.slice none 0 0)
  r1 : W.cell? ⟨w.heap.size + 1 + 1, 1, none⟩ = some (.int .i64 0)
  g0 : W.frozen? ⟨w.heap.size + 1 + 1, 0, none⟩ = false
  g1 : W.frozen? ⟨w.heap.size + 1 + 1, 1, none⟩ = false
  s0 : W.cell? ⟨w.heap.size + 1 + 1 + 1, 0, none⟩ = some va
  s1 : W.cell? ⟨w.heap.size + 1 + 1 + 1, 1, none⟩ = some (.int .i64 L)
  s2 : W.cell? ⟨w.heap.size + 1 + 1 + 1, 2, none⟩ = some vb
  s3 : W.cell? ⟨w.heap.size + 1 + 1 + 1, 3, none⟩ = some (.int .i64 M)
  sz : w.heap.size + 1 + 1 + 1 < W.heap.size
  bel : Below w.heap.size w W
theorem CAF.start (w : World) (va : Value) (L : Int) (vb : Value) (M : Int) : CAF w va L vb M ((((w.alloc (.cells #[va, .int .i64 L] 24)).alloc (.cells #[vb, .int .i64 M] 24)).alloc (.cells #[.slice none 0 0, .int .i64 0] 24)).alloc (.cells #[va, .int .i64 L, vb, .int .i64 M] 24)) := by
  refine ⟨?_, ?_, ?_, ?_, ?_, ?_, ?_, ?_, ?_, ?_, ?_, ?_, by simp, blw_alloc (blw_alloc (blw_alloc (blw_alloc (Below.refl _ _) _) _) _) _⟩ <;> simp [go_sem]
theorem CAF.step {w : World} {va : Value} {L : Int} {vb : Value} {M : Int} {W W' : World} (h : CAF w va L vb M W) (hb : Below (w.heap.size + 4) W W') : CAF w va L vb M W' := by
  have hs := h.sz
  have c : ∀ b o, b < w.heap.size + 4 → W'.cell? ⟨b, o, none⟩ = W.cell? ⟨b, o, none⟩ := fun b o hlt => hb.cell (p := ⟨b, o, none⟩) hlt
  have f : ∀ b o, b < w.heap.size + 4 → W'.frozen? ⟨b, o, none⟩ = W.frozen? ⟨b, o, none⟩ := fun b o hlt => hb.frozen (p := ⟨b, o, none⟩) hlt
  exact ⟨(c _ _ (by omega)).trans h.a0, (c _ _ (by omega)).trans h.a1, (c _ _ (by omega)).trans h.b0, (c _ _ (by omega)).trans h.b1, (c _ _ (by omega)).trans h.r0, (c _ _ (by omega)).trans h.r1, (f _ _ (by omega)).trans h.g0, (f _ _ (by omega)).trans h.g1, (c _ _ (by omega)).trans h.s0, (c _ _ (by omega)).trans h.s1, (c _ _ (by omega)).trans h.s2, (c _ _ (by omega)).trans h.s3, by have := hb.size; omega, h.bel.trans (hb.mono (by omega))⟩
theorem CAF.call {w : World} {va : Value} {L : Int} {vb : Value} {M : Int} {W W' : World} (h : CAF w va L vb M W) (hb : Below W.heap.size W W') : CAF w va L vb M W' := h.step (hb.mono (by have := h.sz; omega))
theorem CAF.new {w : World} {va : Value} {L : Int} {vb : Value} {M : Int} {W : World} (h : CAF w va L vb M W) (o : Obj) : CAF w va L vb M (W.alloc o) := h.call (blw_alloc (Below.refl _ _) o)
theorem CAF.out {w : World} {va : Value} {L : Int} {vb : Value} {M : Int} {W : World} (h : CAF w va L vb M W) (x y : Value) : Below w.heap.size w ((W.setCell ⟨w.heap.size + 1 + 1, 0, none⟩ x).setCell ⟨w.heap.size + 1 + 1, 1, none⟩ y) :=
  (h.bel.setCell (p := ⟨w.heap.size + 1 + 1, 0, none⟩) (by show w.heap.size ≤ w.heap.size + 1 + 1; omega) _).setCell (p := ⟨w.heap.size + 1 + 1, 1, none⟩) (by show w.heap.size ≤ w.heap.size + 1 + 1; omega) _
set_option maxHeartbeats 2000000 in
theorem cat_a (D : List UInt8) (L : Int) (E : List UInt8) (M : Int) (v u : Value) (w : World) (hv : RB w v D) (hu : RB w u E) (h : chk D L ≠ 0) :
    Calls Try.prog 12 #[.agg #[v, .int .i64 L], .agg #[u, .int .i64 M]] w (Zeroed (chk D L) w) := by
  obtain ⟨A, c, rfl⟩ := hv.len
  obtain ⟨B, d, rfl⟩ := hu.len
  have HV := Lib.hid hv
  have h1 : (chk D L != 0) = true := by simpa using h
  have h2 : (chk D L == 0) = false := by simpa using h
  have H0 := Lib.hid (CAF.start w (.slice A D.length c) L (.slice B E.length d) M)
  clear hv hu h
  go_enter Try.func12, Try.ntmps12
  go_wp2
  refine wp_loop_rounds 1 ?_
  rw [rounds_succ]
  go_wp2_with (go_at_call 43; refine (check_any D L _ _ (HV.out.below (H0.out.new _).bel)).mono ?_; rintro e w1 ⟨rfl, hbel⟩; have HA := Lib.hid ((H0.out.new _).call hbel); have r0 := HA.out.r0; have r1 := HA.out.r1; have g0 := HA.out.g0; have g1 := HA.out.g1; have hsz : w.heap.size + 1 + 1 < w1.heap.size := (by have := HA.out.sz; omega); clear hbel)
  exact bodyPost_ret (v := .tuple #[.agg #[.slice none 0 0, .int .i64 0], .int .i64 (chk D L)]) (by simp [results, Try.results12, go_sem, r0, r1, hsz]) rfl ⟨rfl, HA.out.out _ _⟩
set_option maxHeartbeats 2000000 in
theorem cat_b (D : List UInt8) (L : Int) (E : List UInt8) (M : Int) (v u : Value) (w : World) (hv : RB w v D) (hu : RB w u E) (h : chk D L = 0) (h' : chk E M ≠ 0) :
    Calls Try.prog 12 #[.agg #[v, .int .i64 L], .agg #[u, .int .i64 M]] w (Zeroed (chk E M) w) := by
  obtain ⟨A, c, rfl⟩ := hv.len
  obtain ⟨B, d, rfl⟩ := hu.len
  have HU := Lib.hid hu
  have HC : ∀ w', Below w.heap.size w w' → Calls Try.prog 43 #[.agg #[.slice A D.length c, .int .i64 L]] w' fun e w'' => e = .returned (.int .i64 0) ∧ Below w'.heap.size w' w'' := fun w' hb => by
    have := check_any D L _ w' (hv.below hb); rwa [h] at this
  have HC' := Lib.hid HC
  have h1 : (chk E M != 0) = true := by simpa using h'
  have h2 : (chk E M == 0) = false := by simpa using h'
  have H0 := Lib.hid (CAF.start w (.slice A D.length c) L (.slice B E.length d) M)
  clear hv hu h h' HC
  go_enter Try.func12, Try.ntmps12
  go_wp2
  refine wp_loop_rounds 2 ?_
  rw [rounds_succ]
  go_wp2_with (go_at_call 43; refine (HC'.out _ (H0.out.new _).bel).mono ?_; rintro e w1 ⟨rfl, hbel⟩; have HA := Lib.hid ((H0.out.new _).call hbel); have s2 := HA.out.s2; have s3 := HA.out.s3; clear hbel)
  rw [rounds_succ]
  go_wp2_with (go_at_call 43; refine (check_any E M _ _ (HU.out.below (HA.out.new _).bel)).mono ?_; rintro e w2 ⟨rfl, hbel⟩; have HB := Lib.hid ((HA.out.new _).call hbel); have r0 := HB.out.r0; have r1 := HB.out.r1; have g0 := HB.out.g0; have g1 := HB.out.g1; have hsz : w.heap.size + 1 + 1 < w2.heap.size := (by have := HB.out.sz; omega); clear hbel)
  exact bodyPost_ret (v := .tuple #[.agg #[.slice none 0 0, .int .i64 0], .int .i64 (chk E M)]) (by simp [results, Try.results12, go_sem, r0, r1, hsz]) rfl ⟨rfl, HB.out.out _ _⟩
set_option maxHeartbeats 2000000 in
theorem cat_full (D : List UInt8) (L : Nat) (E : List UInt8) (M : Nat) (v u : Value) (w : World) (hv : RB w v D) (hu : RB w u E) (h : chk D L = 0) (h' : chk E M = 0) (hf : 64000 < L + M) :
    Calls Try.prog 12 #[.agg #[v, .int .i64 L], .agg #[u, .int .i64 M]] w (Zeroed 6 w) := by
  obtain ⟨A, c, rfl⟩ := hv.len
  obtain ⟨B, d, rfl⟩ := hu.len
  obtain ⟨l0, l1, l2, _⟩ := chk_bd h
  obtain ⟨m0, m1, m2, _⟩ := chk_bd h'
  have HU := Lib.hid hu
  have HV := Lib.hid hv
  have hP := Lib.hid (chk_packed h)
  have HC : ∀ w', Below w.heap.size w w' → Calls Try.prog 43 #[.agg #[.slice A D.length c, .int .i64 L]] w' fun e w'' => e = .returned (.int .i64 0) ∧ Below w'.heap.size w' w'' := fun w' hb => by
    have := check_any D L _ w' (hv.below hb); rwa [h] at this
  have HC' := Lib.hid HC
  have HE : ∀ w', Below w.heap.size w w' → Calls Try.prog 43 #[.agg #[.slice B E.length d, .int .i64 M]] w' fun e w'' => e = .returned (.int .i64 0) ∧ Below w'.heap.size w' w'' := fun w' hb => by
    have := check_any E M _ w' (hu.below hb); rwa [h'] at this
  have HE' := Lib.hid HE
  have hD : D.length ≤ 100000 := by omega
  have hE8 : M ≤ 8 * E.length := by omega
  have H0 := Lib.hid (CAF.start w (.slice A D.length c) L (.slice B E.length d) M)
  clear hv hu h h' HC HE l2 m2
  go_enter Try.func12, Try.ntmps12
  go_wp2
  refine wp_loop_rounds 3 ?_
  rw [rounds_succ]
  go_wp2_with (go_at_call 43; refine (HC'.out _ (H0.out.new _).bel).mono ?_; rintro e w1 ⟨rfl, hbel⟩; have HA := Lib.hid ((H0.out.new _).call hbel); have s2 := HA.out.s2; have s3 := HA.out.s3; clear hbel)
  rw [rounds_succ]
  go_wp2_with (go_at_call 43; refine (HE'.out _ (HA.out.new _).bel).mono ?_; rintro e w2 ⟨rfl, hbel⟩; have HB := Lib.hid ((HA.out.new _).call hbel); have a1 := HB.out.a1; have b1 := HB.out.b1; have a0 := HB.out.a0; have r0 := HB.out.r0; have r1 := HB.out.r1; have g0 := HB.out.g0; have g1 := HB.out.g1; have hsz : w.heap.size + 1 + 1 < w2.heap.size := (by have := HB.out.sz; omega); clear hbel s2 s3)
  rw [rounds_succ]
  go_wp2
  all_goals try (exfalso; omega)
  exact bodyPost_ret (v := .tuple #[.agg #[.slice none 0 0, .int .i64 0], .int .i64 6]) (by simp [results, Try.results12, go_sem, r0, r1, hsz]) rfl ⟨rfl, HB.out.out _ _⟩
def catL (D : List UInt8) (L : Nat) (E : List UInt8) (M : Nat) : List Bool := unp D L ++ unp E M
set_option maxHeartbeats 4000000 in
theorem cat_ok (D : List UInt8) (L : Nat) (E : List UInt8) (M : Nat) (v u : Value) (w : World) (hv : RB w v D) (hu : RB w u E) (h : chk D L = 0) (h' : chk E M = 0) (hf : L + M ≤ 64000) :
    Calls Try.prog 12 #[.agg #[v, .int .i64 L], .agg #[u, .int .i64 M]] w (BOk (catL D L E M) w) := by
  obtain ⟨A, c, rfl⟩ := hv.len
  obtain ⟨B, d, rfl⟩ := hu.len
  obtain ⟨l0, l1, l2, _⟩ := chk_bd h
  obtain ⟨m0, m1, m2, _⟩ := chk_bd h'
  have HU := Lib.hid hu
  have HV := Lib.hid hv
  have hP := Lib.hid (chk_packed h)
  have HC : ∀ w', Below w.heap.size w w' → Calls Try.prog 43 #[.agg #[.slice A D.length c, .int .i64 L]] w' fun e w'' => e = .returned (.int .i64 0) ∧ Below w'.heap.size w' w'' := fun w' hb => by
    have := check_any D L _ w' (hv.below hb); rwa [h] at this
  have HC' := Lib.hid HC
  have HE : ∀ w', Below w.heap.size w w' → Calls Try.prog 43 #[.agg #[.slice B E.length d, .int .i64 M]] w' fun e w'' => e = .returned (.int .i64 0) ∧ Below w'.heap.size w' w'' := fun w' hb => by
    have := check_any E M _ w' (hu.below hb); rwa [h'] at this
  have HE' := Lib.hid HE
  have hD : D.length ≤ 100000 := by omega
  have hE8 : M ≤ 8 * E.length := by omega
  have H0 := Lib.hid (CAF.start w (.slice A D.length c) L (.slice B E.length d) M)
  clear hv hu h h' HC HE l2 m2
  go_enter Try.func12, Try.ntmps12
  go_wp2
  refine wp_loop_rounds 3 ?_
  rw [rounds_succ]
  go_wp2_with (go_at_call 43; refine (HC'.out _ (H0.out.new _).bel).mono ?_; rintro e w1 ⟨rfl, hbel⟩; have HA := Lib.hid ((H0.out.new _).call hbel); have s2 := HA.out.s2; have s3 := HA.out.s3; clear hbel)
  rw [rounds_succ]
  go_wp2_with (go_at_call 43; refine (HE'.out _ (HA.out.new _).bel).mono ?_; rintro e w2 ⟨rfl, hbel⟩; have HB := Lib.hid ((HA.out.new _).call hbel); have a1 := HB.out.a1; have b1 := HB.out.b1; have a0 := HB.out.a0; have r0 := HB.out.r0; have r1 := HB.out.r1; have g0 := HB.out.g0; have g1 := HB.out.g1; have hsz : w.heap.size + 1 + 1 < w2.heap.size := (by have := HB.out.sz; omega); clear hbel s2 s3)
  rw [rounds_succ]
  go_wp2_with (go_at_call 44; refine (copied_any D L _ _ (HV.out.below HB.out.bel) hD).mono ?_; rintro e w4 ⟨v2, rfl, hown2, hbel2⟩; obtain ⟨A2, c2, rfl⟩ := own_slc hown2; have HA2 := Lib.hid ((HB.out.call hbel2).new (.cells #[.slice A2 D.length c2, .int .i64 L] 24)); have b1 := HA2.out.b1; have hz2 := hbel2.size; have HO2 := Lib.hid hown2; clear hbel2 hown2)
  all_goals try (exfalso; omega)
  obtain ⟨ob, hob⟩ : ∃ ob, ob = w4.heap.size := ⟨_, rfl⟩
  obtain ⟨w3, hw3⟩ : ∃ w3, w3 = w4.alloc (Obj.cells #[Value.slice A2 D.length c2, Value.int IntKind.i64 L] 24) := ⟨_, rfl⟩
  rw [← hw3] at HA2
  have hlt2 : ∀ g, (Value.slice A2 D.length c2).ownBlock = some g → g < w4.heap.size := fun g hg => own_lt' HO2.out g hg
  have hz1 := HB.out.sz
  have hOB : OB (w.heap.size + 4) ob (unp D L) w3 := by
    refine ⟨by omega, .slice A2 D.length c2, ?_, ?_, fun e => ?_⟩
    · rw [hw3, hob, unp_length]; exact heap_alloc_new _ _
    · rw [hP.out.pack_eq, hw3]; exact own_lower (HO2.out.alloc _) (by omega)
    · have := hlt2 ob e; omega
  rw [← hw3, ← hob]
  have HOB := Lib.hid hOB
  have hsz3 : w.heap.size + 4 ≤ w3.heap.size := HA2.out.sz
  clear hw3 hob hlt2 hOB hz2 hz1 a0 a1 b1 r0 r1 g0 g1 hsz
  try simp only [show decide ((64000 : Int) < (L : Int) + (M : Int)) = false from decide_eq_false (by omega)]
  go_loopw [37] (fun i wr => ∃ j : Nat, j ≤ M ∧ i = .int .i64 j ∧ OB (w.heap.size + 4) ob (unp D L ++ (unp E M).take j) wr ∧ Below (w.heap.size + 4) w3 wr) (fun i _ => M - (intOf i).toNat)
  case atStart => exact ⟨0, Nat.zero_le _, by first | rfl | simp, by simpa using HOB.out, Below.refl _ _⟩
  case round =>
    obtain ⟨j, hj, rfl, hO, hB⟩ := hrel
    have hszr := hB.size
    have HO := Lib.hid hO
    have HB3 := Lib.hid hB
    clear hO hB
    by_cases hlt : j < M
    · have hlen : (unp D L ++ (unp E M).take j).length < 64000 := by
        rw [List.length_append, unp_length, List.length_take, unp_length]; omega
      have HT := Lib.hid (show (unp E M).take (j + 1) = (unp E M).take j ++ [ub E j] by rw [List.take_succ_eq_append_getElem (by rw [unp_length]; exact hlt)]; simp [unp])
      have b0 := (HA2.out.step HB3.out).b0
      have b1 := (HA2.out.step HB3.out).b1
      go_wp2_with (first
        | (go_at_call 54; refine (bit_any E M _ (j) _ (HU.out.below (HA2.out.step HB3.out).bel) (by omega) (by omega)).mono ?_; rintro e w5 ⟨rfl, hb5⟩; obtain ⟨hO5, hs5⟩ := ob_below HO.out hb5; have HO5 := Lib.hid hO5; have HB5 := Lib.hid (HB3.out.trans (hb5.mono (by omega))); clear hb5 hO5)
        | (go_at_call 45; refine (add_eq _ ob _ (ub E (j)) _ rfl _ HO5.out hlen (by omega)).mono ?_; rintro e w4 ⟨rfl, hO4, hB4⟩; have HO4 := Lib.hid hO4; have HB4 := Lib.hid (HB5.out.trans hB4); clear hO4 hB4))
      go_roundw
      case rel => exact ⟨j + 1, by omega, by go_num, by rw [HT.out, ← List.append_assoc]; exact HO4.out, HB4.out⟩
      case measure => simp [intOf]; omega
    · obtain rfl : M = j := by omega
      have hO := HO.out
      rw [List.take_of_length_le (by rw [unp_length]; omega)] at hO
      obtain ⟨hB1, vr, hbr, hownr, hner⟩ := hO
      obtain ⟨A4, c4, rfl⟩ := own_slc hownr
      have c0 : wr.cell? ⟨ob, 0, none⟩ = some (.slice A4 (pack (catL D L E M)).length c4) := by rw [Lib.cell_of_heap hbr]; rfl
      have c1 : wr.cell? ⟨ob, 1, none⟩ = some (.int .i64 ((catL D L E M).length : Nat)) := by rw [Lib.cell_of_heap hbr]; rfl
      have HA3 := Lib.hid (HA2.out.step HB3.out)
      have r0 := HA3.out.r0
      have r1 := HA3.out.r1
      have g0 := HA3.out.g0
      have g1 := HA3.out.g1
      have hw1 := HA3.out.sz
      have HR := Lib.hid hownr
      clear hbr hownr hner
      go_wp2
      refine bodyPost_ret (v := .tuple #[.agg #[.slice A4 (pack (catL D L E M)).length c4, .int .i64 (catL D L E M).length], .int .i64 0]) (by simp [results, Try.results12, go_sem, r0, r1, hw1]) rfl ⟨_, rfl, ?_, HA3.out.out _ _⟩
      exact own_lower (ownsRow_setCell_below (ownsRow_setCell_below HR.out (by simp <;> omega) _) (by simp <;> omega) _) (by omega)
theorem same_any (D E : List UInt8) (L M : Int) (v u : Value) (w : World) (hv : RB w v D) (hu : RB w u E) (hl : D.length ≤ 140737488351232) (hl2 : E.length ≤ 140737488351232) :
    Calls Try.prog 14 #[.agg #[v, .int .i64 L], .agg #[u, .int .i64 M]] w fun e w' => e = .returned (.bool (decide (L = M) && eqB D E)) ∧ Below w.heap.size w w' := by
  obtain ⟨A, c, rfl⟩ := hv.len
  obtain ⟨B, d, rfl⟩ := hu.len
  have HV := Lib.hid hv
  have HU := Lib.hid hu
  clear hv hu
  by_cases hLM : L = M
  · have e1 : (L == M) = true := by simpa using hLM
    have HX := Lib.hid (decide_eq_true hLM)
    clear hLM
    go_enter Try.func14, Try.ntmps14
    go_wp2_with (go_at_call 52; refine (equal_any D E _ _ _ (HV.out.below (by first | exact Below.refl _ _ | exact blw_alloc (blw_alloc (Below.refl _ _) _) _)) (HU.out.below (by first | exact Below.refl _ _ | exact blw_alloc (blw_alloc (Below.refl _ _) _) _)) hl hl2).mono ?_; rintro e w1 ⟨rfl, hb⟩)
    go_ret
    exact ⟨by rw [HX.out]; try rfl, (blw_then (blw_alloc (blw_alloc (Below.refl _ _) _) _) hb)⟩
  · have e1 : (L == M) = false := by simpa using hLM
    have HX := Lib.hid (decide_eq_false hLM)
    clear hLM
    go_enter Try.func14, Try.ntmps14
    go_wp2
    go_ret
    exact ⟨by rw [HX.out]; try rfl, blw_alloc (blw_alloc (Below.refl _ _) _) _⟩
end Go.Proofs.Ytnbdmmepdmmbmaa
