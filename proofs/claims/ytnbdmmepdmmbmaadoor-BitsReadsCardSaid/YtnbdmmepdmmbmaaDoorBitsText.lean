/- Contract of bits.Text; the fact 'strung'. -/
import Derived.Test.YtnbdmmepdmmbmaaDoorBitsPut
namespace Go.Proofs.YtnbdmmepdmmbmaaDoor
open Go.RowKit
set_option linter.unusedVariables false
set_option linter.unusedSimpArgs false
theorem RB.below' {w w' : World} {v : Value} {D : List UInt8} {B : Nat} (h : RB w v D) (hb : Below B w w') (hB : w.heap.size ≤ B) : RB w' v D := h.below (hb.mono hB)
def digs (l : List Bool) : List UInt8 := l.map fun b => if b then 49 else 48
theorem digs_length (l : List Bool) : (digs l).length = l.length := by simp [digs]
theorem digs_take (D : List UInt8) (L j : Nat) (h : j < L) : digs ((unp D L).take (j + 1)) = digs ((unp D L).take j) ++ [if ub D j then 49 else 48] := by
  rw [List.take_succ_eq_append_getElem (by rw [unp_length]; exact h)]
  simp [digs, unp]
set_option maxHeartbeats 1000000 in
theorem text_chk (D : List UInt8) (L : Int) (v : Value) (w : World) (hv : RB w v D) (h : chk D L ≠ 0) :
    Calls Tryd.prog 47 #[.agg #[v, .int .i64 L]] w fun e w' => e = .returned (.tuple #[.string ⟨#[]⟩, .int .i64 (chk D L)]) ∧ Below w.heap.size w w' := by
  obtain ⟨A, c, rfl⟩ := hv.len
  have HV := Lib.hid hv
  have h1 : (chk D L != 0) = true := by simpa using h
  have h2 : (chk D L == 0) = false := by simpa using h
  clear hv h
  go_enter Tryd.func47, Tryd.ntmps47
  go_wp2_with (go_at_call 76; refine (check_any D L _ _ (HV.out.below (blw_alloc (Below.refl _ _) _))).mono ?_; rintro e w1 ⟨rfl, hbel⟩; obtain ⟨hc, hf⟩ := bcell hbel; have hz := hbel.size; simp at hz)
  go_ret2
  exact ⟨rfl, blw_then (blw_alloc (Below.refl _ _) _) hbel⟩
def TextOk (D : List UInt8) (L : Nat) (w : World) (e : Ending) (w' : World) : Prop := e = .returned (.tuple #[.string ⟨(digs (unp D L)).toArray⟩, .int .i64 0]) ∧ Below w.heap.size w w'
set_option maxHeartbeats 2000000 in
theorem text_ok (D : List UInt8) (L : Nat) (v : Value) (w : World) (hv : RB w v D) (h : chk D L = 0) :
    Calls Tryd.prog 47 #[.agg #[v, .int .i64 L]] w (TextOk D L w) := by
  obtain ⟨A, c, rfl⟩ := hv.len
  obtain ⟨l0, l1, l2, _⟩ := chk_bd h
  have HC : ∀ w', Below w.heap.size w w' → Calls Tryd.prog 76 #[.agg #[.slice A D.length c, .int .i64 L]] w' fun e w'' => e = .returned (.int .i64 0) ∧ Below w'.heap.size w' w'' := fun w' hb => by
    have := check_any D L _ w' (hv.below hb); rwa [h] at this
  have HC' := Lib.hid HC
  have HV := Lib.hid hv
  have HL2 := Lib.hid l2
  clear hv h HC l2
  go_enter Tryd.func47, Tryd.ntmps47
  go_wp2_with (first
    | (go_at_call 76; refine (HC'.out _ (blw_alloc (Below.refl _ _) _)).mono ?_; rintro e w1 ⟨rfl, hbel⟩; have k0 := (hbel.cell (p := ⟨w.heap.size, 0, none⟩) (by simp)).trans (by simp [go_sem] : _ = some (Value.slice A D.length c)); have k1 := (hbel.cell (p := ⟨w.heap.size, 1, none⟩) (by simp)).trans (by simp [go_sem] : _ = some (Value.int IntKind.i64 L)); have hz : w.heap.size < w1.heap.size := by have := hbel.size; simp at this; omega))
  obtain ⟨w2, hw2⟩ : ∃ w2, w2 = w1.alloc (Obj.cells #[Value.pointer none, Value.slice none 0 0] 60) := ⟨_, rfl⟩
  obtain ⟨ob, hob⟩ : ∃ ob, ob = w1.heap.size := ⟨_, rfl⟩
  have hbl : Bld ob ob [] w2 := by rw [hw2, hob]; exact bld_new w1
  have hb2 : Below ob w1 w2 := by rw [hw2, hob]; exact blw_alloc (Below.refl _ _) _
  have hs2 : w2.heap.size = ob + 1 := by rw [hw2, hob]; simp
  rw [← hw2, ← hob]
  have q0 : w2.cell? ⟨w.heap.size, 0, none⟩ = some (.slice A D.length c) := by rw [hb2.cell (by show w.heap.size < ob; omega)]; exact k0
  have q1 : w2.cell? ⟨w.heap.size, 1, none⟩ = some (.int .i64 L) := by rw [hb2.cell (by show w.heap.size < ob; omega)]; exact k1
  have hbw : Below w.heap.size w w2 := (blw_then (blw_alloc (Below.refl _ _) _) hbel).trans (hb2.mono (by omega))
  have HB2 := Lib.hid hbw
  have HBL := Lib.hid hbl
  have hlt : w.heap.size < ob := by omega
  clear k0 k1 hw2 hob hbl hb2 hbw hbel hz
  go_wp2
  go_loopw [14] (fun i wr => ∃ j : Nat, j ≤ L ∧ i = .int .i64 j ∧ Bld ob ob (digs ((unp D L).take j)) wr ∧ Below ob w2 wr) (fun i _ => L - (intOf i).toNat)
  case atStart => exact ⟨0, Nat.zero_le _, rfl, HBL.out, Below.refl _ _⟩
  case round =>
    obtain ⟨j, hj, rfl, hO, hB⟩ := hrel
    have hszr := hB.size
    have p0 : wr.cell? ⟨w.heap.size, 0, none⟩ = some (.slice A D.length c) := by rw [hB.cell (by show w.heap.size < ob; omega)]; exact q0
    have p1 : wr.cell? ⟨w.heap.size, 1, none⟩ = some (.int .i64 L) := by rw [hB.cell (by show w.heap.size < ob; omega)]; exact q1
    have HO := Lib.hid hO
    have HB := Lib.hid hB
    clear hO hB
    by_cases hlt : j < L
    · have hlen : (digs ((unp D L).take j)).length + 1 ≤ 140737488355328 := by
        simp only [digs_length, List.length_take, unp_length]; omega
      have HT := Lib.hid (digs_take D L j hlt)
      have hv : RB wr (.slice A D.length c) D := HV.out.below (HB2.out.trans (HB.out.mono (by omega)))
      have HVR := Lib.hid hv
      clear hv
      have hjd : j < 8 * D.length := by have := HL2.out; omega
      go_wp2_with (first
        | (go_at_call 78; refine (bit_any D L _ j _ HVR.out hjd (by omega)).mono ?_; rintro e w4 ⟨rfl, hb4⟩; have HO4 := Lib.hid (HO.out.keep hb4); have HB4 := Lib.hid hb4; clear hb4)
        | (go_at_call 37; refine (writeByte_eq ob ob _ (if ub D j then 49 else 48) _ (by cases ub D j <;> decide +kernel) _ HO4.out hlen (by have := HB4.out.size; omega)).mono ?_; rintro e w5 ⟨rfl, hO5, hB5⟩; have HO5 := Lib.hid hO5; have HB5 := Lib.hid hB5; clear hO5 hB5))
      go_roundw
      case rel => exact ⟨j + 1, by omega, by go_num, by rw [HT.out]; exact HO5.out, HB.out.trans ((HB4.out.mono (by omega)).trans HB5.out.1)⟩
      case measure => simp [intOf]; omega
    · obtain rfl : j = L := by omega
      rw [List.take_of_length_le (by rw [unp_length]; omega)] at HO
      go_wp2_with (go_at_call 36; refine (string_any ob ob _ _ HO.out (by omega)).mono ?_; rintro e w5 ⟨rfl, hO5, hB5⟩; have HB5 := Lib.hid hB5; clear hO5 hB5)
      go_ret2
      exact ⟨rfl, HB2.out.trans ((HB.out.mono (by omega)).trans (HB5.out.1.mono (by omega)))⟩
theorem RB.of_own {w : World} {B : Nat} {v : Value} {D : List UInt8} (h : w.ownsRow B 5 1 v D.length (Lib.byteCells D)) : RB w v D := by
  rcases h.2 with ⟨rfl, h0⟩ | ⟨g, cap, cur, hv, hg, hh, hle, _⟩
  · have : D = [] := List.length_eq_zero_iff.1 h0
    subst this
    exact ⟨none, 0, rfl, Nat.le_refl _, fun i hi => by simp at hi⟩
  · refine ⟨_, cap, hv, hle, fun i hi => ⟨_, rfl, ?_⟩⟩
    obtain ⟨g', c', e, _, _, hc, _⟩ := own_cell h i hi
    rw [hv] at e
    have e2 : g = g' := by injection e with e; injection e with e; injection e with e
    subst e2
    rw [show (⟨g, 0, none⟩ : Addr).add i = ⟨g, i, none⟩ by simp [Addr.add]; intro h; omega, hc]
    simp [nb, List.getD_eq_getElem?_getD, List.getElem?_eq_getElem hi]
theorem unp_pack (l : List Bool) : unp (pack l) l.length = l := by
  apply List.ext_getElem (by rw [unp_length])
  intro i h1 h2
  rw [unp_length] at h1
  have := (packed_pack l).bits i h1
  simp only [unp, List.getElem_map, List.getElem_range]
  rw [this]; simp [List.getD_eq_getElem?_getD, List.getElem?_eq_getElem h2]
theorem chk_pack (l : List Bool) (h : l.length ≤ 64000) : chk (pack l) l.length = 0 := by
  have hP := packed_pack l
  unfold chk
  rw [if_neg (by omega), if_neg (by have := hP.len; omega), if_neg]
  rintro ⟨h1, h2⟩
  apply h2
  have e := hP.low
  rw [show ((l.length : Int) / 8).toNat = l.length / 8 by omega, show ((l.length : Int) % 8).toNat = l.length % 8 by omega]
  have hg : gb (pack l) (l.length / 8) = (nb (pack l) (l.length / 8) : Int) := rfl
  rw [hg]
  have hr : l.length % 8 < 8 := Nat.mod_lt _ (by omega)
  have h3 : nb (pack l) (l.length / 8) * 2 ^ (l.length % 8) % 256 = 0 := by
    generalize nb (pack l) (l.length / 8) = x at e ⊢
    generalize l.length % 8 = r at e hr ⊢
    have hr : r = 0 ∨ r = 1 ∨ r = 2 ∨ r = 3 ∨ r = 4 ∨ r = 5 ∨ r = 6 ∨ r = 7 := by omega
    rcases hr with rfl | rfl | rfl | rfl | rfl | rfl | rfl | rfl <;> simp only [Nat.reduceSub, Nat.reducePow] at e ⊢ <;> omega
  have : ((nb (pack l) (l.length / 8) * 2 ^ (l.length % 8) % 256 : Nat) : Int) = 0 := by rw [h3]; rfl
  simpa using this
set_option maxHeartbeats 1000000 in
theorem strung_any (w : World) : Calls Tryd.prog 15 #[] w fun e w' => e = .returned (.bool true) ∧ Below w.heap.size w w' := by
  have hc0 : chk [] 0 = 0 := by decide
  have hP := Lib.hid (fun w' => put_ok [] 0 5 4 false (.slice none 0 0) w' ⟨none, 0, rfl, Nat.le_refl _, fun i hi => by simp at hi⟩ hc0 (by omega) (by decide) (by omega))
  have he : unp [] 0 ++ fbits 5 4 false = [false, true, false, true] := by decide
  clear hc0
  go_enter Tryd.func15, Tryd.ntmps15
  go_wp2_with (first
    | (go_at_call 46; refine (hP.out _).mono ?_; rintro e w1 ⟨v1, rfl, hown, hbel⟩; obtain ⟨A1, c1, rfl⟩ := own_slc hown)
    | (go_at_call 47; refine (text_ok _ 4 _ _ ((RB.of_own hown).below (blw_alloc (Below.refl _ _) _)) (chk_pack [false, true, false, true] (by decide))).mono ?_; rintro e w3 ⟨rfl, hb3⟩))
  have he2 : digs (unp (pack [false, true, false, true]) 4) = [48, 49, 48, 49] := by decide +kernel
  rw [he2]
  go_wp2
  go_ret
  exact ⟨ret_bool (by decide +kernel), blw_then hbel (blw_then (blw_alloc (Below.refl _ _) _) hb3)⟩

end Go.Proofs.YtnbdmmepdmmbmaaDoor
