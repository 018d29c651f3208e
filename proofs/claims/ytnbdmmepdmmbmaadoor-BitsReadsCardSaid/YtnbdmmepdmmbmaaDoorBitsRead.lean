/- Contract of bits.Read. -/
import Derived.Test.YtnbdmmepdmmbmaaDoorBitsAddX
import Derived.Test.YtnbdmmepdmmbmaaDoorBitsPutG
import Derived.Lib.ConvBytes
namespace Go.Proofs.YtnbdmmepdmmbmaaDoor
open Go.RowKit
set_option linter.unusedVariables false
set_option linter.unusedSimpArgs false
theorem addX_eq (B ob : Nat) (l : List Bool) (b : Bool) (x : Int) (hx : x = b01 b) (w : World) (h : OBX B ob l w) (hl : l.length < 64000) (hBw : B ≤ w.heap.size) :
    Calls Tryd.prog 38 #[.pointer (some ⟨ob, 0, none⟩), .int .i64 x] w fun e w' => e = .returned (.tuple #[]) ∧ OBX B ob (l ++ [b]) w' ∧ BX B ob w w' := by
  subst hx; exact addX_any B ob l b w h hl hBw
/-- Is a byte a digit? -/
def dig (c : UInt8) : Bool := c == 48 || c == 49
set_option maxHeartbeats 1000000 in
theorem read_large (s : ByteArray) (w : World) (h : 64000 < s.size) : Calls Tryd.prog 13 #[.string s] w (Zeroed 2 w) := by
  go_enter Tryd.func13, Tryd.ntmps13
  go_wp2
  all_goals try (exfalso; omega)
  refine bodyPost_ret (v := .tuple #[.agg #[.slice none 0 0, .int .i64 0], .int .i64 2]) (by simp [results, Tryd.results13, go_sem]) rfl ⟨rfl, ?_⟩
  exact blw_alloc (Below.refl _ _) _
/-- What stands while Read goes on: the empty result, the string's bytes, the bits that were read. -/
structure RDF (w : World) (s : ByteArray) (n : Nat) (W : World) : Prop where
  r0 : W.cell? ⟨w.heap.size, 0, none⟩ = some (.slice none 0 0)
  r1 : W.cell? ⟨w.heap.size, 1, none⟩ = some (.int .i64 0)
  g0 : W.frozen? ⟨w.heap.size, 0, none⟩ = false
  g1 : W.frozen? ⟨w.heap.size, 1, none⟩ = false
  by_ : ∀ j, j < s.size → W.cell? ⟨w.heap.size + 2, j, none⟩ = some (.int .u8 ((s.data.toList.getD j 0).toNat : Int))
  sz : w.heap.size + 3 ≤ W.heap.size
  bel : Below w.heap.size w W
theorem RDF.step {w : World} {s : ByteArray} {n : Nat} {W W' : World} (h : RDF w s n W) (hb : BX (w.heap.size + 3) (w.heap.size + 1) W W') : RDF w s n W' := by
  have hs := h.sz
  have c : ∀ b o, b < w.heap.size + 3 → b ≠ w.heap.size + 1 → W'.cell? ⟨b, o, none⟩ = W.cell? ⟨b, o, none⟩ := fun b o h1 h2 => by simp only [World.cell?, hb.block b h1 h2]
  have f : ∀ b o, b < w.heap.size + 3 → b ≠ w.heap.size + 1 → W'.frozen? ⟨b, o, none⟩ = W.frozen? ⟨b, o, none⟩ := fun b o h1 h2 => by simp only [World.frozen?, hb.block b h1 h2]
  exact ⟨(c _ _ (by omega) (by omega)).trans h.r0, (c _ _ (by omega) (by omega)).trans h.r1, (f _ _ (by omega) (by omega)).trans h.g0, (f _ _ (by omega) (by omega)).trans h.g1, fun j hj => (c _ _ (by omega) (by omega)).trans (h.by_ j hj), by have := hb.size; omega, h.bel.trans (hb.below (by omega) (by omega))⟩
theorem getD_data (s : ByteArray) (j : Nat) (h : j < s.size) : s.data.toList.getD j 0 = s[j] := by
  rw [List.getD_eq_getElem?_getD, Array.getElem?_toList, Array.getElem?_eq_getElem h]; rfl
theorem BX.alloc {B ob : Nat} {w w' : World} (h : BX B ob w w') (hs : B ≤ w'.heap.size) (o : Obj) : BX B ob w (w'.alloc o) := h.trans (BX.of ((Below.refl B w').alloc hs o))
set_option maxHeartbeats 1000000 in
/-- The world in which the loop begins. -/
theorem RDF.start (w : World) (s : ByteArray) (n : Nat) : RDF w s n (Lib.bytesWorld ((w.alloc (.cells #[.slice none 0 0, .int .i64 0] 32)).alloc (.cells #[.slice none 0 0, .int .i64 0] 32)) 5 s) := by
  generalize hW : (w.alloc (.cells #[.slice none 0 0, .int .i64 0] 32)).alloc (.cells #[.slice none 0 0, .int .i64 0] 32) = W
  have hz : W.heap.size = w.heap.size + 2 := by rw [← hW]; simp
  have old := fun (j : Nat) (hj : j < W.heap.size) => Lib.bytesWorld_at_old W 5 s j hj
  have h0 : W.cell? ⟨w.heap.size, 0, none⟩ = some (.slice none 0 0) := by rw [← hW]; simp [go_sem]
  have h1 : W.cell? ⟨w.heap.size, 1, none⟩ = some (.int .i64 0) := by rw [← hW]; simp [go_sem]
  have f0 : W.frozen? ⟨w.heap.size, 0, none⟩ = false := by rw [← hW]; simp [go_sem]
  have f1 : W.frozen? ⟨w.heap.size, 1, none⟩ = false := by rw [← hW]; simp [go_sem]
  have hb : Below w.heap.size w W := by rw [← hW]; exact blw_alloc (blw_alloc (Below.refl _ _) _) _
  refine ⟨?_, ?_, ?_, ?_, fun j hj => ?_, ?_, ?_⟩
  · rw [Lib.bytesWorld_old W 5 s _ (by show w.heap.size < _; omega)]; exact h0
  · rw [Lib.bytesWorld_old W 5 s _ (by show w.heap.size < _; omega)]; exact h1
  · simp only [World.frozen?, old w.heap.size (by omega)]; exact f0
  · simp only [World.frozen?, old w.heap.size (by omega)]; exact f1
  · rw [← hz]; exact Lib.bytesWorld_cell W 5 s j hj
  · rw [Lib.bytesWorld_size]; omega
  · exact hb.trans ⟨rfl, rfl, rfl, by rw [Lib.bytesWorld_size]; omega, fun k hk => old k (by omega)⟩
theorem obx_start (w : World) (s : ByteArray) : OBX (w.heap.size + 3) (w.heap.size + 1) [] (Lib.bytesWorld ((w.alloc (.cells #[.slice none 0 0, .int .i64 0] 32)).alloc (.cells #[.slice none 0 0, .int .i64 0] 32)) 5 s) := by
  refine ⟨by omega, .slice none 0 0, ?_, ⟨by simp [pack, packFrom, Lib.byteCells], .inl ⟨rfl, rfl⟩⟩, by simp [Value.ownBlock]⟩
  rw [Lib.bytesWorld_at_old _ _ _ _ (by simp)]
  have e : w.heap.size + 1 = (w.alloc (.cells #[.slice none 0 0, .int .i64 0] 32)).heap.size := by simp
  rw [e]; exact heap_alloc_new _ _
set_option maxRecDepth 100000 in
set_option maxHeartbeats 2000000 in
theorem read_ok (s : ByteArray) (w : World) (h : s.size ≤ 64000) (hd : ∀ j (h : j < s.size), dig s[j] = true) : Calls Tryd.prog 13 #[.string s] w (BOk (bitsS s) w) := by
  have hconv : ∀ W : World, (convert 9 30 (.string s)).run Tryd.prog W = .ok (.slice (some ⟨W.heap.size, 0, none⟩) s.size (grownCap W s.size 0 5)) (Lib.bytesWorld W 5 s) := fun W => Lib.run_convert_string_bytes W 9 30 5 s Tryd.underlying9 Tryd.underlying30 Tryd.underlying5
  have H0 := Lib.hid (RDF.start w s 0)
  have HOB := Lib.hid (obx_start w s)
  have HD := Lib.hid hd
  clear hd
  go_enter Tryd.func13, Tryd.ntmps13
  go_wp2
  all_goals try (exfalso; omega)
  go_loopw [14] (fun i wr => ∃ j : Nat, j ≤ s.size ∧ i = .int .i64 j ∧ OBX (w.heap.size + 3) (w.heap.size + 1) ((bitsS s).take j) wr ∧ RDF w s 0 wr) (fun i _ => s.size - (intOf i).toNat)
  case atStart => exact ⟨0, Nat.zero_le _, rfl, by simpa using HOB.out, H0.out⟩
  case round =>
    obtain ⟨j, hj, rfl, hO, hB⟩ := hrel
    have HO := Lib.hid hO
    have HB := Lib.hid hB
    clear hO hB
    by_cases hlt : j < s.size
    · have hlen : ((bitsS s).take j).length < 64000 := by rw [List.length_take, bitsS_length]; omega
      have HT := Lib.hid (bitsS_take s j hlt)
      have hc := HB.out.by_ j hlt
      rw [getD_data s j hlt] at hc
      have hdj := HD.out j hlt
      have i0 : (0 : Int) ≤ j := by omega
      have i1 : (j : Int) < (s.size : Int) := by omega
      rcases (by unfold dig at hdj; simpa using hdj : s[j] = 48 ∨ s[j] = 49) with q | q
      · rw [q] at hc HT
        have hc' : wr.cell? ⟨w.heap.size + 2, j, none⟩ = some (.int .u8 48) := hc
        go_wp2_with (go_at_call 38; refine (addX_eq _ (w.heap.size + 1) _ false _ rfl _ HO.out hlen HB.out.sz).mono ?_; rintro e w4 ⟨rfl, hO4, hB4⟩; have HO4 := Lib.hid hO4; have HB4 := Lib.hid (HB.out.step hB4); clear hO4 hB4)
        go_roundw
        case rel => exact ⟨j + 1, by omega, by go_num, by rw [HT.out]; exact HO4.out, HB4.out⟩
        case measure => simp [intOf]; omega
      · rw [q] at hc HT
        have hc' : wr.cell? ⟨w.heap.size + 2, j, none⟩ = some (.int .u8 49) := hc
        go_wp2_with (go_at_call 38; refine (addX_eq _ (w.heap.size + 1) _ true _ rfl _ HO.out hlen HB.out.sz).mono ?_; rintro e w4 ⟨rfl, hO4, hB4⟩; have HO4 := Lib.hid hO4; have HB4 := Lib.hid (HB.out.step hB4); clear hO4 hB4)
        go_roundw
        case rel => exact ⟨j + 1, by omega, by go_num, by rw [HT.out]; exact HO4.out, HB4.out⟩
        case measure => simp [intOf]; omega
    · obtain rfl : j = s.size := by omega
      have hO := HO.out
      rw [List.take_of_length_le (by rw [bitsS_length]; omega)] at hO
      obtain ⟨hB1, vr, hbr, hownr, hner⟩ := hO
      obtain ⟨A4, c4, rfl⟩ := own_slc hownr
      have c0 : wr.cell? ⟨w.heap.size + 1, 0, none⟩ = some (.slice A4 (pack (bitsS s)).length c4) := by rw [Lib.cell_of_heap hbr]; rfl
      have c1 : wr.cell? ⟨w.heap.size + 1, 1, none⟩ = some (.int .i64 ((bitsS s).length : Nat)) := by rw [Lib.cell_of_heap hbr]; rfl
      have r0 := HB.out.r0
      have r1 := HB.out.r1
      have g0 := HB.out.g0
      have g1 := HB.out.g1
      have hw1 := HB.out.sz
      have HR := Lib.hid hownr
      clear hbr hownr hner
      go_wp2
      refine bodyPost_ret (v := .tuple #[.agg #[.slice A4 (pack (bitsS s)).length c4, .int .i64 (bitsS s).length], .int .i64 0]) (by simp [results, Tryd.results13, go_sem, r0, r1, hw1]) rfl ⟨_, rfl, ?_, (HB.out.bel.setCell (p := ⟨w.heap.size, 0, none⟩) (by show _ ≤ w.heap.size; omega) _).setCell (p := ⟨w.heap.size, 1, none⟩) (by show _ ≤ w.heap.size; omega) _⟩
      exact own_lower (ownsRow_setCell_below (ownsRow_setCell_below HR.out (by simp <;> omega) _) (by simp <;> omega) _) (by omega)
theorem first_bad (s : ByteArray) (h : ¬ ∀ j (h : j < s.size), dig s[j] = true) : ∃ k, ∃ hk : k < s.size, dig s[k] = false ∧ ∀ j (h : j < k), dig (s[j]'(by omega)) = true := by
  have h' : ∃ k, ∃ hk : k < s.size, dig s[k] = false := by
    apply Classical.byContradiction
    intro hn
    exact h fun j hj => by
      cases q : dig s[j]
      · exact absurd ⟨j, hj, q⟩ hn
      · rfl
  obtain ⟨k, hk, q⟩ := h'
  induction k using Nat.strongRecOn with
  | _ k ih =>
    by_cases hh : ∃ j, ∃ hj : j < k, dig (s[j]'(by omega)) = false
    · obtain ⟨j, hj, hq⟩ := hh
      exact ih j hj (by omega) hq
    · refine ⟨k, hk, q, fun j hj => ?_⟩
      cases q2 : dig (s[j]'(by omega))
      · exact absurd ⟨j, hj, q2⟩ hh
      · rfl
set_option maxRecDepth 100000 in
set_option maxHeartbeats 2000000 in
theorem read_syntax (s : ByteArray) (w : World) (h : s.size ≤ 64000) (hd : ¬ ∀ j (h : j < s.size), dig s[j] = true) : Calls Tryd.prog 13 #[.string s] w (Zeroed 14 w) := by
  obtain ⟨k, hk, hq, hd⟩ := first_bad s hd
  have hconv : ∀ W : World, (convert 9 30 (.string s)).run Tryd.prog W = .ok (.slice (some ⟨W.heap.size, 0, none⟩) s.size (grownCap W s.size 0 5)) (Lib.bytesWorld W 5 s) := fun W => Lib.run_convert_string_bytes W 9 30 5 s Tryd.underlying9 Tryd.underlying30 Tryd.underlying5
  have H0 := Lib.hid (RDF.start w s 0)
  have HOB := Lib.hid (obx_start w s)
  have HD := Lib.hid hd
  have HQ := Lib.hid hq
  clear hd hq
  go_enter Tryd.func13, Tryd.ntmps13
  go_wp2
  all_goals try (exfalso; omega)
  go_loopw [14] (fun i wr => ∃ j : Nat, j ≤ k ∧ i = .int .i64 j ∧ OBX (w.heap.size + 3) (w.heap.size + 1) ((bitsS s).take j) wr ∧ RDF w s 0 wr) (fun i _ => s.size - (intOf i).toNat)
  case atStart => exact ⟨0, Nat.zero_le _, rfl, by simpa using HOB.out, H0.out⟩
  case round =>
    obtain ⟨j, hj, rfl, hO, hB⟩ := hrel
    have HO := Lib.hid hO
    have HB := Lib.hid hB
    clear hO hB
    have hlt' : j < s.size := by omega
    have hc := HB.out.by_ j hlt'
    rw [getD_data s j hlt'] at hc
    have i0 : (0 : Int) ≤ j := by omega
    have i1 : (j : Int) < (s.size : Int) := by omega
    by_cases hlt : j < k
    · have hlen : ((bitsS s).take j).length < 64000 := by rw [List.length_take, bitsS_length]; omega
      have HT := Lib.hid (bitsS_take s j hlt')
      have hdj := HD.out j hlt
      rcases (by unfold dig at hdj; simpa using hdj : s[j] = 48 ∨ s[j] = 49) with q | q
      · rw [q] at hc HT
        have hc' : wr.cell? ⟨w.heap.size + 2, j, none⟩ = some (.int .u8 48) := hc
        go_wp2_with (go_at_call 38; refine (addX_eq _ (w.heap.size + 1) _ false _ rfl _ HO.out hlen HB.out.sz).mono ?_; rintro e w4 ⟨rfl, hO4, hB4⟩; have HO4 := Lib.hid hO4; have HB4 := Lib.hid (HB.out.step hB4); clear hO4 hB4)
        go_roundw
        case rel => exact ⟨j + 1, by omega, by go_num, by rw [HT.out]; exact HO4.out, HB4.out⟩
        case measure => simp [intOf]; omega
      · rw [q] at hc HT
        have hc' : wr.cell? ⟨w.heap.size + 2, j, none⟩ = some (.int .u8 49) := hc
        go_wp2_with (go_at_call 38; refine (addX_eq _ (w.heap.size + 1) _ true _ rfl _ HO.out hlen HB.out.sz).mono ?_; rintro e w4 ⟨rfl, hO4, hB4⟩; have HO4 := Lib.hid hO4; have HB4 := Lib.hid (HB.out.step hB4); clear hO4 hB4)
        go_roundw
        case rel => exact ⟨j + 1, by omega, by go_num, by rw [HT.out]; exact HO4.out, HB4.out⟩
        case measure => simp [intOf]; omega
    · obtain rfl : j = k := by omega
      have hqq := HQ.out
      have hn : s[j] ≠ 48 ∧ s[j] ≠ 49 := by unfold dig at hqq; simpa using hqq
      obtain ⟨x, hx⟩ : ∃ x : Int, x = s[j].toNat := ⟨_, rfl⟩
      rw [← hx] at hc
      have n1 : (x == 48) = false := by rw [hx, beq_eq_false_iff_ne]; intro q; exact hn.1 (UInt8.toNat_inj.1 (by show _ = 48; omega))
      have n2 : (x == 49) = false := by rw [hx, beq_eq_false_iff_ne]; intro q; exact hn.2 (UInt8.toNat_inj.1 (by show _ = 49; omega))
      have n3 : (x != 48) = true := by simp [bne, n1]
      have n4 : (x != 49) = true := by simp [bne, n2]
      have r0 := HB.out.r0
      have r1 := HB.out.r1
      have g0 := HB.out.g0
      have g1 := HB.out.g1
      have hw1 := HB.out.sz
      clear hx hn hqq
      go_wp2
      refine bodyPost_ret (v := .tuple #[.agg #[.slice none 0 0, .int .i64 0], .int .i64 14]) (by simp [results, Tryd.results13, go_sem, r0, r1, hw1]) rfl ⟨rfl, ?_⟩
      exact (HB.out.bel.setCell (p := ⟨w.heap.size, 0, none⟩) (by show _ ≤ w.heap.size; omega) _).setCell (p := ⟨w.heap.size, 1, none⟩) (by show _ ≤ w.heap.size; omega) _
/-- Read's result and its error, whatever the string. -/
def readF (s : ByteArray) : Int := if 64000 < s.size then 2 else if (s.data.toList.all dig) = true then 0 else 14
theorem all_dig (s : ByteArray) : s.data.toList.all dig = true ↔ ∀ j (h : j < s.size), dig s[j] = true := by
  rw [List.all_eq_true]
  constructor
  · intro h j hj
    exact h _ (by rw [Array.mem_toList_iff]; exact Array.getElem_mem (show j < s.data.size from hj))
  · intro h x hx
    obtain ⟨j, hj, rfl⟩ := Array.getElem_of_mem (Array.mem_toList_iff.1 hx)
    exact h j hj
theorem read_any (s : ByteArray) (w : World) : Calls Tryd.prog 13 #[.string s] w (PutG (readF s) (bitsS s) w) := by
  unfold readF
  by_cases h : 64000 < s.size
  · rw [if_pos h]; exact (read_large s w h).mono (PutG.of_zeroed (by decide))
  · rw [if_neg h]
    by_cases hd : s.data.toList.all dig = true
    · rw [if_pos hd]; exact (read_ok s w (by omega) ((all_dig s).1 hd)).mono (PutG.of_ok (by rw [bitsS_length]; omega))
    · rw [if_neg hd]; exact (read_syntax s w (by omega) (fun q => hd ((all_dig s).2 q))).mono (PutG.of_zeroed (by decide))
end Go.Proofs.YtnbdmmepdmmbmaaDoor
