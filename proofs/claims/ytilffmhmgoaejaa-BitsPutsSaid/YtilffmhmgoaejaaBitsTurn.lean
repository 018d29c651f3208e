/- Contracts of slices.Reverse at bytes and of the reference's Turned. -/
import Derived.Test.YtilffmhmgoaejaaBitsNum
import Derived.Lib.ConvBytes
namespace Go.Proofs.Ytilffmhmgoaejaa
open Go.RowKit
set_option linter.unusedVariables false
set_option linter.unusedSimpArgs false
/-- What stands at place x behind i swaps from both ends. -/
def rv (D : List UInt8) (i x : Nat) : Nat := if x < i ∨ D.length ≤ x + i then nb D (D.length - 1 - x) else nb D x
def RevSt (g : Nat) (D : List UInt8) (i : Nat) (w : World) : Prop := ∀ x, x < D.length → w.cell? ⟨g, x, none⟩ = some (.int .u8 (rv D i x)) ∧ w.frozen? ⟨g, x, none⟩ = false
theorem rev_step {g k m : Nat} {D : List UInt8} {w : World} (hm : k + m + 1 = D.length) (hkm : k < m) (h : RevSt g D k w) :
    RevSt g D (k + 1) ((w.setCell ⟨g, k, none⟩ (.int .u8 (rv D k m))).setCell ⟨g, m, none⟩ (.int .u8 (rv D k k))).drew := by
  intro x hx
  obtain ⟨r1, f1⟩ := h x hx
  obtain ⟨rk, _⟩ := h k (by omega)
  obtain ⟨rm, _⟩ := h m (by omega)
  refine ⟨?_, by show ((w.setCell _ _).setCell _ _).frozen? _ = false; simpa using f1⟩
  show ((w.setCell _ _).setCell _ _).cell? _ = _
  by_cases e1 : x = m
  · subst e1
    have hq : (w.setCell ⟨g, k, none⟩ (.int .u8 (rv D k x))).cell? ⟨g, x, none⟩ = some (.int .u8 (rv D k x)) := by
      rw [World.cell?_setCell_other _ _ _ _ (by intro q; injection q; omega)]; exact r1
    rw [World.cell?_setCell_same _ _ _ hq]
    congr 3
    unfold rv
    rw [if_neg (by omega), if_pos (by omega), show D.length - 1 - x = k by omega]
  · rw [World.cell?_setCell_other _ _ _ _ (by intro q; injection q; omega)]
    by_cases e2 : x = k
    · subst e2
      rw [World.cell?_setCell_same _ _ _ r1]
      congr 3
      unfold rv
      rw [if_neg (by omega), if_pos (by omega), show D.length - 1 - x = m by omega]
    · rw [World.cell?_setCell_other _ _ _ _ (by intro q; injection q; omega), r1]
      congr 3
      unfold rv
      by_cases q : x < k ∨ D.length ≤ x + k
      · rw [if_pos q, if_pos (by omega)]
      · rw [if_neg q, if_neg (by omega)]
set_option maxHeartbeats 2000000 in
theorem reverse_any (g c : Nat) (D : List UInt8) (w : World) (h : RevSt g D 0 w) (hl : D.length ≤ 1000000) : Calls Try.prog 85 #[.slice (some ⟨g, 0, none⟩) D.length c] w fun e w' => e = .returned (.tuple #[]) ∧ RevSt g D D.length w' ∧ Below g w w' := by
  have H := Lib.hid h
  clear h
  go_enter Try.func85, Try.ntmps85
  go_wp2
  go_loopw [2, 3] (fun i j wr => ∃ k : Nat, 2 * k ≤ D.length ∧ i = .int .i64 k ∧ j = .int .i64 ((D.length : Int) - 1 - k) ∧ RevSt g D k wr ∧ Below g w wr) (fun i _ _ => D.length - (intOf i).toNat)
  case atStart => exact ⟨0, by omega, rfl, by simp, H.out, Below.refl _ _⟩
  case round =>
    obtain ⟨k, hk, rfl, rfl, hR, hB⟩ := hrel
    have HR := Lib.hid hR
    have HB := Lib.hid hB
    clear hR hB
    by_cases hlt : (k : Int) < (D.length : Int) - 1 - k
    · obtain ⟨m, hm⟩ : ∃ m : Nat, m = D.length - 1 - k := ⟨_, rfl⟩
      have em : (D.length : Int) - 1 - k = (m : Int) := by omega
      have HM := Lib.hid hm
      have hkm : k < m := by omega
      have hmD : m < D.length := by omega
      have HE := Lib.hid em
      clear hm
      rw [em] at hlt ⊢
      clear em
      obtain ⟨r1, f1⟩ := HR.out k (by omega)
      obtain ⟨r2, f2⟩ := HR.out m (by omega)
      go_wp2
      go_region
      go_wp2
      refine ⟨⟨k + 1, by have := HM.out; omega, by go_num, congrArg _ (by have := HE.out; omega), ?_, ?_⟩, by simp [intOf]; omega⟩
      · exact rev_step (by have := HM.out; omega) hkm HR.out
      · exact blw_drew ((HB.out.setCell (p := ⟨g, k, none⟩) (Nat.le_refl _) _).setCell (p := ⟨g, m, none⟩) (Nat.le_refl _) _)
    · go_wp2
      go_end0
      refine ⟨rfl, ?_, HB.out⟩
      intro x hx
      obtain ⟨r1, f1⟩ := HR.out x hx
      refine ⟨r1.trans ?_, f1⟩
      congr 3
      unfold rv
      rw [if_pos (show x < D.length ∨ _ from .inl hx)]
      by_cases q : x < k ∨ D.length ≤ x + k
      · rw [if_pos q]
      · rw [if_neg q, show D.length - 1 - x = x by omega]
theorem reverse_eq (g c : Nat) (D : List UInt8) (n : Nat) (hn : n = D.length) (w : World) (h : RevSt g D 0 w) (hl : D.length ≤ 1000000) : Calls Try.prog 85 #[.slice (some ⟨g, 0, none⟩) n c] w fun e w' => e = .returned (.tuple #[]) ∧ RevSt g D D.length w' ∧ Below g w w' := by
  subst hn; exact reverse_any g c D w h hl
def TurnPost (l : List Bool) (w : World) (e : Ending) (w' : World) : Prop := ∃ T : ByteArray, e = .returned (.string T) ∧ T.data.toList = digs l.reverse ∧ Below w.heap.size w w'
set_option maxRecDepth 100000 in
set_option maxHeartbeats 2000000 in
theorem turned_any (l : List Bool) (S : ByteArray) (h : S.data.toList = digs l) (hl : l.length ≤ 1000000) (w : World) : Calls Try.prog 49 #[.string S] w (TurnPost l w) := by
  have hsz : S.size = l.length := by rw [size_of_list h, digs_length]
  have H := Lib.hid h
  have HZ := Lib.hid hsz
  have hS2 : S.size ≤ 1000000 := by omega
  clear h hsz
  go_enter Try.func49, Try.ntmps49
  go_wp2_with fail
  rw [Lib.run_convert_string_bytes w 9 65 5 S Try.underlying9 Try.underlying65 Try.underlying5]
  simp only [Result.andThen]
  rw [Oper.upon_value]
  have hbl : Below w.heap.size w (Lib.bytesWorld w 5 S) := ⟨by simp [Lib.bytesWorld, World.freeze]; try rfl, by simp [Lib.bytesWorld, World.freeze]; try rfl, by simp [Lib.bytesWorld, World.freeze]; try rfl, by rw [Lib.bytesWorld_size]; exact Nat.le_succ _, fun k hk => Lib.bytesWorld_at_old w 5 S k hk⟩
  have hst : RevSt w.heap.size S.data.toList 0 (Lib.bytesWorld w 5 S) := by
    intro x hx
    have hx' : x < S.size := by rw [Array.length_toList] at hx; exact hx
    refine ⟨?_, ?_⟩
    · rw [Lib.bytesWorld_cell w 5 S x hx']
      unfold rv nb
      rw [if_neg (by omega)]
    · have hn := Lib.bytesWorld_at_new w 5 S
      have hcs : S.size ≤ (Lib.bytesCells w 5 S).size := by unfold Lib.bytesCells; rw [Array.size_append, Array.size_map]; exact Nat.le_add_right _ _
      simp only [World.frozen?, hn]
      rw [Bool.and_eq_false_iff]
      left
      rw [decide_eq_false_iff_not]
      show ¬ ((Lib.bytesCells w 5 S).size ≤ x)
      omega
  have HBL := Lib.hid hbl
  have HST := Lib.hid hst
  generalize Lib.bytesWorld w 5 S = w1 at *
  generalize grownCap w S.size 0 5 = cp at *
  clear hbl hst
  go_wp2_with (go_at_call 85; refine (reverse_eq w.heap.size cp S.data.toList S.size (Array.length_toList ..).symm w1 HST.out (by rw [Array.length_toList]; exact hS2)).mono ?_; rintro e w2 ⟨rfl, hR, hB⟩; have HR := Lib.hid hR; have HB := Lib.hid hB; clear hR hB)
  have hD : S.data.toList.length = S.size := Array.length_toList ..
  rw [run_convert_bytes_arg (P := Try.prog) w2 65 5 rfl rfl w.heap.size 0 S.size cp (S.data.toList.reverse.map fun b => (b.toNat : Int)) (by simp) (by
    intro i hi
    obtain ⟨r1, _⟩ := HR.out i (by rw [hD]; exact hi)
    rw [Nat.zero_add, r1]
    congr 2
    unfold rv
    rw [if_pos (by rw [hD]; exact .inl hi)]
    have h1 : i < (S.data.toList.reverse.map fun b => (b.toNat : Int)).length := by simp; exact hi
    rw [List.getD_eq_getElem?_getD, List.getElem?_eq_getElem h1]
    simp only [List.getElem_map, List.getElem_reverse, Option.getD_some]
    unfold nb
    rw [List.getD_eq_getElem?_getD, List.getElem?_eq_getElem (by rw [hD]; omega), Option.getD_some]) 9 rfl]
  simp only [Result.andThen]
  rw [Oper.upon_value]
  go_wp2
  go_ret
  refine ⟨_, rfl, ?_, HBL.out.trans HB.out⟩
  have e : (strOfNums (S.data.toList.map fun b => (b.toNat : Int)).reverse).data.toList = S.data.toList.reverse := by
    have e2 : ((fun n : Int => UInt8.ofNat n.toNat) ∘ fun b : UInt8 => (b.toNat : Int)) = id := by
      funext b; simp
    simp [strOfNums, List.map_map, e2]
  rw [e, H.out]
  simp [digs]

end Go.Proofs.Ytilffmhmgoaejaa
