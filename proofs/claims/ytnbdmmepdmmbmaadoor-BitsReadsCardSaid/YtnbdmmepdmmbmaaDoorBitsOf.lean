/- Contract of the reference's BitsOf. -/
import Derived.Test.YtnbdmmepdmmbmaaDoorBitsRef
namespace Go.Proofs.YtnbdmmepdmmbmaaDoor
open Go.RowKit
set_option linter.unusedVariables false
set_option linter.unusedSimpArgs false
def bitsS (s : ByteArray) : List Bool := s.data.toList.map (· == 49)
theorem bitsS_length (s : ByteArray) : (bitsS s).length = s.size := by simp [bitsS]
theorem bitsS_take (s : ByteArray) (j : Nat) (h : j < s.size) : (bitsS s).take (j + 1) = (bitsS s).take j ++ [s[j] == 49] := by
  rw [List.take_succ_eq_append_getElem (by rw [bitsS_length]; exact h)]
  simp [bitsS]; rfl
theorem set_same (D : List UInt8) (i : Nat) : D.set i (UInt8.ofNat (nb D i)) = D := by
  apply List.ext_getElem? 
  intro j
  rw [List.getElem?_set]
  by_cases h : i = j
  · subst h
    rw [if_pos rfl]
    by_cases h2 : i < D.length
    · rw [if_pos h2, List.getElem?_eq_getElem h2]
      simp [nb, List.getD_eq_getElem?_getD, List.getElem?_eq_getElem h2]
    · rw [if_neg h2, List.getElem?_eq_none (Nat.le_of_not_lt h2)]
  · rw [if_neg h]
theorem packAdd_false (D : List UInt8) (k : Nat) : packAdd D k false = grown D k := by
  unfold packAdd; simp only [Bool.false_eq_true, if_false, Nat.add_zero]; exact set_same _ _
theorem byte_ne {c : UInt8} (h : (c == 49) = false) : ((c.toNat : Int) == 49) = false := by
  rw [beq_eq_false_iff_ne] at h ⊢
  intro q; apply h; apply UInt8.toNat_inj.1; have : c.toNat = 49 := by omega
  rw [this]; rfl
theorem byte_eq {c : UInt8} (h : (c == 49) = true) : ((c.toNat : Int) == 49) = true := by
  have : c = 49 := by simpa using h
  subst this; rfl
theorem pow128 (r : Nat) (h : r < 8) : (128 : Int) / 2 ^ r = ((2 ^ (7 - r) : Nat) : Int) := by
  have hr : r = 0 ∨ r = 1 ∨ r = 2 ∨ r = 3 ∨ r = 4 ∨ r = 5 ∨ r = 6 ∨ r = 7 := by omega
  rcases hr with rfl | rfl | rfl | rfl | rfl | rfl | rfl | rfl <;> decide
theorem own_stored8 {w : World} {B g c : Nat} {D : List UInt8} (h : w.ownsRow B 5 1 (.slice (some ⟨g, 0, none⟩) D.length c) D.length (Lib.byteCells D)) (i : Nat) (x : Nat) (hx : x < 256) :
    (w.setCell ⟨g, i, none⟩ (.int .u8 x)).ownsRow B 5 1 (.slice (some ⟨g, 0, none⟩) D.length c) (D.set i (UInt8.ofNat x)).length (Lib.byteCells (D.set i (UInt8.ofNat x))) := by
  rw [cells_set _ _ _ hx, List.length_set]; exact (h.stored i (.int .u8 x)).1
def OfPost (l : List Bool) (w : World) (e : Ending) (w' : World) : Prop := ∃ v, e = .returned v ∧ w'.ownsRow w.heap.size 5 1 v (pack l).length (Lib.byteCells (pack l)) ∧ Below w.heap.size w w'
set_option maxHeartbeats 2000000 in
set_option maxRecDepth 100000 in
theorem bitsOf_any (s : ByteArray) (w : World) (hs : s.size ≤ 1000000) : Calls Tryd.prog 49 #[.string s] w (OfPost (bitsS s) w) := by
  obtain ⟨i0, hi, hz0, hz1, hz2⟩ := info_parts byte_info
  go_enter Tryd.func49, Tryd.ntmps49
  go_wp2
  go_loopw [7, 3] (fun i v wr => ∃ j : Nat, j ≤ s.size ∧ i = .int .i64 j ∧ wr.ownsRow w.heap.size 5 1 v (pack ((bitsS s).take j)).length (Lib.byteCells (pack ((bitsS s).take j))) ∧ Below w.heap.size w wr) (fun i _ _ => s.size - (intOf i).toNat)
  case atStart => exact ⟨0, Nat.zero_le _, rfl, ⟨by simp [pack, packFrom, Lib.byteCells], .inl ⟨rfl, rfl⟩⟩, Below.refl _ _⟩
  case round =>
    obtain ⟨j, hj, rfl, hO, hB⟩ := hrel
    have hP := packed_pack ((bitsS s).take j)
    have hlen := hP.len
    have htl : ((bitsS s).take j).length = j := by rw [List.length_take, bitsS_length]; omega
    have hszr := hB.size
    have HO := Lib.hid hO
    have HB := Lib.hid hB
    have HP := Lib.hid hP
    rw [htl] at hlen
    have HL := Lib.hid hlen
    have HTL := Lib.hid htl
    obtain ⟨A, c, rfl⟩ := own_slc hO
    have hd : (pack ((bitsS s).take j)).length ≤ 200000 := by omega
    clear hO hB hP hlen htl
    by_cases hlt : j < s.size
    · have HT := Lib.hid (bitsS_take s j hlt)
      by_cases h8 : j % 8 = 0
      · have e1 : ((j : Int) % 8 == 0) = true := by simp; omega
        cases hb : (s[j] == 49)
        · have hb' := byte_ne hb
          go_wp2_with (at_builtin; refine wpList_append_own _ rfl _ _ 30 rfl w.heap.size 5 i0 (.int .u8 0) 1 1 Tryd.underlying30 hi hz0 hz1 hz2 rfl (by decide) _ _ _ rfl (HO.out.alloc _) ⟨wr.heap.size, 0, none⟩ 1 1 [.int .u8 0] rfl rfl ?c1 ?c2 ?c3 ?c4 ?c5 ?_)
          case c1 =>
            intro j u hj
            match j, hj with
            | 0, hj => simp at hj; subst hj; simp [Addr.add]
          case c2 => intro u hu; simp at hu; subst hu; rfl
          case c3 => unfold maxLen; omega
          case c4 => omega
          case c5 => simp; omega
          intro v' w2 hown' hgrow _
          have hD : Lib.byteCells (pack ((bitsS s).take j)) ++ [.int .u8 0] = Lib.byteCells (pack ((bitsS s).take j) ++ [0]) := by simp [Lib.byteCells]
          have hle : (pack ((bitsS s).take j)).length + 1 = (pack ((bitsS s).take j) ++ [0]).length := by simp
          rw [hD, hle] at hown'
          have hbl : Below w.heap.size w w2 := (HB.out.alloc (by omega) _).grown hgrow (by simp; omega) (fun k hk => own_ge HO.out k hk)
          have HO2 := Lib.hid hown'
          have HB2 := Lib.hid hbl
          clear hown' hbl hgrow hD
          go_wp2
          go_roundw
          case rel =>
            refine ⟨j + 1, by omega, by go_num, ?_, HB2.out⟩
            rw [HT.out, pack_snoc, HTL.out, hb, packAdd_false]
            unfold grown; rw [if_pos h8]; exact HO2.out
          case measure => simp [intOf]; omega
        · have hb' := byte_eq hb
          go_wp2_with (at_builtin; refine wpList_append_own _ rfl _ _ 30 rfl w.heap.size 5 i0 (.int .u8 0) 1 1 Tryd.underlying30 hi hz0 hz1 hz2 rfl (by decide) _ _ _ rfl (HO.out.alloc _) ⟨wr.heap.size, 0, none⟩ 1 1 [.int .u8 0] rfl rfl ?c1 ?c2 ?c3 ?c4 ?c5 ?_)
          case c1 =>
            intro j u hj
            match j, hj with
            | 0, hj => simp at hj; subst hj; simp [Addr.add]
          case c2 => intro u hu; simp at hu; subst hu; rfl
          case c3 => unfold maxLen; omega
          case c4 => omega
          case c5 => simp; omega
          intro v' w2 hown' hgrow _
          have hD : Lib.byteCells (pack ((bitsS s).take j)) ++ [.int .u8 0] = Lib.byteCells (pack ((bitsS s).take j) ++ [0]) := by simp [Lib.byteCells]
          have hle : (pack ((bitsS s).take j)).length + 1 = (pack ((bitsS s).take j) ++ [0]).length := by simp
          rw [hD, hle] at hown'
          have hbl : Below w.heap.size w w2 := (HB.out.alloc (by omega) _).grown hgrow (by simp; omega) (fun k hk => own_ge HO.out k hk)
          have HO2 := Lib.hid hown'
          have HB2 := Lib.hid hbl
          clear hown' hbl hgrow hD
          obtain ⟨g, c', hv, hg, hgl, hcell, hfz⟩ := own_cell HO2.out (j / 8) (by have := HL.out; rw [List.length_append, this]; simp; omega)
          subst hv
          have HOS := Lib.hid (own_stored8 HO2.out (j / 8))
          have hlow : nb (pack ((bitsS s).take j) ++ [0]) (j / 8) % 2 ^ (8 - j % 8) = 0 := by rw [nb_app, nb_beyond _ _ (by have := HL.out; omega)]; simp
          obtain ⟨hb1, hb2⟩ := add_bit (nb (pack ((bitsS s).take j) ++ [0]) (j / 8)) (j % 8) (by omega) (nb_lt _ _) hlow true
          obtain ⟨y, hy⟩ : ∃ y : Nat, y = nb (pack ((bitsS s).take j) ++ [0]) (j / 8) + 2 ^ (7 - j % 8) := ⟨_, rfl⟩
          simp only [if_true] at hb1
          rw [← hy] at hb1
          have hor : IntKind.u8.wrap ((nb (pack ((bitsS s).take j) ++ [0]) (j / 8) : Int) + 128 / 2 ^ (j % 8)) = (y : Int) := by rw [IntKind.wrap_u8, pow128 _ (by omega)]; omega
          have HPA := Lib.hid (show pack ((bitsS s).take (j + 1)) = (pack ((bitsS s).take j) ++ [0]).set (j / 8) (UInt8.ofNat y) by rw [HT.out, pack_snoc, HTL.out, hb, hy]; unfold packAdd; rw [nb_grown, nb_app]; unfold grown; rw [if_pos h8]; rfl)
          have HY := Lib.hid hb1
          obtain ⟨r, hr⟩ : ∃ r : Nat, r = j % 8 := ⟨_, rfl⟩
          rw [← hr] at hor
          have w0 : (j : Int).tmod 8 = (r : Int) := by rw [Int.tmod_eq_emod_of_nonneg (by omega)]; omega
          have w1 : IntKind.i64.wrap ((j : Int) / 8) = (j : Int) / 8 := IntWalk.i64_in _ (by omega)
          have hi0 : 0 ≤ (j : Int) / 8 := by omega
          have hi1 : (j : Int) / 8 < ((pack ((bitsS s).take j) ++ [0]).length : Int) := by have := HL.out; rw [List.length_append, this]; simp; omega
          have hcell' : w2.cell? ⟨g, ((j : Int) / 8).toNat, none⟩ = some (.int .u8 (nb (pack ((bitsS s).take j) ++ [0]) (j / 8))) := by rw [show ((j : Int) / 8).toNat = j / 8 by omega]; exact hcell
          have hfz' : w2.frozen? ⟨g, ((j : Int) / 8).toNat, none⟩ = false := by rw [show ((j : Int) / 8).toNat = j / 8 by omega]; exact hfz
          have hr8 : r < 8 := by omega
          generalize pack ((bitsS s).take j) ++ [0] = D at *
          clear hlow hb1 hb2 hy hr
          go_wp2
          go_still_tail 9, (by kernel_rfl)
          change wpList _ _ _ _ _ w2.drew
          go_wp2
          go_roundw
          case rel =>
            refine ⟨j + 1, by omega, by go_num, ?_, blw_drew (HB2.out.setCell (p := ⟨g, j / 8, none⟩) hg _)⟩
            rw [HPA.out]
            exact HOS.out y HY.out
          case measure => simp [intOf]; omega
      · have e1 : ((j : Int) % 8 == 0) = false := by simp; omega
        cases hb : (s[j] == 49)
        · have hb' := byte_ne hb
          go_wp2
          go_roundw
          case rel =>
            refine ⟨j + 1, by omega, by go_num, ?_, HB.out⟩
            rw [HT.out, pack_snoc, HTL.out, hb, packAdd_false]
            unfold grown; rw [if_neg h8]; exact HO.out
          case measure => simp [intOf]; omega
        · have hb' := byte_eq hb
          obtain ⟨g, c', hv, hg, hgl, hcell, hfz⟩ := own_cell HO.out (j / 8) (by have := HL.out; omega)
          injection hv with hA hc2 hc3
          subst hA hc3
          have HOS := Lib.hid (own_stored8 HO.out (j / 8))
          have hlow : nb (pack ((bitsS s).take j)) (j / 8) % 2 ^ (8 - j % 8) = 0 := by have := HP.out.low; rwa [HTL.out] at this
          obtain ⟨hb1, hb2⟩ := add_bit (nb (pack ((bitsS s).take j)) (j / 8)) (j % 8) (by omega) (nb_lt _ _) hlow true
          obtain ⟨y, hy⟩ : ∃ y : Nat, y = nb (pack ((bitsS s).take j)) (j / 8) + 2 ^ (7 - j % 8) := ⟨_, rfl⟩
          simp only [if_true] at hb1
          rw [← hy] at hb1
          have hor : IntKind.u8.wrap ((nb (pack ((bitsS s).take j)) (j / 8) : Int) + 128 / 2 ^ (j % 8)) = (y : Int) := by rw [IntKind.wrap_u8, pow128 _ (by omega)]; omega
          have HPA := Lib.hid (show pack ((bitsS s).take (j + 1)) = (pack ((bitsS s).take j)).set (j / 8) (UInt8.ofNat y) by rw [HT.out, pack_snoc, HTL.out, hb, hy]; unfold packAdd; rw [nb_grown]; unfold grown; rw [if_neg h8]; rfl)
          have HY := Lib.hid hb1
          obtain ⟨r, hr⟩ : ∃ r : Nat, r = j % 8 := ⟨_, rfl⟩
          rw [← hr] at hor
          have w0 : (j : Int).tmod 8 = (r : Int) := by rw [Int.tmod_eq_emod_of_nonneg (by omega)]; omega
          have e2 : ((r : Int) == 0) = false := by simp; omega
          have w1 : IntKind.i64.wrap ((j : Int) / 8) = (j : Int) / 8 := IntWalk.i64_in _ (by omega)
          have hi0 : 0 ≤ (j : Int) / 8 := by omega
          have hi1 : (j : Int) / 8 < ((pack ((bitsS s).take j)).length : Int) := by have := HL.out; omega
          have hcell' : wr.cell? ⟨g, ((j : Int) / 8).toNat, none⟩ = some (.int .u8 (nb (pack ((bitsS s).take j)) (j / 8))) := by rw [show ((j : Int) / 8).toNat = j / 8 by omega]; exact hcell
          have hfz' : wr.frozen? ⟨g, ((j : Int) / 8).toNat, none⟩ = false := by rw [show ((j : Int) / 8).toNat = j / 8 by omega]; exact hfz
          have hr8 : r < 8 := by omega
          generalize pack ((bitsS s).take j) = D at *
          clear hlow hb1 hb2 hy hr
          go_wp2
          go_still_tail 9, (by kernel_rfl)
          change wpList _ _ _ _ _ wr.drew
          go_wp2
          go_roundw
          case rel =>
            refine ⟨j + 1, by omega, by go_num, ?_, blw_drew (HB.out.setCell (p := ⟨g, j / 8, none⟩) hg _)⟩
            rw [HPA.out]
            exact HOS.out y HY.out
          case measure => simp [intOf]; omega
    · obtain rfl : j = s.size := by omega
      rw [List.take_of_length_le (by rw [bitsS_length]; omega)] at HO ⊢
      go_wp2
      go_ret
      exact ⟨_, rfl, HO.out, HB.out⟩

end Go.Proofs.YtnbdmmepdmmbmaaDoor
