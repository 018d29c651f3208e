/- Contract of bits.add: a bit is put behind the call's own string of bits. -/
import Derived.Test.YtnbdmmepdmmbmaaDoorBitsCheck
namespace Go.Proofs.YtnbdmmepdmmbmaaDoor
open Go.RowKit
set_option linter.unusedVariables false
set_option linter.unusedSimpArgs false
/-- The call's own string of bits, in block ob: it holds the bits l. -/
def OB (B ob : Nat) (l : List Bool) (w : World) : Prop :=
  B ≤ ob ∧ ∃ v, w.heap[ob]? = some (.cells #[v, .int .i64 l.length] 32 (0, 0)) ∧ w.ownsRow B 5 1 v (pack l).length (Lib.byteCells (pack l)) ∧ v.ownBlock ≠ some ob
def b01 (b : Bool) : Int := if b then 1 else 0
theorem or_add (x s : Nat) (b : Bool) (hs : s < 8) (hx : x < 256) (h : x % 2 ^ (s + 1) = 0) : bits .or .u8 (x : Int) (IntKind.u8.wrap (IntKind.i64.wrap (b01 b * 2 ^ s))) = ((x + if b then 2 ^ s else 0 : Nat) : Int) := by
  have hp : (2 : Nat) ^ s < 256 := by
    have : (2 : Nat) ^ s ≤ 2 ^ 7 := Nat.pow_le_pow_right (by omega) (by omega)
    omega
  have hc : ((2 : Int) ^ s) = ((2 ^ s : Nat) : Int) := by simp
  have e : IntKind.u8.wrap (IntKind.i64.wrap (b01 b * 2 ^ s)) = ((if b then 2 ^ s else 0 : Nat) : Int) := by
    rw [hc, IntKind.wrap_i64, IntKind.wrap_u8]
    cases b <;> simp [b01] <;> omega
  rw [e, u8_or_nat x _ hx (by split <;> omega)]
  congr 1
  cases b with
  | false => simp
  | true => exact nat_join (s + 1) _ _ h (by simp only [if_true]; exact Nat.pow_lt_pow_right (by omega) (by omega))
theorem own_cell {w : World} {B : Nat} {v : Value} {D : List UInt8} (h : w.ownsRow B 5 1 v D.length (Lib.byteCells D)) (i : Nat) (hi : i < D.length) :
    ∃ g c, v = .slice (some ⟨g, 0, none⟩) D.length c ∧ B ≤ g ∧ g < w.heap.size ∧ w.cell? ⟨g, i, none⟩ = some (.int .u8 (nb D i)) ∧ w.frozen? ⟨g, i, none⟩ = false := by
  rcases h.2 with ⟨_, h0⟩ | ⟨g, cap, cur, rfl, hg, hh, _⟩
  · omega
  · refine ⟨g, cap, rfl, hg, (Array.getElem?_eq_some_iff.1 hh).1, ?_, h.frozenAt i⟩
    rw [h.cellAt i (by omega)]
    simp [Lib.byteCells, nb, List.getElem?_map, List.getElem?_eq_getElem hi, List.getD_eq_getElem?_getD]
theorem cells_set (D : List UInt8) (i x : Nat) (hx : x < 256) : Lib.byteCells (D.set i (UInt8.ofNat x)) = (Lib.byteCells D).set i (.int .u8 x) := by
  have e : (UInt8.ofNat x).toNat = x := by simp; omega
  simp only [Lib.byteCells, List.map_set, e]
theorem ob_stored {B ob g c i x : Nat} {D : List UInt8} {q : Value} {w : World} (hB : B ≤ ob) (hbk : w.heap[ob]? = some (.cells #[.slice (some ⟨g, 0, none⟩) D.length c, q] 32 (0, 0))) (hown : w.ownsRow B 5 1 (.slice (some ⟨g, 0, none⟩) D.length c) D.length (Lib.byteCells D)) (hgo : ob ≠ g) (hgB : B ≤ g) (hx : x < 256) (m : Int) :
    (∃ v, ((w.setCell ⟨g, i, none⟩ (.int .u8 x)).setCell ⟨ob, 1, none⟩ (.int .i64 m)).heap[ob]? = some (.cells #[v, .int .i64 m] 32 (0, 0)) ∧ ((w.setCell ⟨g, i, none⟩ (.int .u8 x)).setCell ⟨ob, 1, none⟩ (.int .i64 m)).ownsRow B 5 1 v (D.set i (UInt8.ofNat x)).length (Lib.byteCells (D.set i (UInt8.ofNat x))) ∧ v.ownBlock ≠ some ob) ∧
    Below B w ((w.setCell ⟨g, i, none⟩ (.int .u8 x)).setCell ⟨ob, 1, none⟩ (.int .i64 m)) := by
  have hs := (hown.stored i (.int .u8 x)).1
  have h1 : (w.setCell ⟨g, i, none⟩ (.int .u8 x)).heap[ob]? = some (.cells #[.slice (some ⟨g, 0, none⟩) D.length c, q] 32 (0, 0)) := by
    rw [Below.heap_setCell _ _ _ _ hgo]; exact hbk
  refine ⟨⟨.slice (some ⟨g, 0, none⟩) D.length c, ?_, ?_, fun e => hgo (Option.some.inj e).symm⟩, ((Below.refl B w).setCell (p := ⟨g, i, none⟩) hgB _).setCell (p := ⟨ob, 1, none⟩) hB _⟩
  · simp [World.setCell, Array.getElem?_modify, hbk, hgo, hgo.symm]
  · rw [cells_set _ _ _ hx, List.length_set]
    exact hs.kept (row := some ob) ⟨rfl, rfl, rfl, by simp [World.setCell], fun k _ hk => Below.heap_setCell _ _ _ _ (fun e => hk (by simp [e]))⟩ (Or.inr (fun e => hgo (Option.some.inj e).symm))
set_option maxHeartbeats 2000000 in
set_option maxRecDepth 100000 in
theorem add_mid (B ob : Nat) (l : List Bool) (b : Bool) (w : World) (h : OB B ob l w) (hl : l.length < 64000) (h8 : l.length % 8 ≠ 0) :
    Calls Tryd.prog 38 #[.pointer (some ⟨ob, 0, none⟩), .int .i64 (b01 b)] w fun e w' => e = .returned (.tuple #[]) ∧ OB B ob (l ++ [b]) w' ∧ Below B w w' := by
  obtain ⟨hB, v, hbk, hown, hne⟩ := h
  have hP := packed_pack l
  have hlen := hP.len
  obtain ⟨g, c, rfl, hg, hgl, hcell, hfz⟩ := own_cell hown (l.length / 8) (by omega)
  have c0 : w.cell? ⟨ob, 0, none⟩ = some (.slice (some ⟨g, 0, none⟩) (pack l).length c) := by rw [Lib.cell_of_heap hbk]; rfl
  have c1 : w.cell? ⟨ob, 1, none⟩ = some (.int .i64 l.length) := by rw [Lib.cell_of_heap hbk]; rfl
  have hn := nb_lt (pack l) (l.length / 8)
  have e1 : ((l.length : Int) % 8 == 0) = false := by simp; omega
  have HB := Lib.hid hbk
  have HO := Lib.hid hown
  have HL := Lib.hid hlen
  have f1 : w.frozen? ⟨ob, 1, none⟩ = false := Lib.frozen_of_heap hbk 1
  clear hbk hown
  have hi0 : 0 ≤ (l.length : Int) / 8 := by omega
  have hi1 : (l.length : Int) / 8 < ((pack l).length : Int) := by omega
  have hcell' : w.cell? ⟨g, ((l.length : Int) / 8).toNat, none⟩ = some (.int .u8 (nb (pack l) (l.length / 8))) := by rw [show ((l.length : Int) / 8).toNat = l.length / 8 by omega]; exact hcell
  have hfz' : w.frozen? ⟨g, ((l.length : Int) / 8).toNat, none⟩ = false := by rw [show ((l.length : Int) / 8).toNat = l.length / 8 by omega]; exact hfz
  have hgo : ob ≠ g := fun e => hne (by rw [e]; rfl)
  have hgo' : ¬ g = ob := fun e => hgo e.symm
  have hr0 : 0 ≤ 7 - (l.length : Int) % 8 := by omega
  have hr1 : 7 - (l.length : Int) % 8 < 8 := by omega
  have hbb : 0 ≤ b01 b ∧ b01 b ≤ 1 := by cases b <;> decide
  clear hlen
  have w1 : IntKind.i64.wrap ((l.length : Int) / 8) = (l.length : Int) / 8 := IntWalk.i64_in _ (by omega)
  obtain ⟨s, hs⟩ : ∃ s : Nat, s = 7 - l.length % 8 := ⟨_, rfl⟩
  have w0 : (l.length : Int).tmod 8 = ((7 - s : Nat) : Int) := by rw [Int.tmod_eq_emod_of_nonneg (by omega)]; omega
  have w2 : IntKind.i64.wrap (7 - ((7 - s : Nat) : Int)) = (s : Int) := by rw [IntWalk.i64_in _ (by omega)]; omega
  have e2 : (((7 - s : Nat) : Int) == 0) = false := by simp; omega
  have HS := Lib.hid hs
  have hs7 : s < 8 := by omega
  clear hs
  have hlow : nb (pack l) (l.length / 8) % 2 ^ (s + 1) = 0 := by
    have := hP.low
    rwa [show 8 - l.length % 8 = s + 1 by have := HS.out; omega] at this
  obtain ⟨x, hx⟩ : ∃ x : Nat, x = nb (pack l) (l.length / 8) + if b then 2 ^ s else 0 := ⟨_, rfl⟩
  have hor : bits .or .u8 (nb (pack l) (l.length / 8) : Int) (IntKind.u8.wrap (IntKind.i64.wrap (b01 b * 2 ^ s))) = (x : Int) := by rw [hx]; exact or_add _ s b hs7 hn hlow
  have HX := Lib.hid hx
  have HLow := Lib.hid hlow
  clear hx hlow hP
  go_enter Tryd.func38, Tryd.ntmps38
  go_wp2
  go_still_tail 21, (by kernel_rfl)
  change wpList _ _ _ _ _ w.drew
  go_wp2
  go_end0
  have hx256 : x < 256 := by
    have := add_bit (nb (pack l) (l.length / 8)) (l.length % 8) (by omega) hn (by have := HLow.out; rwa [show 8 - l.length % 8 = s + 1 by have := HS.out; omega]) b
    rw [HX.out]; rw [show 7 - l.length % 8 = s from HS.out.symm] at this; exact this.1
  obtain ⟨⟨v, k1, k2, k3⟩, k4⟩ := ob_stored (i := l.length / 8) hB HB.out HO.out hgo hg hx256 ((l.length : Int) + 1)
  refine ⟨rfl, ⟨hB, v, ?_, ?_, k3⟩, blw_drew k4⟩
  · rw [show (((l ++ [b]).length : Nat) : Int) = (l.length : Int) + 1 by simp]; exact k1
  · have e : pack (l ++ [b]) = (pack l).set (l.length / 8) (UInt8.ofNat x) := by
      rw [pack_snoc]; unfold packAdd grown; rw [if_neg h8, HX.out, HS.out]
    rw [e]; exact k2
theorem own_ge {w : World} {B : Nat} {v : Value} {n : Nat} {xs : List Value} (h : w.ownsRow B 5 1 v n xs) (k : Nat) (hk : v.ownBlock = some k) : B ≤ k := by
  rcases h.2 with ⟨rfl, _⟩ | ⟨g, cap, cur, rfl, hg, _⟩
  · cases hk
  · have : g = k := Option.some.inj hk
    omega
set_option maxHeartbeats 2000000 in
set_option maxRecDepth 100000 in
theorem add_start (B ob : Nat) (l : List Bool) (b : Bool) (w : World) (h : OB B ob l w) (hl : l.length < 64000) (hBw : B ≤ w.heap.size) (h8 : l.length % 8 = 0) :
    Calls Tryd.prog 38 #[.pointer (some ⟨ob, 0, none⟩), .int .i64 (b01 b)] w fun e w' => e = .returned (.tuple #[]) ∧ OB B ob (l ++ [b]) w' ∧ Below B w w' := by
  obtain ⟨hB, v, hbk, hown, hne⟩ := h
  obtain ⟨i0, hi, hz0, hz1, hz2⟩ := info_parts byte_info
  have hP := packed_pack l
  have hlen := hP.len
  have c0 : w.cell? ⟨ob, 0, none⟩ = some v := by rw [Lib.cell_of_heap hbk]; rfl
  have c1 : w.cell? ⟨ob, 1, none⟩ = some (.int .i64 l.length) := by rw [Lib.cell_of_heap hbk]; rfl
  have hlt : ob < w.heap.size := (Array.getElem?_eq_some_iff.1 hbk).1
  have e1 : ((l.length : Int) % 8 == 0) = true := by simp; omega
  have hd : (pack l).length ≤ 8000 := by omega
  have HB := Lib.hid hbk
  have HO := Lib.hid hown
  have HL := Lib.hid hlen
  have H8 := Lib.hid h8
  clear hbk hown hlen h8
  go_enter Tryd.func38, Tryd.ntmps38
  go_wp2_with (at_builtin; refine wpList_append_own _ rfl _ _ 30 rfl B 5 i0 (.int .u8 0) 1 1 Tryd.underlying30 hi hz0 hz1 hz2 rfl (by decide) _ _ _ rfl (HO.out.alloc _) ⟨w.heap.size, 0, none⟩ 1 1 [.int .u8 0] rfl rfl ?c1 ?c2 ?c3 ?c4 ?c5 ?_)
  case c1 =>
    intro j u hj
    match j, hj with
    | 0, hj => simp at hj; subst hj; simp [Addr.add]
  case c2 => intro u hu; simp at hu; subst hu; rfl
  case c3 => unfold maxLen; omega
  case c4 => omega
  case c5 => simp; omega
  intro v' w2 hown' hgrow _
  have hb2 : w2.heap[ob]? = some (.cells #[v, .int .i64 l.length] 32 (0, 0)) := by
    rw [hgrow.block ob (by simp; omega) (fun e => hne e.symm), Lib.alloc_old w _ ob hlt]
    exact HB.out
  have hD : Lib.byteCells (pack l) ++ [.int .u8 0] = Lib.byteCells (pack l ++ [0]) := by simp [Lib.byteCells]
  have hle : (pack l).length + 1 = (pack l ++ [0]).length := by simp
  rw [hD, hle] at hown'
  obtain ⟨g, c, rfl, hg, hgl, hcell, hfz⟩ := own_cell hown' (pack l).length (by simp)
  have hgo : ob ≠ g := fun e => by
    rcases hown'.2 with ⟨h0, _⟩ | ⟨g', cap', cur, h0, _, hh, _⟩
    · cases h0
    · have e2 : g = g' := by injection h0 with h0; injection h0 with h0; injection h0 with h0
      subst e2; subst e; rw [hb2] at hh; simp at hh
  have hgo' : ¬ g = ob := fun e => hgo e.symm
  rw [nb_app, nb_beyond _ _ (Nat.le_refl _)] at hcell
  have hln : l.length / 8 = (pack l).length := by have := HL.out; have := H8.out; omega
  rw [← hln] at hcell hfz
  have d0 : w2.cell? ⟨ob, 0, none⟩ = some v := by rw [Lib.cell_of_heap hb2]; rfl
  have f0 : w2.frozen? ⟨ob, 0, none⟩ = false := Lib.frozen_of_heap hb2 0
  have hbelow : Below B w w2 := ((Below.refl B w).alloc (by omega) _).grown hgrow (by simp; omega) (fun k hk => own_ge HO.out k hk)
  have HB2 := Lib.hid hb2
  have HO2 := Lib.hid hown'
  have HBL := Lib.hid hbelow
  have HLN := Lib.hid hln
  have HLE := Lib.hid hle
  have HC := Lib.hid hcell
  have HF := Lib.hid hfz
  clear hb2 hown' hbelow hgrow hln hD hle hcell hfz
  go_wp2
  obtain ⟨w3, hw3⟩ : ∃ w3, w3 = w2.setCell ⟨ob, 0, none⟩ (.slice (some ⟨g, 0, none⟩) (pack l ++ [0]).length c) := ⟨_, rfl⟩
  have hb3 : w3.heap[ob]? = some (.cells #[.slice (some ⟨g, 0, none⟩) (pack l ++ [0]).length c, .int .i64 l.length] 32 (0, 0)) := by
    have := HB2.out
    rw [hw3]; simp [World.setCell, Array.getElem?_modify, this]
  have hown3 : w3.ownsRow B 5 1 (.slice (some ⟨g, 0, none⟩) (pack l ++ [0]).length c) (pack l ++ [0]).length (Lib.byteCells (pack l ++ [0])) := by
    rw [hw3]
    exact HO2.out.kept (row := some ob) ⟨rfl, rfl, rfl, by simp [World.setCell], fun k _ hk => Below.heap_setCell _ _ _ _ (fun e => hk (by simp [e]))⟩ (Or.inr (fun e => hgo (Option.some.inj e).symm))
  have hbl3 : Below B w w3 := by rw [hw3]; exact HBL.out.setCell (p := ⟨ob, 0, none⟩) hB _
  rw [show (pack l).length + 1 = (pack l ++ [0]).length from HLE.out, ← hw3]
  clear hw3 d0 f0 c0 c1 hgl
  have hn8 : l.length / 8 = (pack l).length := HLN.out
  have hnz : nb (pack l ++ [0]) (l.length / 8) = 0 := by rw [nb_app, hn8]; exact nb_beyond _ _ (Nat.le_refl _)
  have hDl : (pack l ++ [0]).length = l.length / 8 + 1 := by rw [List.length_append, hn8]; rfl
  have HD : Hid (pack (l ++ [b]) = (pack l ++ [0]).set (l.length / 8) (UInt8.ofNat (if b then 2 ^ 7 else 0))) := by
    show _ = _
    rw [pack_snoc]; unfold packAdd
    rw [show grown (pack l) l.length = pack l ++ [0] from by unfold grown; rw [if_pos H8.out], hnz, H8.out, Nat.zero_add]
  generalize pack l ++ [0] = D at hb3 hown3 HD hnz hDl ⊢
  have hcell : w3.cell? ⟨g, l.length / 8, none⟩ = some (.int .u8 0) ∧ w3.frozen? ⟨g, l.length / 8, none⟩ = false := by
    obtain ⟨g', c', e, _, _, h1, h2⟩ := own_cell hown3 (l.length / 8) (by omega)
    have e2 : g = g' := by injection e with e; injection e with e; injection e with e
    subst e2
    rw [hnz] at h1
    exact ⟨h1, h2⟩
  obtain ⟨hcell, hfz⟩ := hcell
  have c0 : w3.cell? ⟨ob, 0, none⟩ = some (.slice (some ⟨g, 0, none⟩) D.length c) := by rw [Lib.cell_of_heap hb3]; rfl
  have c1 : w3.cell? ⟨ob, 1, none⟩ = some (.int .i64 l.length) := by rw [Lib.cell_of_heap hb3]; rfl
  have f1 : w3.frozen? ⟨ob, 1, none⟩ = false := Lib.frozen_of_heap hb3 1
  have HB3 := Lib.hid hb3
  have HO3 := Lib.hid hown3
  have HBL3 := Lib.hid hbl3
  have HDL := Lib.hid hDl
  have hcell' : w3.cell? ⟨g, ((l.length : Int) / 8).toNat, none⟩ = some (.int .u8 0) := by rw [show ((l.length : Int) / 8).toNat = l.length / 8 by omega]; exact hcell
  have hfz' : w3.frozen? ⟨g, ((l.length : Int) / 8).toNat, none⟩ = false := by rw [show ((l.length : Int) / 8).toNat = l.length / 8 by omega]; exact hfz
  have hi0 : 0 ≤ (l.length : Int) / 8 := by omega
  have hi1 : (l.length : Int) / 8 < (D.length : Int) := by omega
  have w1' : IntKind.i64.wrap ((l.length : Int) / 8) = (l.length : Int) / 8 := IntWalk.i64_in _ (by omega)
  have w0 : (l.length : Int).tmod 8 = 0 := by rw [Int.tmod_eq_emod_of_nonneg (by omega)]; have := H8.out; omega
  have w2' : IntKind.i64.wrap 7 = 7 := by decide
  obtain ⟨x, hx⟩ : ∃ x : Nat, x = if b then 2 ^ 7 else 0 := ⟨_, rfl⟩
  have hor : bits .or .u8 0 (IntKind.u8.wrap (IntKind.i64.wrap (b01 b * 128))) = (x : Int) := by
    rw [hx]
    have := or_add 0 7 b (by omega) (by omega) (by omega)
    simpa using this
  have HX := Lib.hid hx
  clear hx hb3 hown3 hbl3 hDl hnz hn8 e1
  go_still_tail 21, (by kernel_rfl)
  change wpList _ _ _ _ _ w3.drew
  go_wp2
  go_end0
  have hx256 : x < 256 := by rw [HX.out]; split <;> omega
  obtain ⟨⟨v, k1, k2, k3⟩, k4⟩ := ob_stored (i := l.length / 8) hB HB3.out HO3.out hgo hg hx256 ((l.length : Int) + 1)
  refine ⟨rfl, ⟨hB, v, ?_, ?_, k3⟩, HBL3.out.trans (blw_drew k4)⟩
  · rw [show (((l ++ [b]).length : Nat) : Int) = (l.length : Int) + 1 by simp]; exact k1
  · rw [show pack (l ++ [b]) = D.set (l.length / 8) (UInt8.ofNat x) by rw [HD.out, HX.out]]; exact k2
theorem add_any (B ob : Nat) (l : List Bool) (b : Bool) (w : World) (h : OB B ob l w) (hl : l.length < 64000) (hBw : B ≤ w.heap.size) :
    Calls Tryd.prog 38 #[.pointer (some ⟨ob, 0, none⟩), .int .i64 (b01 b)] w fun e w' => e = .returned (.tuple #[]) ∧ OB B ob (l ++ [b]) w' ∧ Below B w w' := by
  by_cases h8 : l.length % 8 = 0
  · exact add_start B ob l b w h hl hBw h8
  · exact add_mid B ob l b w h hl h8

end Go.Proofs.YtnbdmmepdmmbmaaDoor
