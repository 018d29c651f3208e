/- The walk of the law BitsPuts: at all strings of bits and numbers its call returns true. -/
import Derived.Test.YtilffmhmgoaejaaBitsPutWalks
namespace Go.Proofs.Ytilffmhmgoaejaa
open Go.RowKit
set_option linter.unusedVariables false
set_option linter.unusedSimpArgs false
set_option maxRecDepth 100000 in
set_option maxHeartbeats 4000000 in
theorem bp_arg (D : List UInt8) (L : Nat) (n at_ width : Int) (low : Bool) (v : Value) (w : World) (hv : RB w v D) (h : chk D L = 0) (hw : width < 1 ∨ 63 < width) (HP0 : PutR D L n width low 1 []) (HG0 : GetR D L at_ width low 0 1) :
    Calls Try.prog 11 #[.agg #[v, .int .i64 L], .int .i64 n, .int .i64 at_, .int .i64 width, .bool low] w (Tr w) := by
  obtain ⟨A, c, rfl⟩ := hv.len
  have HV := Lib.hid hv
  have HP := Lib.hid HP0
  have HG := Lib.hid HG0
  have HH := Lib.hid h
  clear hv h HP0 HG0
  go_enter Try.func11, Try.ntmps11
  have hmf := bp_mf
  have H0 := Lib.hid (BPS.start w A D.length c L low)
  go_wp2_with (first
    | (go_at_call 44; refine (digits_ok D L _ _ (HV.out.below (H0.out _ _).bel) HH.out).mono ?_; rintro e w1 ⟨S, rfl, hS, hbel⟩; clear hS; have HS := Lib.hid ((H0.out _ _).step hbel); have k0 := HS.out.c0; have k1 := HS.out.c1; have k2 := HS.out.c2; clear hbel)
    | (go_at_call 25; refine (strung_any _).mono ?_; rintro e w2 ⟨rfl, hbel⟩; have HS := Lib.hid (HS.out.step hbel); have k0 := HS.out.c0; have k1 := HS.out.c1; have k2 := HS.out.c2; clear hbel)
    | (go_at_call 45; refine (check_any D L _ _ (HV.out.below HS.out.bel)).mono ?_; rw [HH.out]; rintro e w3 ⟨rfl, hbel⟩; have HS := Lib.hid (HS.out.step hbel); have k0 := HS.out.c0; have k1 := HS.out.c1; have k2 := HS.out.c2; clear hbel)
    | (go_at_call 50; refine (HP.out _ _ (HV.out.below HS.out.bel)).mono ?_; rintro e w4 ⟨A1, n1, c1, m1, rfl, hO, hbel⟩; have HO := Lib.hid hO; clear hO; have HS := Lib.hid (HS.out.step hbel); have k0 := HS.out.c0; have k1 := HS.out.c1; have k2 := HS.out.c2; have hz : w.heap.size < w4.heap.size := (by have := HS.out.sz; omega); have hz2 : w.heap.size + 1 < w4.heap.size := (by have := HS.out.sz; omega); clear hbel)
    | (go_at_call 51; refine (HG.out _ _ (HV.out.below (HS.out.step (blw_alloc (Below.refl _ _) _)).bel)).mono ?_; rintro e w5 ⟨rfl, hbel⟩; have HO := Lib.hid (HO.out.below (blw_then (blw_alloc (Below.refl _ _) _) hbel)); have HS := Lib.hid ((HS.out.step (blw_alloc (Below.refl _ _) _)).step hbel); have o0 := (hbel.cell (p := ⟨w4.heap.size, 0, none⟩) (by simp)).trans (by simp [go_sem] : _ = some (Value.slice A1 n1 c1)); have o1 := (hbel.cell (p := ⟨w4.heap.size, 1, none⟩) (by simp)).trans (by simp [go_sem] : _ = some (Value.int IntKind.i64 m1)); clear hbel)
    | (go_at_call 52; refine (holds_gen HO.out _ (by intro h; exact absurd h (by decide))).mono ?_; rintro e w6 ⟨rfl, hbel⟩; have HS := Lib.hid (HS.out.step hbel); clear hbel))
  all_goals try (exfalso; omega)
  all_goals (go_ret; exact ⟨rfl, HS.out.bel⟩)
theorem putR_ok (D : List UInt8) (L k : Nat) (n : Int) (low : Bool) (h : chk D L = 0) (hk : 1 ≤ k ∧ k ≤ 63) (hn : 0 ≤ n ∧ n / 2 ^ k = 0) (hf : L + k ≤ 64000) : PutR D L n k low 0 (unp D L ++ fbits n k low) := by
  intro v w hv
  refine (put_ok D L n k low v w hv h hk hn hf).mono ?_
  rintro e w' ⟨u, rfl, ho, hb⟩
  have hr := RB.of_own ho
  obtain ⟨A, c, rfl⟩ := hr.len
  exact ⟨_, _, _, _, rfl, .inr ⟨rfl, hr, by simp [unp, fbits_length], by simp [unp, fbits_length]; omega⟩, hb⟩
theorem BitsPuts_walk (D : List UInt8) (L : Int) (v : Value) (n at_ width : Int) (low : Bool) (w : World) (hv : RB w v D) (hl : D.length ≤ 140737488351232) (_ : (Lit.int .i64 L).wf = true)
    (hn : (Lit.int .i64 n).wf = true) (ha : (Lit.int .i64 at_).wf = true) (hw : (Lit.int .i64 width).wf = true) :
    Calls Try.prog 11 #[.agg #[v, .int .i64 L], .int .i64 n, .int .i64 at_, .int .i64 width, .bool low] w (Tr w) := by
  have hn := i64_of_wf hn
  have ha := i64_of_wf ha
  have hw := i64_of_wf hw
  by_cases h : chk D L = 0
  rotate_left
  · exact bp_chk D L n at_ width low v w hv hl h
  have hL := chk_bd h
  obtain ⟨L, rfl⟩ : ∃ m : Nat, L = m := ⟨L.toNat, by omega⟩
  by_cases hwd : width < 1 ∨ 63 < width
  · refine bp_arg D L n at_ width low v w hv h hwd (fun v w hv => (put_arg D L n width low v w hv h hwd).mono (PutG.of_zeroed (by decide))) (fun v w hv => ?_)
    exact get_bad D L at_ width low v w hv h 1 (.inl ⟨by omega, rfl⟩)
  obtain ⟨k, rfl⟩ : ∃ m : Nat, width = m := ⟨width.toNat, by omega⟩
  have hk : 1 ≤ k ∧ k ≤ 63 := by omega
  have hnum : 0 ≤ n → (numOf (fbits n k false) : Int) = n % 2 ^ k := fun h0 => numOf_fbits n h0 k
  have hpw := pow63 k hk.2
  have hdiv : 0 ≤ n → (n / 2 ^ k = 0 ↔ n % 2 ^ k = n) := fun h0 => by
    have e := Int.mul_ediv_add_emod n (2 ^ k)
    constructor
    · intro q; rw [q] at e; omega
    · intro q; rw [q] at e
      have : (2 : Int) ^ k * (n / 2 ^ k) = 0 := by omega
      rcases Int.mul_eq_zero.1 this with h | h <;> omega
  have G1 : ∀ (x : Int), at_ < 0 → GetR D L at_ k low 0 1 := fun _ q v w hv => get_bad D L at_ k low v w hv h 1 (.inl ⟨by omega, rfl⟩)
  have G2 : 0 ≤ at_ → (L : Int) < at_ + k → GetR D L at_ k low 0 13 := fun q q2 v w hv => get_bad D L at_ k low v w hv h 13 (.inr ⟨by omega, by omega, q, by omega, rfl⟩)
  have G3 : ∀ a : Nat, a + k ≤ L → GetR D L a k low (getV D a k low) 0 := fun a q v w hv => get_ok D L a k low v w hv h hk q
  have hat : at_ < 0 ∨ (0 ≤ at_ ∧ (L : Int) < at_ + k) ∨ ∃ a : Nat, at_ = a ∧ a + k ≤ L := by
    by_cases q : at_ < 0
    · exact .inl q
    by_cases q2 : (L : Int) < at_ + k
    · exact .inr (.inl ⟨by omega, q2⟩)
    · exact .inr (.inr ⟨at_.toNat, by omega, by omega⟩)
  by_cases h0 : n < 0
  · have HP : PutR D L n k low 11 (unp D L ++ fbits n k low) := fun v w hv => (put_range D L n k low v w hv h hk (.inl h0)).mono (PutG.of_zeroed (by decide))
    rcases hat with q | ⟨q, q2⟩ | ⟨a, rfl, q⟩
    · exact bp_neg_neg D L k n at_ ha low v w hv h hk hn h0 q _ rfl HP (G1 0 q)
    · exact bp_neg_short D L k n at_ ha low v w hv h hk hn h0 q q2 _ rfl HP (G2 q q2)
    · exact bp_neg_ok D L k n low v w hv h hk hn h0 a q _ rfl HP (G3 a q)
  have h0 : 0 ≤ n := by omega
  by_cases hx : n / 2 ^ k = 0
  rotate_left
  · have HP : PutR D L n k low 11 (unp D L ++ fbits n k low) := fun v w hv => (put_range D L n k low v w hv h hk (.inr hx)).mono (PutG.of_zeroed (by decide))
    have hq : ((numOf (fbits n k false) : Int) != n) = true := by rw [hnum h0]; simpa using fun e => hx ((hdiv h0).2 e)
    rcases hat with q | ⟨q, q2⟩ | ⟨a, rfl, q⟩
    · exact bp_big_neg D L k n at_ ha low v w hv h hk hn h0 hq q _ rfl HP (G1 0 q)
    · exact bp_big_short D L k n at_ ha low v w hv h hk hn h0 hq q q2 _ rfl HP (G2 q q2)
    · exact bp_big_ok D L k n low v w hv h hk hn h0 hq a q _ rfl HP (G3 a q)
  have hq : ((numOf (fbits n k false) : Int) != n) = false := by rw [hnum h0]; simpa using (hdiv h0).1 hx
  by_cases hf : L + k ≤ 64000
  · have HP := putR_ok D L k n low h hk ⟨h0, hx⟩ hf
    rcases hat with q | ⟨q, q2⟩ | ⟨a, rfl, q⟩
    · exact bp_ok_neg D L k n at_ ha low v w hv h hk hn h0 hq hf q _ rfl HP (G1 0 q)
    · exact bp_ok_short D L k n at_ ha low v w hv h hk hn h0 hq hf q q2 _ rfl HP (G2 q q2)
    · exact bp_ok_ok D L k n low v w hv h hk hn h0 hq hf a q _ rfl HP (G3 a q)
  · have HP : PutR D L n k low 6 (unp D L ++ fbits n k low) := fun v w hv => (put_full D L n k low v w hv h hk ⟨h0, hx⟩ (by omega)).mono (PutG.of_zeroed (by decide))
    rcases hat with q | ⟨q, q2⟩ | ⟨a, rfl, q⟩
    · exact bp_full_neg D L k n at_ ha low v w hv h hk hn h0 hq (by omega) q _ rfl HP (G1 0 q)
    · exact bp_full_short D L k n at_ ha low v w hv h hk hn h0 hq (by omega) q q2 _ rfl HP (G2 q q2)
    · exact bp_full_ok D L k n low v w hv h hk hn h0 hq (by omega) a q _ rfl HP (G3 a q)
theorem rb_of_ints {w : World} {x : Addr} {l c : Nat} {zs : List Int} (hl : l ≤ c) (hz : zs.length = c) (hcell : ∀ i, i < zs.length → w.cell? (x.add i) = some (.int .u8 (zs.getD i 0))) (hwz : ∀ n ∈ zs, (Lit.int .u8 n).wf = true) :
    RB w (.slice (some x) l c) ((zs.take l).map fun z => UInt8.ofNat z.toNat) := by
  have hlen : ((zs.take l).map fun z => UInt8.ofNat z.toNat).length = l := by simp; omega
  refine ⟨some x, c, by rw [hlen], by omega, fun i hi => ⟨x, rfl, ?_⟩⟩
  rw [hlen] at hi
  have hi' : i < zs.length := by omega
  rw [hcell i hi']
  have hb : 0 ≤ zs[i] ∧ zs[i] ≤ 255 := by
    have := hwz zs[i] (List.getElem_mem hi')
    simp [Lit.wf, IntKind.min, IntKind.max, IntKind.signed, IntKind.bits] at this; omega
  congr 2
  simp only [List.getD, List.getElem?_eq_getElem hi', Option.getD_some, List.getElem_map, List.getElem_take, UInt8.toNat_ofNat']
  omega

end Go.Proofs.Ytilffmhmgoaejaa
