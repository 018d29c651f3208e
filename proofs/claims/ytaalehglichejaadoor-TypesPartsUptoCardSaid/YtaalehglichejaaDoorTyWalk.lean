/- The walk of TypesParts: the law's call returns true, if the plain law holds. No statement is proved here. -/
import Derived.Test.YtaalehglichejaaDoorTyText
import Derived.Test.YtaalehglichejaaDoorTyEqual
import Derived.Test.YtaalehglichejaaDoorTyFact
namespace Go.Proofs.YtaalehglichejaaDoor.PTy
open Go.RowKit Go.Proofs.YtaalehglichejaaDoorW.PrintWords Go.Proofs.YtaalehglichejaaDoorW.PrintLast
set_option linter.unusedVariables false
set_option linter.unusedSimpArgs false
theorem sl_keep {W0 wi wj : World} {gb pb wb : Nat} {x y r : S24g S29} {A B A7 Aw : Option Addr} {c d c7 cw : Nat} (h : wi.cell? ⟨gb, 0, none⟩ = some (.int .i64 x.f0) ∧ wi.cell? ⟨gb, 1, none⟩ = some (.string x.f1) ∧ wi.cell? ⟨gb, 2, none⟩ = some (.int .i64 x.f2) ∧ wi.cell? ⟨gb, 3, none⟩ = some (.int .i64 x.f3) ∧ wi.cell? ⟨gb, 4, none⟩ = some (.string x.f4) ∧ wi.cell? ⟨gb, 5, none⟩ = some (.slice A x.f5.length c) ∧ wi.cell? ⟨(gb + 1), 0, none⟩ = some (.int .i64 y.f0) ∧ wi.cell? ⟨(gb + 1), 1, none⟩ = some (.string y.f1) ∧ wi.cell? ⟨(gb + 1), 2, none⟩ = some (.int .i64 y.f2) ∧ wi.cell? ⟨(gb + 1), 3, none⟩ = some (.int .i64 y.f3) ∧ wi.cell? ⟨(gb + 1), 4, none⟩ = some (.string y.f4) ∧ wi.cell? ⟨(gb + 1), 5, none⟩ = some (.slice B y.f5.length d) ∧ wi.cell? ⟨pb, 0, none⟩ = some (.int .i64 r.f0) ∧ wi.cell? ⟨pb, 1, none⟩ = some (.string r.f1) ∧ wi.cell? ⟨pb, 2, none⟩ = some (.int .i64 r.f2) ∧ wi.cell? ⟨pb, 3, none⟩ = some (.int .i64 r.f3) ∧ wi.cell? ⟨pb, 4, none⟩ = some (.string r.f4) ∧ wi.cell? ⟨pb, 5, none⟩ = some (.slice A7 r.f5.length c7) ∧ wi.cell? ⟨wb, 0, none⟩ = some (.int .i64 r.f0) ∧ wi.cell? ⟨wb, 1, none⟩ = some (.string r.f1) ∧ wi.cell? ⟨wb, 2, none⟩ = some (.int .i64 r.f2) ∧ wi.cell? ⟨wb, 3, none⟩ = some (.int .i64 r.f3) ∧ wi.cell? ⟨wb, 4, none⟩ = some (.string r.f4) ∧ wi.cell? ⟨wb, 5, none⟩ = some (.slice Aw r.f5.length cw) ∧ Hid (Below W0.heap.size W0 wi)) (hb : Below wi.heap.size wi wj) : wj.cell? ⟨gb, 0, none⟩ = some (.int .i64 x.f0) ∧ wj.cell? ⟨gb, 1, none⟩ = some (.string x.f1) ∧ wj.cell? ⟨gb, 2, none⟩ = some (.int .i64 x.f2) ∧ wj.cell? ⟨gb, 3, none⟩ = some (.int .i64 x.f3) ∧ wj.cell? ⟨gb, 4, none⟩ = some (.string x.f4) ∧ wj.cell? ⟨gb, 5, none⟩ = some (.slice A x.f5.length c) ∧ wj.cell? ⟨(gb + 1), 0, none⟩ = some (.int .i64 y.f0) ∧ wj.cell? ⟨(gb + 1), 1, none⟩ = some (.string y.f1) ∧ wj.cell? ⟨(gb + 1), 2, none⟩ = some (.int .i64 y.f2) ∧ wj.cell? ⟨(gb + 1), 3, none⟩ = some (.int .i64 y.f3) ∧ wj.cell? ⟨(gb + 1), 4, none⟩ = some (.string y.f4) ∧ wj.cell? ⟨(gb + 1), 5, none⟩ = some (.slice B y.f5.length d) ∧ wj.cell? ⟨pb, 0, none⟩ = some (.int .i64 r.f0) ∧ wj.cell? ⟨pb, 1, none⟩ = some (.string r.f1) ∧ wj.cell? ⟨pb, 2, none⟩ = some (.int .i64 r.f2) ∧ wj.cell? ⟨pb, 3, none⟩ = some (.int .i64 r.f3) ∧ wj.cell? ⟨pb, 4, none⟩ = some (.string r.f4) ∧ wj.cell? ⟨pb, 5, none⟩ = some (.slice A7 r.f5.length c7) ∧ wj.cell? ⟨wb, 0, none⟩ = some (.int .i64 r.f0) ∧ wj.cell? ⟨wb, 1, none⟩ = some (.string r.f1) ∧ wj.cell? ⟨wb, 2, none⟩ = some (.int .i64 r.f2) ∧ wj.cell? ⟨wb, 3, none⟩ = some (.int .i64 r.f3) ∧ wj.cell? ⟨wb, 4, none⟩ = some (.string r.f4) ∧ wj.cell? ⟨wb, 5, none⟩ = some (.slice Aw r.f5.length cw) ∧ Hid (Below W0.heap.size W0 wj) := by
  obtain ⟨h0, h1, h2, h3, h4, h5, h6, h7, h8, h9, h10, h11, h12, h13, h14, h15, h16, h17, h18, h19, h20, h21, h22, h23, hB⟩ := h
  exact ⟨keptC hb h0, keptC hb h1, keptC hb h2, keptC hb h3, keptC hb h4, keptC hb h5, keptC hb h6, keptC hb h7, keptC hb h8, keptC hb h9, keptC hb h10, keptC hb h11, keptC hb h12, keptC hb h13, keptC hb h14, keptC hb h15, keptC hb h16, keptC hb h17, keptC hb h18, keptC hb h19, keptC hb h20, keptC hb h21, keptC hb h22, keptC hb h23, Lib.hid (hB.out.trans (hb.mono hB.out.size))⟩
theorem sl_bel {W0 wi : World} {gb pb wb : Nat} {x y r : S24g S29} {A B A7 Aw : Option Addr} {c d c7 cw : Nat} (h : wi.cell? ⟨gb, 0, none⟩ = some (.int .i64 x.f0) ∧ wi.cell? ⟨gb, 1, none⟩ = some (.string x.f1) ∧ wi.cell? ⟨gb, 2, none⟩ = some (.int .i64 x.f2) ∧ wi.cell? ⟨gb, 3, none⟩ = some (.int .i64 x.f3) ∧ wi.cell? ⟨gb, 4, none⟩ = some (.string x.f4) ∧ wi.cell? ⟨gb, 5, none⟩ = some (.slice A x.f5.length c) ∧ wi.cell? ⟨(gb + 1), 0, none⟩ = some (.int .i64 y.f0) ∧ wi.cell? ⟨(gb + 1), 1, none⟩ = some (.string y.f1) ∧ wi.cell? ⟨(gb + 1), 2, none⟩ = some (.int .i64 y.f2) ∧ wi.cell? ⟨(gb + 1), 3, none⟩ = some (.int .i64 y.f3) ∧ wi.cell? ⟨(gb + 1), 4, none⟩ = some (.string y.f4) ∧ wi.cell? ⟨(gb + 1), 5, none⟩ = some (.slice B y.f5.length d) ∧ wi.cell? ⟨pb, 0, none⟩ = some (.int .i64 r.f0) ∧ wi.cell? ⟨pb, 1, none⟩ = some (.string r.f1) ∧ wi.cell? ⟨pb, 2, none⟩ = some (.int .i64 r.f2) ∧ wi.cell? ⟨pb, 3, none⟩ = some (.int .i64 r.f3) ∧ wi.cell? ⟨pb, 4, none⟩ = some (.string r.f4) ∧ wi.cell? ⟨pb, 5, none⟩ = some (.slice A7 r.f5.length c7) ∧ wi.cell? ⟨wb, 0, none⟩ = some (.int .i64 r.f0) ∧ wi.cell? ⟨wb, 1, none⟩ = some (.string r.f1) ∧ wi.cell? ⟨wb, 2, none⟩ = some (.int .i64 r.f2) ∧ wi.cell? ⟨wb, 3, none⟩ = some (.int .i64 r.f3) ∧ wi.cell? ⟨wb, 4, none⟩ = some (.string r.f4) ∧ wi.cell? ⟨wb, 5, none⟩ = some (.slice Aw r.f5.length cw) ∧ Hid (Below W0.heap.size W0 wi)) : Below W0.heap.size W0 wi := by
  obtain ⟨h0, h1, h2, h3, h4, h5, h6, h7, h8, h9, h10, h11, h12, h13, h14, h15, h16, h17, h18, h19, h20, h21, h22, h23, hB⟩ := h
  exact hB.out
set_option maxHeartbeats 16000000 in
set_option maxRecDepth 1000000 in
theorem law_walk (x y : S24g S29) (nm : ByteArray) (A B : Option Addr) (c d : Nat) (w : World) (hC : Kd.C k29 w A x.f5.length x.f5) (hc : x.f5.length ≤ c) (hD : Kd.C k29 w B y.f5.length y.f5) (hd : y.f5.length ≤ d) (ht : Tab w)
    (hs : szV x ≤ 1000000000000) (rx : rgV x) (ry : rgV y) (rr : rgV (partR nm x.f5)) (lx : (txV x).length ≤ 1000000000000) (ly : (txV y).length ≤ 1000000000000) (lr : (txV (partR nm x.f5)).length ≤ 1000000000000)
    (heq : eqV x y = decide (txV x = txV y)) :
    Calls Tryd.prog 3 #[.agg #[.int .i64 x.f0, .string x.f1, .int .i64 x.f2, .int .i64 x.f3, .string x.f4, .slice A x.f5.length c], .agg #[.int .i64 y.f0, .string y.f1, .int .i64 y.f2, .int .i64 y.f3, .string y.f4, .slice B y.f5.length d], .string nm] w (Tr w) := by
  have HC := Lib.hid hC
  have HCC := Lib.hid hc
  have HD := Lib.hid hD
  have HDD := Lib.hid hd
  have HT := Lib.hid ht
  have HS := Lib.hid hs
  have RX := Lib.hid rx
  have RY := Lib.hid ry
  have RR := Lib.hid rr
  have LX := Lib.hid lx
  have LY := Lib.hid ly
  have LR := Lib.hid lr
  have HEQ := Lib.hid heq
  have hl64 : x.f5.length ≤ 9223372036854775807 := hC.2.1
  have hpl := placeOf_lt nm x.f5 0
  clear hC hc hD hd ht hs rx ry rr lx ly lr heq
  have hu24 := Tryd.underlying24
  have hu29 := Tryd.underlying29
  go_enter Tryd.func3, Tryd.ntmps3
  go_wp2_with fail
  obtain ⟨gb, hgb⟩ : ∃ gb, gb = w.heap.size := ⟨_, rfl⟩
  obtain ⟨w2, hw2⟩ : ∃ w2, w2 = ((w.alloc (.cells #[.int .i64 x.f0, .string x.f1, .int .i64 x.f2, .int .i64 x.f3, .string x.f4, .slice A x.f5.length c] 24)).alloc (.cells #[.int .i64 y.f0, .string y.f1, .int .i64 y.f2, .int .i64 y.f3, .string y.f4, .slice B y.f5.length d] 24)).alloc (.cells #[.string nm] 9) := ⟨_, rfl⟩
  rw [← hgb, ← hw2]
  have HB2 := Lib.hid (show Below w.heap.size w w2 by rw [hw2]; exact blw_alloc (blw_alloc (blw_alloc (Below.refl _ _) _) _) _)
  have hz2 : w2.heap.size = gb + 3 := by rw [hw2, hgb]; simp
  have blkT : w2.heap[gb]? = some (.cells #[.int .i64 x.f0, .string x.f1, .int .i64 x.f2, .int .i64 x.f3, .string x.f4, .slice A x.f5.length c] 24 (0, 0)) := by
    rw [hw2, hgb]; exact (Below.heap_alloc _ _ _ (by simp; omega)).trans ((Below.heap_alloc _ _ _ (by simp)).trans (heap_alloc_new w _))
  have blkU : w2.heap[gb + 1]? = some (.cells #[.int .i64 y.f0, .string y.f1, .int .i64 y.f2, .int .i64 y.f3, .string y.f4, .slice B y.f5.length d] 24 (0, 0)) := by
    have h1 := heap_alloc_new (w.alloc (.cells #[.int .i64 x.f0, .string x.f1, .int .i64 x.f2, .int .i64 x.f3, .string x.f4, .slice A x.f5.length c] 24)) (.cells #[.int .i64 y.f0, .string y.f1, .int .i64 y.f2, .int .i64 y.f3, .string y.f4, .slice B y.f5.length d] 24)
    rw [hw2, hgb]; exact (Below.heap_alloc _ _ _ (by simp)).trans (by simpa using h1)
  have blkN : w2.heap[gb + 2]? = some (.cells #[.string nm] 9 (0, 0)) := by
    have h1 := heap_alloc_new ((w.alloc (.cells #[.int .i64 x.f0, .string x.f1, .int .i64 x.f2, .int .i64 x.f3, .string x.f4, .slice A x.f5.length c] 24)).alloc (.cells #[.int .i64 y.f0, .string y.f1, .int .i64 y.f2, .int .i64 y.f3, .string y.f4, .slice B y.f5.length d] 24)) (.cells #[.string nm] 9)
    rw [hw2, hgb]; simpa using h1
  have HGB := Lib.hid hgb
  clear hw2 hgb
  go_at_call 4
  refine (part_any x nm A c _ HS.out (Kd.C_below HC.out HB2.out) HCC.out).mono ?_
  rintro e w3 ⟨A7, c7, rfl, hc7, hC7, hb3⟩
  obtain ⟨ok, hok⟩ : ∃ ok, ok = decide (0 ≤ placeOf nm 0 x.f5) := ⟨_, rfl⟩
  obtain ⟨r, hr⟩ : ∃ r, r = partR nm x.f5 := ⟨_, rfl⟩
  rw [← hok, ← hr]
  rw [← hr] at hc7 hC7 RR LR
  have blkT3 := (hb3.block gb (by omega)).trans blkT
  have blkU3 := (hb3.block (gb + 1) (by omega)).trans blkU
  have blkN3 := (hb3.block (gb + 2) (by omega)).trans blkN
  have HB3 := Lib.hid (show Below gb w w3 by rw [HGB.out]; exact HB2.out.trans (hb3.mono (by rw [← HGB.out]; omega)))
  have HOK := Lib.hid hok
  have HRR := Lib.hid hr
  have HC7 := Lib.hid hC7
  have HCC7 := Lib.hid hc7
  clear blkT blkU blkN hb3 hz2 HB2 hok hr hC7 hc7
  go_upto_region 2 with (fail)
  obtain ⟨w4, hw4⟩ : ∃ w4, w4 = w3.alloc (.cells #[.int .i64 r.f0, .string r.f1, .int .i64 r.f2, .int .i64 r.f3, .string r.f4, .slice A7 r.f5.length c7] 24) := ⟨_, rfl⟩
  obtain ⟨pb, hpb⟩ : ∃ pb, pb = w3.heap.size := ⟨_, rfl⟩
  rw [← hpb, ← hw4]
  have hb34 : Below w3.heap.size w3 w4 := by rw [hw4]; exact blw_alloc (Below.refl _ _) _
  have blkP4 : w4.heap[pb]? = some (.cells #[.int .i64 r.f0, .string r.f1, .int .i64 r.f2, .int .i64 r.f3, .string r.f4, .slice A7 r.f5.length c7] 24 (0, 0)) := by rw [hw4, hpb]; exact heap_alloc_new w3 _
  have blkT4 := (hb34.block gb (blk_lt blkT3)).trans blkT3
  have blkU4 := (hb34.block (gb + 1) (blk_lt blkU3)).trans blkU3
  have blkN4 := (hb34.block (gb + 2) (blk_lt blkN3)).trans blkN3
  have hg3 : gb ≤ w3.heap.size := by have := blk_lt blkT3; omega
  have hgp : gb + 2 < pb := by rw [hpb]; exact blk_lt blkN3
  have HB4 := Lib.hid (HB3.out.trans (hb34.mono hg3))
  have HC74 := Lib.hid (Kd.C_below HC7.out hb34)
  clear hw4 hpb blkT3 blkU3 blkN3 hb34 HB3 HC7 hg3
  have t5 := (blk_cell blkT4 5).trans rfl
  go_wp2_with fail
  go_at_call 5
  have hg4 : gb ≤ w4.heap.size := by have := blk_lt blkT4; omega
  refine (indexB (gb + 2) nm A c x.f5 _ (Kd.C_below HC.out (HGB.out ▸ HB4.out)) HCC.out ((blk_cell blkN4 0).trans rfl)).mono ?_
  rintro e w5 ⟨rfl, hb5⟩
  have blkT5 := (hb5.block gb (blk_lt blkT4)).trans blkT4
  have blkU5 := (hb5.block (gb + 1) (blk_lt blkU4)).trans blkU4
  have blkP5 := (hb5.block pb (blk_lt blkP4)).trans blkP4
  have HB5 := Lib.hid (HB4.out.trans (hb5.mono hg4))
  have HC75 := Lib.hid (Kd.C_below HC74.out hb5)
  clear blkT4 blkU4 blkN4 blkP4 HB4 HC74 hb5 hg4 t5
  go_upto_region 4 with (fail)
  obtain ⟨w6, hw6⟩ : ∃ w6, w6 = w5.alloc (.cells #[.int .i64 0, .string ⟨#[]⟩, .int .i64 0, .int .i64 0, .string ⟨#[]⟩, .slice none 0 0] 24) := ⟨_, rfl⟩
  obtain ⟨wb, hwb⟩ : ∃ wb, wb = w5.heap.size := ⟨_, rfl⟩
  rw [← hwb, ← hw6]
  have hb56 : Below w5.heap.size w5 w6 := by rw [hw6]; exact blw_alloc (Below.refl _ _) _
  have blkW6 : w6.heap[wb]? = some (.cells #[.int .i64 0, .string ⟨#[]⟩, .int .i64 0, .int .i64 0, .string ⟨#[]⟩, .slice none 0 0] 24 (0, 0)) := by rw [hw6, hwb]; exact heap_alloc_new w5 _
  have blkT6 := (hb56.block gb (blk_lt blkT5)).trans blkT5
  have blkU6 := (hb56.block (gb + 1) (blk_lt blkU5)).trans blkU5
  have blkP6 := (hb56.block pb (blk_lt blkP5)).trans blkP5
  have hg5 : gb ≤ w5.heap.size := by have := blk_lt blkT5; omega
  have hpw : pb < wb := by rw [hwb]; exact blk_lt blkP5
  have HB6 := Lib.hid (HB5.out.trans (hb56.mono hg5))
  have HB5w := Lib.hid (HGB.out ▸ HB5.out : Below w.heap.size w w5)
  have HB56 := Lib.hid hb56
  have HWB := Lib.hid hwb
  clear hw6 hwb blkT5 blkU5 blkP5 hb56 HB5 hg5
  have HPL := Lib.hid hpl
  clear hpl
  by_cases hp : 0 ≤ placeOf nm 0 x.f5
  · obtain ⟨j, hj⟩ : ∃ j : Nat, placeOf nm 0 x.f5 = j := ⟨_, (Int.toNat_of_nonneg hp).symm⟩
    have hlt : j < x.f5.length := by have := HPL.out; omega
    obtain ⟨ad, A6, c6, hA, x0, x1, x2, x3, x4, x5, x6, hl6, hC6⟩ := at_T29 HC.out (j : Int) (by omega) (by omega)
    have HPR : Hid (r = (rd_T29 x.f5 (j : Int)).f1) := Lib.hid (by rw [HRR.out]; unfold partR; rw [if_pos hp, hj])
    have HOK1 : ok = true := by rw [HOK.out]; exact decide_eq_true hp
    rw [← HPR.out] at x1 x2 x3 x4 x5 x6 hl6 hC6
    simp only [Int.toNat_natCast] at x0 x1 x2 x3 x4 x5 x6
    rw [hj]
    subst hA
    have HB6w := Lib.hid (HGB.out ▸ HB6.out : Below w.heap.size w w6)
    replace x1 := pw_cell_below HB6w.out x1
    replace x2 := pw_cell_below HB6w.out x2
    replace x3 := pw_cell_below HB6w.out x3
    replace x4 := pw_cell_below HB6w.out x4
    replace x5 := pw_cell_below HB6w.out x5
    replace x6 := pw_cell_below HB6w.out x6
    have HL6 := Lib.hid hl6
    have HJ := Lib.hid hj
    have t5 := (blk_cell blkT6 5).trans rfl
    have hj0 : (0 : Int) ≤ (j : Int) := by omega
    have hj1 : (j : Int) < (x.f5.length : Int) := by omega
    have hjd : decide ((j : Int) ≥ 0) = true := decide_eq_true hj0
    have f0 := blk_frozen blkW6 0
    have b0 := (blk_cell blkW6 0).trans rfl
    have f1 := blk_frozen blkW6 1
    have b1 := (blk_cell blkW6 1).trans rfl
    have f2 := blk_frozen blkW6 2
    have b2 := (blk_cell blkW6 2).trans rfl
    have f3 := blk_frozen blkW6 3
    have b3 := (blk_cell blkW6 3).trans rfl
    have f4 := blk_frozen blkW6 4
    have b4 := (blk_cell blkW6 4).trans rfl
    have f5 := blk_frozen blkW6 5
    have b5 := (blk_cell blkW6 5).trans rfl
    clear x0 hl6 hj hlt hp
    subst HOK1
    go_upto_region 6 with (fail)
    obtain ⟨w7, hw7⟩ : ∃ w7, w7 = ((((((w6.setCell ⟨wb, 0, none⟩ (.int .i64 r.f0)).setCell ⟨wb, 1, none⟩ (.string r.f1)).setCell ⟨wb, 2, none⟩ (.int .i64 r.f2)).setCell ⟨wb, 3, none⟩ (.int .i64 r.f3)).setCell ⟨wb, 4, none⟩ (.string r.f4)).setCell ⟨wb, 5, none⟩ (.slice A6 r.f5.length c6)) := ⟨_, rfl⟩
    rw [← hw7]
    have blkW7 : w7.heap[wb]? = some (.cells #[.int .i64 r.f0, .string r.f1, .int .i64 r.f2, .int .i64 r.f3, .string r.f4, .slice A6 r.f5.length c6] 24 (0, 0)) := by rw [hw7]; exact (blk_set (blk_set (blk_set (blk_set (blk_set (blk_set blkW6 0 _) 1 _) 2 _) 3 _) 4 _) 5 _).trans rfl
    have far : ∀ {a : Nat} {o : Obj}, a ≠ wb → w6.heap[a]? = some o → (∃ cells t, o = .cells cells t (0, 0)) → w7.heap[a]? = some o := fun {a o} hne ho ⟨cells, t, e⟩ => by
      subst e; rw [hw7]; exact (blk_far (blk_far (blk_far (blk_far (blk_far (blk_far ho hne _) hne _) hne _) hne _) hne _) hne _)
    have blkT7 := far (by omega) blkT6 ⟨_, _, rfl⟩
    have blkU7 := far (by omega) blkU6 ⟨_, _, rfl⟩
    have blkP7 := far (by omega) blkP6 ⟨_, _, rfl⟩
    have hb67 : Below wb w6 w7 := by rw [hw7]; exact (((((((Below.refl wb w6).setCell (p := ⟨wb, 0, none⟩) (Nat.le_refl _) _).setCell (p := ⟨wb, 1, none⟩) (Nat.le_refl _) _).setCell (p := ⟨wb, 2, none⟩) (Nat.le_refl _) _).setCell (p := ⟨wb, 3, none⟩) (Nat.le_refl _) _).setCell (p := ⟨wb, 4, none⟩) (Nat.le_refl _) _).setCell (p := ⟨wb, 5, none⟩) (Nat.le_refl _) _)
    have HB57 : Below w5.heap.size w5 w7 := HB56.out.trans (HWB.out ▸ hb67)
    have HB7 := Lib.hid (HB5w.out.trans (HB57.mono HB5w.out.size))
    have HCX := Lib.hid (Kd.C_below HC.out HB7.out)
    have HCY := Lib.hid (Kd.C_below HD.out HB7.out)
    have HCR7 := Lib.hid (Kd.C_below HC75.out HB57)
    have HCRW := Lib.hid (Kd.C_below hC6 HB7.out)
    have HCCW := HL6
    have HT7 := Lib.hid (HT.out.below HB7.out)
    clear hw7 blkT6 blkU6 blkP6 blkW6 far hb67 HB57 hC6 hj0 hj1 t5 f0 b0 f1 b1 f2 b2 f3 b3 f4 b4 f5 b5 x1 x2 x3 x4 x5 x6
    obtain ⟨TBr, hTBr⟩ : ∃ TB : ByteArray, TB = ⟨(txV r).toArray⟩ := ⟨_, rfl⟩
    obtain ⟨TBx, hTBx⟩ : ∃ TB : ByteArray, TB = ⟨(txV x).toArray⟩ := ⟨_, rfl⟩
    obtain ⟨TBy, hTBy⟩ : ∃ TB : ByteArray, TB = ⟨(txV y).toArray⟩ := ⟨_, rfl⟩
    obtain ⟨E, hE⟩ : ∃ E, eqV x y = E := ⟨_, rfl⟩
    have he : (TBx.toList == TBy.toList) = E := by
      rw [← hE, HEQ.out, hTBx, hTBy, lb_toList, lb_toList, lb_mk, lb_mk, Bool.eq_iff_iff, beq_iff_eq, decide_eq_true_eq]
    have HTR := Lib.hid hTBr
    have HTX := Lib.hid hTBx
    have HTY := Lib.hid hTBy
    have HE := Lib.hid hE
    have HS0 : w7.cell? ⟨gb, 0, none⟩ = some (.int .i64 x.f0) ∧ w7.cell? ⟨gb, 1, none⟩ = some (.string x.f1) ∧ w7.cell? ⟨gb, 2, none⟩ = some (.int .i64 x.f2) ∧ w7.cell? ⟨gb, 3, none⟩ = some (.int .i64 x.f3) ∧ w7.cell? ⟨gb, 4, none⟩ = some (.string x.f4) ∧ w7.cell? ⟨gb, 5, none⟩ = some (.slice (some ad) x.f5.length c) ∧ w7.cell? ⟨(gb + 1), 0, none⟩ = some (.int .i64 y.f0) ∧ w7.cell? ⟨(gb + 1), 1, none⟩ = some (.string y.f1) ∧ w7.cell? ⟨(gb + 1), 2, none⟩ = some (.int .i64 y.f2) ∧ w7.cell? ⟨(gb + 1), 3, none⟩ = some (.int .i64 y.f3) ∧ w7.cell? ⟨(gb + 1), 4, none⟩ = some (.string y.f4) ∧ w7.cell? ⟨(gb + 1), 5, none⟩ = some (.slice B y.f5.length d) ∧ w7.cell? ⟨pb, 0, none⟩ = some (.int .i64 r.f0) ∧ w7.cell? ⟨pb, 1, none⟩ = some (.string r.f1) ∧ w7.cell? ⟨pb, 2, none⟩ = some (.int .i64 r.f2) ∧ w7.cell? ⟨pb, 3, none⟩ = some (.int .i64 r.f3) ∧ w7.cell? ⟨pb, 4, none⟩ = some (.string r.f4) ∧ w7.cell? ⟨pb, 5, none⟩ = some (.slice A7 r.f5.length c7) ∧ w7.cell? ⟨wb, 0, none⟩ = some (.int .i64 r.f0) ∧ w7.cell? ⟨wb, 1, none⟩ = some (.string r.f1) ∧ w7.cell? ⟨wb, 2, none⟩ = some (.int .i64 r.f2) ∧ w7.cell? ⟨wb, 3, none⟩ = some (.int .i64 r.f3) ∧ w7.cell? ⟨wb, 4, none⟩ = some (.string r.f4) ∧ w7.cell? ⟨wb, 5, none⟩ = some (.slice A6 r.f5.length c6) ∧ Hid (Below w7.heap.size w7 w7) := ⟨(blk_cell blkT7 0).trans rfl, (blk_cell blkT7 1).trans rfl, (blk_cell blkT7 2).trans rfl, (blk_cell blkT7 3).trans rfl, (blk_cell blkT7 4).trans rfl, (blk_cell blkT7 5).trans rfl, (blk_cell blkU7 0).trans rfl, (blk_cell blkU7 1).trans rfl, (blk_cell blkU7 2).trans rfl, (blk_cell blkU7 3).trans rfl, (blk_cell blkU7 4).trans rfl, (blk_cell blkU7 5).trans rfl, (blk_cell blkP7 0).trans rfl, (blk_cell blkP7 1).trans rfl, (blk_cell blkP7 2).trans rfl, (blk_cell blkP7 3).trans rfl, (blk_cell blkP7 4).trans rfl, (blk_cell blkP7 5).trans rfl, (blk_cell blkW7 0).trans rfl, (blk_cell blkW7 1).trans rfl, (blk_cell blkW7 2).trans rfl, (blk_cell blkW7 3).trans rfl, (blk_cell blkW7 4).trans rfl, (blk_cell blkW7 5).trans rfl, Lib.hid (Below.refl _ _)⟩
    have HSD : w7.drew.cell? ⟨gb, 0, none⟩ = some (.int .i64 x.f0) ∧ w7.drew.cell? ⟨gb, 1, none⟩ = some (.string x.f1) ∧ w7.drew.cell? ⟨gb, 2, none⟩ = some (.int .i64 x.f2) ∧ w7.drew.cell? ⟨gb, 3, none⟩ = some (.int .i64 x.f3) ∧ w7.drew.cell? ⟨gb, 4, none⟩ = some (.string x.f4) ∧ w7.drew.cell? ⟨gb, 5, none⟩ = some (.slice (some ad) x.f5.length c) ∧ w7.drew.cell? ⟨(gb + 1), 0, none⟩ = some (.int .i64 y.f0) ∧ w7.drew.cell? ⟨(gb + 1), 1, none⟩ = some (.string y.f1) ∧ w7.drew.cell? ⟨(gb + 1), 2, none⟩ = some (.int .i64 y.f2) ∧ w7.drew.cell? ⟨(gb + 1), 3, none⟩ = some (.int .i64 y.f3) ∧ w7.drew.cell? ⟨(gb + 1), 4, none⟩ = some (.string y.f4) ∧ w7.drew.cell? ⟨(gb + 1), 5, none⟩ = some (.slice B y.f5.length d) ∧ w7.drew.cell? ⟨pb, 0, none⟩ = some (.int .i64 r.f0) ∧ w7.drew.cell? ⟨pb, 1, none⟩ = some (.string r.f1) ∧ w7.drew.cell? ⟨pb, 2, none⟩ = some (.int .i64 r.f2) ∧ w7.drew.cell? ⟨pb, 3, none⟩ = some (.int .i64 r.f3) ∧ w7.drew.cell? ⟨pb, 4, none⟩ = some (.string r.f4) ∧ w7.drew.cell? ⟨pb, 5, none⟩ = some (.slice A7 r.f5.length c7) ∧ w7.drew.cell? ⟨wb, 0, none⟩ = some (.int .i64 r.f0) ∧ w7.drew.cell? ⟨wb, 1, none⟩ = some (.string r.f1) ∧ w7.drew.cell? ⟨wb, 2, none⟩ = some (.int .i64 r.f2) ∧ w7.drew.cell? ⟨wb, 3, none⟩ = some (.int .i64 r.f3) ∧ w7.drew.cell? ⟨wb, 4, none⟩ = some (.string r.f4) ∧ w7.drew.cell? ⟨wb, 5, none⟩ = some (.slice A6 r.f5.length c6) ∧ Hid (Below w7.heap.size w7 w7.drew) := sl_keep HS0 (blw_drew (Below.refl _ _))
    clear hTBr hTBx hTBy hE blkT7 blkU7 blkP7 blkW7 HS0
    go_region_held3 (fun w' => w'.cell? ⟨gb, 0, none⟩ = some (.int .i64 x.f0) ∧ w'.cell? ⟨gb, 1, none⟩ = some (.string x.f1) ∧ w'.cell? ⟨gb, 2, none⟩ = some (.int .i64 x.f2) ∧ w'.cell? ⟨gb, 3, none⟩ = some (.int .i64 x.f3) ∧ w'.cell? ⟨gb, 4, none⟩ = some (.string x.f4) ∧ w'.cell? ⟨gb, 5, none⟩ = some (.slice (some ad) x.f5.length c) ∧ w'.cell? ⟨(gb + 1), 0, none⟩ = some (.int .i64 y.f0) ∧ w'.cell? ⟨(gb + 1), 1, none⟩ = some (.string y.f1) ∧ w'.cell? ⟨(gb + 1), 2, none⟩ = some (.int .i64 y.f2) ∧ w'.cell? ⟨(gb + 1), 3, none⟩ = some (.int .i64 y.f3) ∧ w'.cell? ⟨(gb + 1), 4, none⟩ = some (.string y.f4) ∧ w'.cell? ⟨(gb + 1), 5, none⟩ = some (.slice B y.f5.length d) ∧ w'.cell? ⟨pb, 0, none⟩ = some (.int .i64 r.f0) ∧ w'.cell? ⟨pb, 1, none⟩ = some (.string r.f1) ∧ w'.cell? ⟨pb, 2, none⟩ = some (.int .i64 r.f2) ∧ w'.cell? ⟨pb, 3, none⟩ = some (.int .i64 r.f3) ∧ w'.cell? ⟨pb, 4, none⟩ = some (.string r.f4) ∧ w'.cell? ⟨pb, 5, none⟩ = some (.slice A7 r.f5.length c7) ∧ w'.cell? ⟨wb, 0, none⟩ = some (.int .i64 r.f0) ∧ w'.cell? ⟨wb, 1, none⟩ = some (.string r.f1) ∧ w'.cell? ⟨wb, 2, none⟩ = some (.int .i64 r.f2) ∧ w'.cell? ⟨wb, 3, none⟩ = some (.int .i64 r.f3) ∧ w'.cell? ⟨wb, 4, none⟩ = some (.string r.f4) ∧ w'.cell? ⟨wb, 5, none⟩ = some (.slice A6 r.f5.length c6) ∧ Hid (Below w7.heap.size w7 w')) (first | assumption | exact sl_keep (by assumption) (by assumption)) (first | (go_at_call 7; refine (typed0 _).mono ?_; rintro e w1 ⟨rfl, hb⟩) | (go_at_call 9; refine (copy_any _ x (some ad) c _ (Nat.le_refl _) HS.out (Kd.C_below HCX.out (sl_bel (by assumption))) HCC.out).mono ?_; rintro e w1 ⟨v3, rfl, hR, hb⟩; obtain ⟨A9, c9, rfl, hc9, hC9⟩ := Kd.R_reads hR; have HC9 := Lib.hid hC9; have HCC9 := Lib.hid hc9; clear hR hC9 hc9) | (go_at_call 10; refine (equal_any _ x y (Nat.le_refl _) (some ad) c B d _ (Kd.C_below HCX.out (sl_bel (by assumption))) HCC.out (Kd.C_below HCY.out (sl_bel (by assumption))) HDD.out).mono ?_; rw [HE.out]; rintro e w1 ⟨rfl, hb⟩) | (go_at_call_of 8 (Value.slice A7 r.f5.length c7); refine (text_any _ r (Nat.le_refl _) A7 c7 _ (HT7.out.below (sl_bel (by assumption))) (Kd.C_below HCR7.out (sl_bel (by assumption))) HCC7.out RR.out LR.out).mono ?_; rw [← HTR.out]; rintro e w1 ⟨rfl, hb⟩) | (go_at_call_of 8 (Value.slice A6 r.f5.length c6); refine (text_any _ r (Nat.le_refl _) A6 c6 _ (HT7.out.below (sl_bel (by assumption))) (Kd.C_below HCRW.out (sl_bel (by assumption))) HCCW.out RR.out LR.out).mono ?_; rw [← HTR.out]; rintro e w1 ⟨rfl, hb⟩) | (go_at_call_of 8 (Value.slice (some ad) x.f5.length c); refine (text_any _ x (Nat.le_refl _) (some ad) c _ (HT7.out.below (sl_bel (by assumption))) (Kd.C_below HCX.out (sl_bel (by assumption))) HCC.out RX.out LX.out).mono ?_; rw [← HTX.out]; rintro e w1 ⟨rfl, hb⟩) | (go_at_call_of 8 (Value.slice B y.f5.length d); refine (text_any _ y (Nat.le_refl _) B d _ (HT7.out.below (sl_bel (by assumption))) (Kd.C_below HCY.out (sl_bel (by assumption))) HDD.out RY.out LY.out).mono ?_; rw [← HTY.out]; rintro e w1 ⟨rfl, hb⟩) | (go_at_call_of 8 (Value.slice A9 x.f5.length c9); refine (text_any _ x (Nat.le_refl _) A9 c9 _ (HT7.out.below (sl_bel (by assumption))) HC9.out HCC9.out RX.out LX.out).mono ?_; rw [← HTX.out]; rintro e w1 ⟨rfl, hb⟩))
    all_goals
      have HBF := Lib.hid (HB7.out.trans ((sl_bel (by assumption)).mono HB7.out.size))
      clear HSD he hjd
      go_wp2_with fail
      go_ret
      exact ⟨rfl, HBF.out⟩
  · have hr0 : r = ⟨0, ⟨#[]⟩, 0, 0, ⟨#[]⟩, []⟩ := by rw [HRR.out]; unfold partR; rw [if_neg hp]
    have HOK1 : ok = false := by rw [HOK.out]; exact decide_eq_false hp
    have hjd : decide (placeOf nm 0 x.f5 ≥ 0) = false := decide_eq_false hp
    have blkW7 : w6.heap[wb]? = some (.cells #[.int .i64 r.f0, .string r.f1, .int .i64 r.f2, .int .i64 r.f3, .string r.f4, .slice none r.f5.length 0] 24 (0, 0)) := by rw [blkW6, hr0]; rfl
    have hC0 : ∀ W, Kd.C k29 W none r.f5.length r.f5 := fun W => by rw [hr0]; exact Kd.C_nil _ _
    have HCCW : Hid (r.f5.length ≤ 0) := Lib.hid (by rw [hr0]; exact Nat.le_refl _)
    have HCRW := Lib.hid (hC0 w6)
    subst HOK1
    clear hr0 hp blkW6
    go_upto_region 6 with (fail)
    have HB7 := Lib.hid (HB5w.out.trans (HB56.out.mono HB5w.out.size))
    have HCX := Lib.hid (Kd.C_below HC.out HB7.out)
    have HCY := Lib.hid (Kd.C_below HD.out HB7.out)
    have HCR7 := Lib.hid (Kd.C_below HC75.out HB56.out)
    have HT7 := Lib.hid (HT.out.below HB7.out)
    obtain ⟨w7, hw7⟩ : ∃ w7, w7 = w6 := ⟨_, rfl⟩
    subst hw7
    have blkT7 := blkT6
    have blkU7 := blkU6
    have blkP7 := blkP6
    clear blkT6 blkU6 blkP6
    obtain ⟨TBr, hTBr⟩ : ∃ TB : ByteArray, TB = ⟨(txV r).toArray⟩ := ⟨_, rfl⟩
    obtain ⟨TBx, hTBx⟩ : ∃ TB : ByteArray, TB = ⟨(txV x).toArray⟩ := ⟨_, rfl⟩
    obtain ⟨TBy, hTBy⟩ : ∃ TB : ByteArray, TB = ⟨(txV y).toArray⟩ := ⟨_, rfl⟩
    obtain ⟨E, hE⟩ : ∃ E, eqV x y = E := ⟨_, rfl⟩
    have he : (TBx.toList == TBy.toList) = E := by
      rw [← hE, HEQ.out, hTBx, hTBy, lb_toList, lb_toList, lb_mk, lb_mk, Bool.eq_iff_iff, beq_iff_eq, decide_eq_true_eq]
    have HTR := Lib.hid hTBr
    have HTX := Lib.hid hTBx
    have HTY := Lib.hid hTBy
    have HE := Lib.hid hE
    have HS0 : w7.cell? ⟨gb, 0, none⟩ = some (.int .i64 x.f0) ∧ w7.cell? ⟨gb, 1, none⟩ = some (.string x.f1) ∧ w7.cell? ⟨gb, 2, none⟩ = some (.int .i64 x.f2) ∧ w7.cell? ⟨gb, 3, none⟩ = some (.int .i64 x.f3) ∧ w7.cell? ⟨gb, 4, none⟩ = some (.string x.f4) ∧ w7.cell? ⟨gb, 5, none⟩ = some (.slice A x.f5.length c) ∧ w7.cell? ⟨(gb + 1), 0, none⟩ = some (.int .i64 y.f0) ∧ w7.cell? ⟨(gb + 1), 1, none⟩ = some (.string y.f1) ∧ w7.cell? ⟨(gb + 1), 2, none⟩ = some (.int .i64 y.f2) ∧ w7.cell? ⟨(gb + 1), 3, none⟩ = some (.int .i64 y.f3) ∧ w7.cell? ⟨(gb + 1), 4, none⟩ = some (.string y.f4) ∧ w7.cell? ⟨(gb + 1), 5, none⟩ = some (.slice B y.f5.length d) ∧ w7.cell? ⟨pb, 0, none⟩ = some (.int .i64 r.f0) ∧ w7.cell? ⟨pb, 1, none⟩ = some (.string r.f1) ∧ w7.cell? ⟨pb, 2, none⟩ = some (.int .i64 r.f2) ∧ w7.cell? ⟨pb, 3, none⟩ = some (.int .i64 r.f3) ∧ w7.cell? ⟨pb, 4, none⟩ = some (.string r.f4) ∧ w7.cell? ⟨pb, 5, none⟩ = some (.slice A7 r.f5.length c7) ∧ w7.cell? ⟨wb, 0, none⟩ = some (.int .i64 r.f0) ∧ w7.cell? ⟨wb, 1, none⟩ = some (.string r.f1) ∧ w7.cell? ⟨wb, 2, none⟩ = some (.int .i64 r.f2) ∧ w7.cell? ⟨wb, 3, none⟩ = some (.int .i64 r.f3) ∧ w7.cell? ⟨wb, 4, none⟩ = some (.string r.f4) ∧ w7.cell? ⟨wb, 5, none⟩ = some (.slice none r.f5.length 0) ∧ Hid (Below w7.heap.size w7 w7) := ⟨(blk_cell blkT7 0).trans rfl, (blk_cell blkT7 1).trans rfl, (blk_cell blkT7 2).trans rfl, (blk_cell blkT7 3).trans rfl, (blk_cell blkT7 4).trans rfl, (blk_cell blkT7 5).trans rfl, (blk_cell blkU7 0).trans rfl, (blk_cell blkU7 1).trans rfl, (blk_cell blkU7 2).trans rfl, (blk_cell blkU7 3).trans rfl, (blk_cell blkU7 4).trans rfl, (blk_cell blkU7 5).trans rfl, (blk_cell blkP7 0).trans rfl, (blk_cell blkP7 1).trans rfl, (blk_cell blkP7 2).trans rfl, (blk_cell blkP7 3).trans rfl, (blk_cell blkP7 4).trans rfl, (blk_cell blkP7 5).trans rfl, (blk_cell blkW7 0).trans rfl, (blk_cell blkW7 1).trans rfl, (blk_cell blkW7 2).trans rfl, (blk_cell blkW7 3).trans rfl, (blk_cell blkW7 4).trans rfl, (blk_cell blkW7 5).trans rfl, Lib.hid (Below.refl _ _)⟩
    have HSD : w7.drew.cell? ⟨gb, 0, none⟩ = some (.int .i64 x.f0) ∧ w7.drew.cell? ⟨gb, 1, none⟩ = some (.string x.f1) ∧ w7.drew.cell? ⟨gb, 2, none⟩ = some (.int .i64 x.f2) ∧ w7.drew.cell? ⟨gb, 3, none⟩ = some (.int .i64 x.f3) ∧ w7.drew.cell? ⟨gb, 4, none⟩ = some (.string x.f4) ∧ w7.drew.cell? ⟨gb, 5, none⟩ = some (.slice A x.f5.length c) ∧ w7.drew.cell? ⟨(gb + 1), 0, none⟩ = some (.int .i64 y.f0) ∧ w7.drew.cell? ⟨(gb + 1), 1, none⟩ = some (.string y.f1) ∧ w7.drew.cell? ⟨(gb + 1), 2, none⟩ = some (.int .i64 y.f2) ∧ w7.drew.cell? ⟨(gb + 1), 3, none⟩ = some (.int .i64 y.f3) ∧ w7.drew.cell? ⟨(gb + 1), 4, none⟩ = some (.string y.f4) ∧ w7.drew.cell? ⟨(gb + 1), 5, none⟩ = some (.slice B y.f5.length d) ∧ w7.drew.cell? ⟨pb, 0, none⟩ = some (.int .i64 r.f0) ∧ w7.drew.cell? ⟨pb, 1, none⟩ = some (.string r.f1) ∧ w7.drew.cell? ⟨pb, 2, none⟩ = some (.int .i64 r.f2) ∧ w7.drew.cell? ⟨pb, 3, none⟩ = some (.int .i64 r.f3) ∧ w7.drew.cell? ⟨pb, 4, none⟩ = some (.string r.f4) ∧ w7.drew.cell? ⟨pb, 5, none⟩ = some (.slice A7 r.f5.length c7) ∧ w7.drew.cell? ⟨wb, 0, none⟩ = some (.int .i64 r.f0) ∧ w7.drew.cell? ⟨wb, 1, none⟩ = some (.string r.f1) ∧ w7.drew.cell? ⟨wb, 2, none⟩ = some (.int .i64 r.f2) ∧ w7.drew.cell? ⟨wb, 3, none⟩ = some (.int .i64 r.f3) ∧ w7.drew.cell? ⟨wb, 4, none⟩ = some (.string r.f4) ∧ w7.drew.cell? ⟨wb, 5, none⟩ = some (.slice none r.f5.length 0) ∧ Hid (Below w7.heap.size w7 w7.drew) := sl_keep HS0 (blw_drew (Below.refl _ _))
    clear hTBr hTBx hTBy hE blkT7 blkU7 blkP7 blkW7 HS0
    go_region_held3 (fun w' => w'.cell? ⟨gb, 0, none⟩ = some (.int .i64 x.f0) ∧ w'.cell? ⟨gb, 1, none⟩ = some (.string x.f1) ∧ w'.cell? ⟨gb, 2, none⟩ = some (.int .i64 x.f2) ∧ w'.cell? ⟨gb, 3, none⟩ = some (.int .i64 x.f3) ∧ w'.cell? ⟨gb, 4, none⟩ = some (.string x.f4) ∧ w'.cell? ⟨gb, 5, none⟩ = some (.slice A x.f5.length c) ∧ w'.cell? ⟨(gb + 1), 0, none⟩ = some (.int .i64 y.f0) ∧ w'.cell? ⟨(gb + 1), 1, none⟩ = some (.string y.f1) ∧ w'.cell? ⟨(gb + 1), 2, none⟩ = some (.int .i64 y.f2) ∧ w'.cell? ⟨(gb + 1), 3, none⟩ = some (.int .i64 y.f3) ∧ w'.cell? ⟨(gb + 1), 4, none⟩ = some (.string y.f4) ∧ w'.cell? ⟨(gb + 1), 5, none⟩ = some (.slice B y.f5.length d) ∧ w'.cell? ⟨pb, 0, none⟩ = some (.int .i64 r.f0) ∧ w'.cell? ⟨pb, 1, none⟩ = some (.string r.f1) ∧ w'.cell? ⟨pb, 2, none⟩ = some (.int .i64 r.f2) ∧ w'.cell? ⟨pb, 3, none⟩ = some (.int .i64 r.f3) ∧ w'.cell? ⟨pb, 4, none⟩ = some (.string r.f4) ∧ w'.cell? ⟨pb, 5, none⟩ = some (.slice A7 r.f5.length c7) ∧ w'.cell? ⟨wb, 0, none⟩ = some (.int .i64 r.f0) ∧ w'.cell? ⟨wb, 1, none⟩ = some (.string r.f1) ∧ w'.cell? ⟨wb, 2, none⟩ = some (.int .i64 r.f2) ∧ w'.cell? ⟨wb, 3, none⟩ = some (.int .i64 r.f3) ∧ w'.cell? ⟨wb, 4, none⟩ = some (.string r.f4) ∧ w'.cell? ⟨wb, 5, none⟩ = some (.slice none r.f5.length 0) ∧ Hid (Below w7.heap.size w7 w')) (first | assumption | exact sl_keep (by assumption) (by assumption)) (first | (go_at_call 7; refine (typed0 _).mono ?_; rintro e w1 ⟨rfl, hb⟩) | (go_at_call 9; refine (copy_any _ x A c _ (Nat.le_refl _) HS.out (Kd.C_below HCX.out (sl_bel (by assumption))) HCC.out).mono ?_; rintro e w1 ⟨v3, rfl, hR, hb⟩; obtain ⟨A9, c9, rfl, hc9, hC9⟩ := Kd.R_reads hR; have HC9 := Lib.hid hC9; have HCC9 := Lib.hid hc9; clear hR hC9 hc9) | (go_at_call 10; refine (equal_any _ x y (Nat.le_refl _) A c B d _ (Kd.C_below HCX.out (sl_bel (by assumption))) HCC.out (Kd.C_below HCY.out (sl_bel (by assumption))) HDD.out).mono ?_; rw [HE.out]; rintro e w1 ⟨rfl, hb⟩) | (go_at_call_of 8 (Value.slice A7 r.f5.length c7); refine (text_any _ r (Nat.le_refl _) A7 c7 _ (HT7.out.below (sl_bel (by assumption))) (Kd.C_below HCR7.out (sl_bel (by assumption))) HCC7.out RR.out LR.out).mono ?_; rw [← HTR.out]; rintro e w1 ⟨rfl, hb⟩) | (go_at_call_of 8 (Value.slice none r.f5.length 0); refine (text_any _ r (Nat.le_refl _) none 0 _ (HT7.out.below (sl_bel (by assumption))) (Kd.C_below HCRW.out (sl_bel (by assumption))) HCCW.out RR.out LR.out).mono ?_; rw [← HTR.out]; rintro e w1 ⟨rfl, hb⟩) | (go_at_call_of 8 (Value.slice A x.f5.length c); refine (text_any _ x (Nat.le_refl _) A c _ (HT7.out.below (sl_bel (by assumption))) (Kd.C_below HCX.out (sl_bel (by assumption))) HCC.out RX.out LX.out).mono ?_; rw [← HTX.out]; rintro e w1 ⟨rfl, hb⟩) | (go_at_call_of 8 (Value.slice B y.f5.length d); refine (text_any _ y (Nat.le_refl _) B d _ (HT7.out.below (sl_bel (by assumption))) (Kd.C_below HCY.out (sl_bel (by assumption))) HDD.out RY.out LY.out).mono ?_; rw [← HTY.out]; rintro e w1 ⟨rfl, hb⟩) | (go_at_call_of 8 (Value.slice A9 x.f5.length c9); refine (text_any _ x (Nat.le_refl _) A9 c9 _ (HT7.out.below (sl_bel (by assumption))) HC9.out HCC9.out RX.out LX.out).mono ?_; rw [← HTX.out]; rintro e w1 ⟨rfl, hb⟩))
    all_goals
      have HBF := Lib.hid (HB7.out.trans ((sl_bel (by assumption)).mono HB7.out.size))
      clear HSD he hjd
      go_wp2_with fail
      go_ret
      exact ⟨rfl, HBF.out⟩
end Go.Proofs.YtaalehglichejaaDoor.PTy
