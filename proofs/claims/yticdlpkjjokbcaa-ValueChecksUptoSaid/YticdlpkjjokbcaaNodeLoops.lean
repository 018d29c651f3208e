/- The walks of the reference's nodeErr at the kinds whose nodes have parts. No statement is proved here. -/
import Derived.Test.YticdlpkjjokbcaaNodeKinds
namespace Go.Proofs.Yticdlpkjjokbcaa.PVal
open Go.RowKit Go.Proofs.YticdlpkjjokbcaaW.PrintWords Go.Proofs.YticdlpkjjokbcaaW.PrintLast
set_option linter.unusedVariables false
set_option linter.unusedSimpArgs false
/-- The names of parts, one after the other: each a name, none twice. -/
def nmsGo (nf : ByteArray → Bool) (seen : List ByteArray) : List S36 → Int
  | [] => 0
  | f :: t => if nf f.f0 = true then (if ∃ x ∈ seen, x.data.toList = f.f0.data.toList then 5 else nmsGo nf (f.f0 :: seen) t) else 15
theorem nmsGo_step (nf : ByteArray → Bool) (seen : List ByteArray) (l : List S36) (j : Nat) (h : j < l.length) : nmsGo nf seen (l.drop j) = if nf l[j].f0 = true then (if ∃ x ∈ seen, x.data.toList = l[j].f0.data.toList then 5 else nmsGo nf (l[j].f0 :: seen) (l.drop (j + 1))) else 15 := by
  rw [List.drop_eq_getElem_cons h]; rfl
def lstGo : List S36 → Int
  | [] => 0
  | f :: t => if f.f0.toList.isEmpty = false then 3 else lstGo t
theorem lstGo_step (l : List S36) (j : Nat) (h : j < l.length) : lstGo (l.drop j) = if l[j].f0.toList.isEmpty = false then 3 else lstGo (l.drop (j + 1)) := by
  rw [List.drop_eq_getElem_cons h]; rfl
def mapGo : Nat → ByteArray → List S36 → Int
  | _, _, [] => 0
  | i, last, f :: t => if (f.f0.size : Int) > 4000 then 2 else if 0 < i ∧ Op.bytesLess last.toList f.f0.toList = false then 9 else mapGo (i + 1) f.f0 t
theorem mapGo_step (i : Nat) (last : ByteArray) (l : List S36) (j : Nat) (h : j < l.length) : mapGo i last (l.drop j) = if (l[j].f0.size : Int) > 4000 then 2 else if 0 < i ∧ Op.bytesLess last.toList l[j].f0.toList = false then 9 else mapGo (i + 1) l[j].f0 (l.drop (j + 1)) := by
  rw [List.drop_eq_getElem_cons h]; rfl
theorem rd_getP (l : List S36) (j : Nat) (h : j < l.length) : rd_T36 l (j : Int) = l[j] := by simp [rd_T36, List.getD_eq_getElem?_getD, List.getElem?_eq_getElem h]
set_option maxHeartbeats 8000000 in
set_option maxRecDepth 1000000 in
theorem node_6 (nf : ByteArray → Bool) (NM : ∀ (s : ByteArray) (w : World), Calls Try.prog 18 #[.string s] w fun e w' => e = .returned (.bool (nf s)) ∧ Below w.heap.size w w') (NS : ∀ s, nf s = true → s.size ≤ 16)
    (n : Int) (s : ByteArray) (A : Option Addr) (l : List S36) (c : Nat) (first : Bool) (w : World) (hC : Kd.C k36 w A l.length l) (hc : l.length ≤ c) (hl : l.length ≤ 1000000000000) :
    Calls Try.prog 13 #[.agg #[.int .i64 6, .int .i64 n, .string s, .slice A l.length c], .bool first] w (Ret0 (if n ≠ 0 then 3 else (if s.toList.isEmpty = false then 3 else (if (l.length : Int) > 24 then 2 else (nmsGo nf [] l)))) w) := by
  have HC := Lib.hid hC
  have HCC := Lib.hid hc
  have HL := Lib.hid hl
  have HNM := Lib.hid NM
  have HNS := Lib.hid NS
  clear hC hc hl NM NS
  have hu24 := Try.underlying24
  have hu36 := Try.underlying36
  have hu41 := Try.underlying41
  have hmk : ∀ (t : TypeId) (W : World), (Instr.makeMap t none).run Try.prog W = .ok (.map (some W.heap.size)) (W.alloc (.map #[] 0)) := fun t W => run_makeMap t W
  obtain ⟨w1, w2, w3, w4, w5, r1, r2, r3, r4, r5, hl, hB⟩ := num_chain ((w.alloc (.cells #[.int .i64 6, .int .i64 n, .string s, .slice A l.length c] 24)).alloc (.map #[] 0)) (w.heap.size + 1) (by
    have h := World.ownsMap_made (w.alloc (.cells #[.int .i64 6, .int .i64 n, .string s, .slice A l.length c] 24)) Try.prog 3 pairR
    simpa using h)
  have rk := hl 6 (by decide)
  rw [show numF 6 = (0, 0, false) from rfl] at rk
  clear hl
  have hlt5 : w.heap.size + 1 < w5.heap.size := by rw [hB.2.1]; first | (simp; done) | (simp; omega)
  have blk0 : w5.heap[w.heap.size]? = some (.cells #[.int .i64 6, .int .i64 n, .string s, .slice A l.length c] 24 (0, 0)) :=
    (hB.1 _ (by omega)).trans ((Below.heap_alloc _ _ _ (by simp)).trans (heap_alloc_new w _))
  have HB5 := Lib.hid (show Below w.heap.size w w5 from (blw_alloc (blw_alloc (Below.refl _ _) _) _).trans (hB.2.2.mono (by omega)))
  have a0 := (blk_cell blk0 0).trans rfl
  have a1 := (blk_cell blk0 1).trans rfl
  have a2 := (blk_cell blk0 2).trans rfl
  have a3 := (blk_cell blk0 3).trans rfl
  have a0_ := Lib.cell?_alloc_some (.cells #[.int .i64 0, .int .i64 0] 41) a0
  have a1_ := Lib.cell?_alloc_some (.cells #[.int .i64 0, .int .i64 0] 41) a1
  have a2_ := Lib.cell?_alloc_some (.cells #[.int .i64 0, .int .i64 0] 41) a2
  have a3_ := Lib.cell?_alloc_some (.cells #[.int .i64 0, .int .i64 0] 41) a3
  clear blk0 hB
  by_cases q : n ≠ 0
  · rw [if_pos q]
    have p0 : (n != 0) = true := by rw [bne_iff_ne]; exact q
    go_enter Try.func13, Try.ntmps13
    go_wp2_with fail
    go_ret
    exact ⟨rfl, (by repeat (first | exact HB5.out | apply blw_alloc | apply blw_drewN | apply blw_drew))⟩
  rw [if_neg q]
  have p0 : (n != 0) = false := by rw [bne_eq_false_iff_eq]; exact Decidable.not_not.1 q
  clear q
  by_cases q : s.toList.isEmpty = false
  · rw [if_pos q]
    have p1 : s.toList.isEmpty = false := q
    go_enter Try.func13, Try.ntmps13
    go_wp2_with fail
    go_ret
    exact ⟨rfl, (by repeat (first | exact HB5.out | apply blw_alloc | apply blw_drewN | apply blw_drew))⟩
  rw [if_neg q]
  have p1 : s.toList.isEmpty = true := by simpa using q
  clear q
  have hs0 : s = ⟨#[]⟩ := by
    have := List.isEmpty_iff.1 p1
    apply lb_ext; rw [← lb_toList, this]
  have hs4 : decide ((s.size : Int) > 4000) = false := by rw [hs0]; rfl
  clear hs0
  obtain ⟨w6, w7, w8, m1, m2, m3, ml, hM⟩ := most_chain ((w5.alloc (.cells #[.int .i64 0, .int .i64 0] 41)).alloc (.map #[] 0)) (w5.heap.size + 1) (by
    have h := World.ownsMap_made (w5.alloc (.cells #[.int .i64 0, .int .i64 0] 41)) Try.prog 3 (plainElem (H := Unit) Try.prog 3)
    simpa using h)
  have mk := ml 6 (by decide)
  rw [show mostF 6 = (24, true) from rfl] at mk
  have HB8 := Lib.hid (show Below w.heap.size w w8 from (blw_alloc (blw_alloc HB5.out _) _).trans (hM.2.2.mono (by have := HB5.out.size; omega)))
  have e0 : w8.heap[w.heap.size]? = w5.heap[w.heap.size]? := (hM.1 _ (by omega)).trans ((Below.heap_alloc _ _ _ (by simp; omega)).trans (Below.heap_alloc _ _ _ (by omega)))
  have cc : ∀ i, w8.cell? ⟨w.heap.size, i, none⟩ = w5.cell? ⟨w.heap.size, i, none⟩ := fun i => by unfold World.cell?; rw [e0]
  have b0 := (cc 0).trans a0
  have b1 := (cc 1).trans a1
  have b2 := (cc 2).trans a2
  have b3 := (cc 3).trans a3
  have b0_ := Lib.cell?_alloc_some (.map #[] 0) b0
  have b3_ := Lib.cell?_alloc_some (.map #[] 0) b3
  clear ml hM e0 cc
  by_cases q : (l.length : Int) > 24
  · rw [if_pos q]
    have p2 : decide ((l.length : Int) > 24) = true := decide_eq_true q
    go_enter Try.func13, Try.ntmps13
    go_wp2_with fail
    go_ret
    exact ⟨rfl, (by repeat (first | exact HB8.out | apply blw_alloc | apply blw_drewN | apply blw_drew))⟩
  rw [if_neg q]
  have p2 : decide ((l.length : Int) > 24) = false := decide_eq_false q
  clear q
  have hu3 := Try.underlying3
  go_enter Try.func13, Try.ntmps13
  go_wp2_with fail
  obtain ⟨mb, hmb⟩ : ∃ mb, mb = w8.heap.size := ⟨_, rfl⟩
  obtain ⟨w9, hw9⟩ : ∃ w9, w9 = w8.alloc (.map #[] 0) := ⟨_, rfl⟩
  have hgm : w.heap.size < mb := by
    have h1 := HB8.out.size
    have h2 : w.heap.size < w8.heap.size := by
      rcases Nat.lt_or_ge w.heap.size w8.heap.size with h | h
      · exact h
      · simp [World.cell?, Array.getElem?_eq_none h] at b0
    omega
  have HSE : Hid (Seen w9 mb 0 []) := Lib.hid (by rw [hw9, hmb]; exact Seen.made w8)
  have HB9 : Hid (Below w.heap.size w w9) := Lib.hid (by rw [hw9]; exact blw_alloc HB8.out _)
  have HK9 : Hid (w9.cell? ⟨w.heap.size, 0, none⟩ = some (.int .i64 6)) := Lib.hid (by rw [hw9]; exact b0_)
  rw [← hmb, ← hw9]
  clear hmb hw9 r1 r2 r3 r4 r5 rk m1 m2 m3 mk a0 a1 a2 a3 a0_ a1_ a2_ a3_ b0 b1 b2 b3 b0_ b3_ p0 p1 p2 hs4 hlt5 hmk
  have hl64 : l.length ≤ 9223372036854775807 := HC.out.2.1
  go_loopw [136] (fun i wr => ∃ (j : Nat) (names : List ByteArray), j ≤ l.length ∧ i = .int .i64 j ∧ nmsGo nf [] l = nmsGo nf names (l.drop j) ∧ Hid (Below w.heap.size w wr) ∧ Hid (Seen wr mb j names) ∧ Hid (wr.cell? ⟨w.heap.size, 0, none⟩ = some (.int .i64 6))) (fun i _ => l.length - (intOf i).toNat)
  case atStart => exact ⟨0, [], Nat.zero_le _, rfl, rfl, HB9, HSE, HK9⟩
  case round =>
    obtain ⟨j, names, hj, rfl, hp, HB, HSE, HKC⟩ := hrel
    have HP := Lib.hid hp
    clear hp
    by_cases hlt : j < l.length
    · obtain ⟨ad, A4, c4, hA, x0, x1, x2, x3, x4, hl4, hC4⟩ := at_T36 HC.out (j : Int) (by omega) (by omega)
      subst hA
      replace x0 := pw_cell_below HB.out x0
      replace x1 := pw_cell_below HB.out x1
      replace x2 := pw_cell_below HB.out x2
      replace x3 := pw_cell_below HB.out x3
      replace x4 := pw_cell_below HB.out x4
      rw [rd_getP l j hlt] at x0 x1 x2 x3 x4 hl4 hC4
      simp only [Int.toNat_natCast] at x0 x1 x2 x3 x4
      have HST := Lib.hid (nmsGo_step nf names l j hlt)
      generalize l[j] = f at *
      clear hl4 hC4
      go_upto_region 19 with (fail)
      obtain ⟨W1, hW1⟩ : ∃ W1, W1 = wr.alloc (.cells #[.string f.f0, .int .i64 f.f1.f0, .int .i64 f.f1.f1, .string f.f1.f2, .slice A4 f.f1.f3.length c4] 36) := ⟨_, rfl⟩
      obtain ⟨eb, heb⟩ : ∃ eb, eb = wr.heap.size := ⟨_, rfl⟩
      rw [← heb, ← hW1]
      have hE : W1.heap[eb]? = some (.cells #[.string f.f0, .int .i64 f.f1.f0, .int .i64 f.f1.f1, .string f.f1.f2, .slice A4 f.f1.f3.length c4] 36 (0, 0)) := by rw [hW1, heb]; exact heap_alloc_new wr _
      have hb1 : Below wr.heap.size wr W1 := by rw [hW1]; exact blw_alloc (Below.refl _ _) _
      have hS1 := HSE.out.kept (hb1.block mb HSE.out.lt)
      have hK1 := pw_cell_below hb1 HKC.out
      have hem : eb ≠ mb := by have := HSE.out.lt; omega
      have HB1 := Lib.hid (HB.out.trans (hb1.mono HB.out.size))
      clear hW1 heb x0 x1 x2 x3 x4 hb1 HB HSE HKC
      have e0 := (blk_cell hE 0).trans rfl
      go_wp2_with fail
      go_at_call 18
      refine (HNM.out f.f0 _).mono ?_
      rintro e w3 ⟨rfl, hb3⟩
      have hE3 := (hb3.block eb (blk_lt hE)).trans hE
      have hS3 := hS1.kept (hb3.block mb hS1.lt)
      have hK3 := pw_cell_below hb3 hK1
      have HB3 := Lib.hid (HB1.out.trans (hb3.mono HB1.out.size))
      clear hE hb3 e0 HB1 hK1 hS1
      have e3 := (blk_cell hE3 0).trans rfl
      by_cases hn : nf f.f0 = true
      · have hsz := HNS.out _ hn
        have hmax : f.f0.size ≤ maxLen := Nat.le_trans hsz (by decide)
        have rl := hS3.look f.f0 hmax
        by_cases hx : ∃ x ∈ names, x.data.toList = f.f0.data.toList
        · rw [decide_eq_true hx] at rl
          have HV : Hid (nmsGo nf names (l.drop j) = 5) := Lib.hid (by rw [HST.out, if_pos hn, if_pos hx])
          rw [hn]
          clear hn hx hsz hmax hE3 hS3 HST
          go_wp2_with fail
          go_ret
          exact ⟨by rw [HP.out, HV.out]; try rfl, HB3.out⟩
        · rw [decide_eq_false hx] at rl
          obtain ⟨w4, rp, hS4, hM4⟩ := hS3.put f.f0 hmax (Nat.lt_of_le_of_lt (Nat.le_trans hj HL.out) (by decide))
          have HV : Hid (nmsGo nf names (l.drop j) = nmsGo nf (f.f0 :: names) (l.drop (j + 1))) := Lib.hid (by rw [HST.out, if_pos hn, if_neg hx])
          have HB4 := Lib.hid (HB3.out.trans (hM4.2.2.mono (Nat.le_of_lt hgm)))
          have hK4 : w4.cell? ⟨w.heap.size, 0, none⟩ = some (.int .i64 6) := by
            have : w4.heap[w.heap.size]? = w3.heap[w.heap.size]? := hM4.1 _ (by omega)
            unfold World.cell? at hK3 ⊢; rw [this]; exact hK3
          have HK4 := Lib.hid hK4
          have HS4 := Lib.hid hS4
          rw [hn]
          clear hn hx hsz hmax hE3 hS3 HST hM4 hS4 hK4
          go_wp2_with fail
          go_roundw
          case rel => exact ⟨j + 1, f.f0 :: names, by omega, by go_num, by rw [HP.out, HV.out], HB4, HS4, HK4⟩
          case measure => simp [intOf]; omega
      · have HV : Hid (nmsGo nf names (l.drop j) = 15) := Lib.hid (by rw [HST.out, if_neg hn])
        rw [Bool.eq_false_iff.2 hn]
        clear hn hE3 hS3 HST
        go_wp2_with fail
        go_ret
        exact ⟨by rw [HP.out, HV.out]; try rfl, HB3.out⟩
    · obtain rfl : j = l.length := by omega
      go_wp2_with fail
      go_ret
      exact ⟨by rw [HP.out, List.drop_length]; try rfl, HB.out⟩
set_option maxHeartbeats 8000000 in
set_option maxRecDepth 1000000 in
theorem node_7 (nf : ByteArray → Bool) (NM : ∀ (s : ByteArray) (w : World), Calls Try.prog 18 #[.string s] w fun e w' => e = .returned (.bool (nf s)) ∧ Below w.heap.size w w') (NS : ∀ s, nf s = true → s.size ≤ 16)
    (n : Int) (s : ByteArray) (A : Option Addr) (l : List S36) (c : Nat) (first : Bool) (w : World) (hC : Kd.C k36 w A l.length l) (hc : l.length ≤ c) (hl : l.length ≤ 1000000000000) :
    Calls Try.prog 13 #[.agg #[.int .i64 7, .int .i64 n, .string s, .slice A l.length c], .bool first] w (Ret0 (if n ≠ 0 then 3 else (if s.toList.isEmpty = false then 3 else (if l.length ≠ 1 then 3 else (nmsGo nf [] l)))) w) := by
  have HC := Lib.hid hC
  have HCC := Lib.hid hc
  have HL := Lib.hid hl
  have HNM := Lib.hid NM
  have HNS := Lib.hid NS
  clear hC hc hl NM NS
  have hu24 := Try.underlying24
  have hu36 := Try.underlying36
  have hu41 := Try.underlying41
  have hmk : ∀ (t : TypeId) (W : World), (Instr.makeMap t none).run Try.prog W = .ok (.map (some W.heap.size)) (W.alloc (.map #[] 0)) := fun t W => run_makeMap t W
  obtain ⟨w1, w2, w3, w4, w5, r1, r2, r3, r4, r5, hl, hB⟩ := num_chain ((w.alloc (.cells #[.int .i64 7, .int .i64 n, .string s, .slice A l.length c] 24)).alloc (.map #[] 0)) (w.heap.size + 1) (by
    have h := World.ownsMap_made (w.alloc (.cells #[.int .i64 7, .int .i64 n, .string s, .slice A l.length c] 24)) Try.prog 3 pairR
    simpa using h)
  have rk := hl 7 (by decide)
  rw [show numF 7 = (0, 0, false) from rfl] at rk
  clear hl
  have hlt5 : w.heap.size + 1 < w5.heap.size := by rw [hB.2.1]; first | (simp; done) | (simp; omega)
  have blk0 : w5.heap[w.heap.size]? = some (.cells #[.int .i64 7, .int .i64 n, .string s, .slice A l.length c] 24 (0, 0)) :=
    (hB.1 _ (by omega)).trans ((Below.heap_alloc _ _ _ (by simp)).trans (heap_alloc_new w _))
  have HB5 := Lib.hid (show Below w.heap.size w w5 from (blw_alloc (blw_alloc (Below.refl _ _) _) _).trans (hB.2.2.mono (by omega)))
  have a0 := (blk_cell blk0 0).trans rfl
  have a1 := (blk_cell blk0 1).trans rfl
  have a2 := (blk_cell blk0 2).trans rfl
  have a3 := (blk_cell blk0 3).trans rfl
  have a0_ := Lib.cell?_alloc_some (.cells #[.int .i64 0, .int .i64 0] 41) a0
  have a1_ := Lib.cell?_alloc_some (.cells #[.int .i64 0, .int .i64 0] 41) a1
  have a2_ := Lib.cell?_alloc_some (.cells #[.int .i64 0, .int .i64 0] 41) a2
  have a3_ := Lib.cell?_alloc_some (.cells #[.int .i64 0, .int .i64 0] 41) a3
  clear blk0 hB
  by_cases q : n ≠ 0
  · rw [if_pos q]
    have p0 : (n != 0) = true := by rw [bne_iff_ne]; exact q
    go_enter Try.func13, Try.ntmps13
    go_wp2_with fail
    go_ret
    exact ⟨rfl, (by repeat (first | exact HB5.out | apply blw_alloc | apply blw_drewN | apply blw_drew))⟩
  rw [if_neg q]
  have p0 : (n != 0) = false := by rw [bne_eq_false_iff_eq]; exact Decidable.not_not.1 q
  clear q
  by_cases q : s.toList.isEmpty = false
  · rw [if_pos q]
    have p1 : s.toList.isEmpty = false := q
    go_enter Try.func13, Try.ntmps13
    go_wp2_with fail
    go_ret
    exact ⟨rfl, (by repeat (first | exact HB5.out | apply blw_alloc | apply blw_drewN | apply blw_drew))⟩
  rw [if_neg q]
  have p1 : s.toList.isEmpty = true := by simpa using q
  clear q
  have hs0 : s = ⟨#[]⟩ := by
    have := List.isEmpty_iff.1 p1
    apply lb_ext; rw [← lb_toList, this]
  have hs4 : decide ((s.size : Int) > 4000) = false := by rw [hs0]; rfl
  clear hs0
  obtain ⟨w6, w7, w8, m1, m2, m3, ml, hM⟩ := most_chain ((w5.alloc (.cells #[.int .i64 0, .int .i64 0] 41)).alloc (.map #[] 0)) (w5.heap.size + 1) (by
    have h := World.ownsMap_made (w5.alloc (.cells #[.int .i64 0, .int .i64 0] 41)) Try.prog 3 (plainElem (H := Unit) Try.prog 3)
    simpa using h)
  have mk := ml 7 (by decide)
  rw [show mostF 7 = (0, false) from rfl] at mk
  have HB8 := Lib.hid (show Below w.heap.size w w8 from (blw_alloc (blw_alloc HB5.out _) _).trans (hM.2.2.mono (by have := HB5.out.size; omega)))
  have e0 : w8.heap[w.heap.size]? = w5.heap[w.heap.size]? := (hM.1 _ (by omega)).trans ((Below.heap_alloc _ _ _ (by simp; omega)).trans (Below.heap_alloc _ _ _ (by omega)))
  have cc : ∀ i, w8.cell? ⟨w.heap.size, i, none⟩ = w5.cell? ⟨w.heap.size, i, none⟩ := fun i => by unfold World.cell?; rw [e0]
  have b0 := (cc 0).trans a0
  have b1 := (cc 1).trans a1
  have b2 := (cc 2).trans a2
  have b3 := (cc 3).trans a3
  have b0_ := Lib.cell?_alloc_some (.map #[] 0) b0
  have b3_ := Lib.cell?_alloc_some (.map #[] 0) b3
  clear ml hM e0 cc
  by_cases q : l.length ≠ 1
  · rw [if_pos q]
    have p2 : ((l.length : Int) != 1) = true := by rw [bne_iff_ne]; omega
    go_enter Try.func13, Try.ntmps13
    go_wp2_with fail
    go_ret
    exact ⟨rfl, (by repeat (first | exact HB8.out | apply blw_alloc | apply blw_drewN | apply blw_drew))⟩
  rw [if_neg q]
  have p2 : ((l.length : Int) != 1) = false := by rw [bne_eq_false_iff_eq]; omega
  clear q
  have hu3 := Try.underlying3
  go_enter Try.func13, Try.ntmps13
  go_wp2_with fail
  obtain ⟨mb, hmb⟩ : ∃ mb, mb = w8.heap.size := ⟨_, rfl⟩
  obtain ⟨w9, hw9⟩ : ∃ w9, w9 = w8.alloc (.map #[] 0) := ⟨_, rfl⟩
  have hgm : w.heap.size < mb := by
    have h1 := HB8.out.size
    have h2 : w.heap.size < w8.heap.size := by
      rcases Nat.lt_or_ge w.heap.size w8.heap.size with h | h
      · exact h
      · simp [World.cell?, Array.getElem?_eq_none h] at b0
    omega
  have HSE : Hid (Seen w9 mb 0 []) := Lib.hid (by rw [hw9, hmb]; exact Seen.made w8)
  have HB9 : Hid (Below w.heap.size w w9) := Lib.hid (by rw [hw9]; exact blw_alloc HB8.out _)
  have HK9 : Hid (w9.cell? ⟨w.heap.size, 0, none⟩ = some (.int .i64 7)) := Lib.hid (by rw [hw9]; exact b0_)
  rw [← hmb, ← hw9]
  clear hmb hw9 r1 r2 r3 r4 r5 rk m1 m2 m3 mk a0 a1 a2 a3 a0_ a1_ a2_ a3_ b0 b1 b2 b3 b0_ b3_ p0 p1 p2 hs4 hlt5 hmk
  have hl64 : l.length ≤ 9223372036854775807 := HC.out.2.1
  go_loopw [136] (fun i wr => ∃ (j : Nat) (names : List ByteArray), j ≤ l.length ∧ i = .int .i64 j ∧ nmsGo nf [] l = nmsGo nf names (l.drop j) ∧ Hid (Below w.heap.size w wr) ∧ Hid (Seen wr mb j names) ∧ Hid (wr.cell? ⟨w.heap.size, 0, none⟩ = some (.int .i64 7))) (fun i _ => l.length - (intOf i).toNat)
  case atStart => exact ⟨0, [], Nat.zero_le _, rfl, rfl, HB9, HSE, HK9⟩
  case round =>
    obtain ⟨j, names, hj, rfl, hp, HB, HSE, HKC⟩ := hrel
    have HP := Lib.hid hp
    clear hp
    by_cases hlt : j < l.length
    · obtain ⟨ad, A4, c4, hA, x0, x1, x2, x3, x4, hl4, hC4⟩ := at_T36 HC.out (j : Int) (by omega) (by omega)
      subst hA
      replace x0 := pw_cell_below HB.out x0
      replace x1 := pw_cell_below HB.out x1
      replace x2 := pw_cell_below HB.out x2
      replace x3 := pw_cell_below HB.out x3
      replace x4 := pw_cell_below HB.out x4
      rw [rd_getP l j hlt] at x0 x1 x2 x3 x4 hl4 hC4
      simp only [Int.toNat_natCast] at x0 x1 x2 x3 x4
      have HST := Lib.hid (nmsGo_step nf names l j hlt)
      generalize l[j] = f at *
      clear hl4 hC4
      go_upto_region 19 with (fail)
      obtain ⟨W1, hW1⟩ : ∃ W1, W1 = wr.alloc (.cells #[.string f.f0, .int .i64 f.f1.f0, .int .i64 f.f1.f1, .string f.f1.f2, .slice A4 f.f1.f3.length c4] 36) := ⟨_, rfl⟩
      obtain ⟨eb, heb⟩ : ∃ eb, eb = wr.heap.size := ⟨_, rfl⟩
      rw [← heb, ← hW1]
      have hE : W1.heap[eb]? = some (.cells #[.string f.f0, .int .i64 f.f1.f0, .int .i64 f.f1.f1, .string f.f1.f2, .slice A4 f.f1.f3.length c4] 36 (0, 0)) := by rw [hW1, heb]; exact heap_alloc_new wr _
      have hb1 : Below wr.heap.size wr W1 := by rw [hW1]; exact blw_alloc (Below.refl _ _) _
      have hS1 := HSE.out.kept (hb1.block mb HSE.out.lt)
      have hK1 := pw_cell_below hb1 HKC.out
      have hem : eb ≠ mb := by have := HSE.out.lt; omega
      have HB1 := Lib.hid (HB.out.trans (hb1.mono HB.out.size))
      clear hW1 heb x0 x1 x2 x3 x4 hb1 HB HSE HKC
      have e0 := (blk_cell hE 0).trans rfl
      go_wp2_with fail
      go_at_call 18
      refine (HNM.out f.f0 _).mono ?_
      rintro e w3 ⟨rfl, hb3⟩
      have hE3 := (hb3.block eb (blk_lt hE)).trans hE
      have hS3 := hS1.kept (hb3.block mb hS1.lt)
      have hK3 := pw_cell_below hb3 hK1
      have HB3 := Lib.hid (HB1.out.trans (hb3.mono HB1.out.size))
      clear hE hb3 e0 HB1 hK1 hS1
      have e3 := (blk_cell hE3 0).trans rfl
      by_cases hn : nf f.f0 = true
      · have hsz := HNS.out _ hn
        have hmax : f.f0.size ≤ maxLen := Nat.le_trans hsz (by decide)
        have rl := hS3.look f.f0 hmax
        by_cases hx : ∃ x ∈ names, x.data.toList = f.f0.data.toList
        · rw [decide_eq_true hx] at rl
          have HV : Hid (nmsGo nf names (l.drop j) = 5) := Lib.hid (by rw [HST.out, if_pos hn, if_pos hx])
          rw [hn]
          clear hn hx hsz hmax hE3 hS3 HST
          go_wp2_with fail
          go_ret
          exact ⟨by rw [HP.out, HV.out]; try rfl, HB3.out⟩
        · rw [decide_eq_false hx] at rl
          obtain ⟨w4, rp, hS4, hM4⟩ := hS3.put f.f0 hmax (Nat.lt_of_le_of_lt (Nat.le_trans hj HL.out) (by decide))
          have HV : Hid (nmsGo nf names (l.drop j) = nmsGo nf (f.f0 :: names) (l.drop (j + 1))) := Lib.hid (by rw [HST.out, if_pos hn, if_neg hx])
          have HB4 := Lib.hid (HB3.out.trans (hM4.2.2.mono (Nat.le_of_lt hgm)))
          have hK4 : w4.cell? ⟨w.heap.size, 0, none⟩ = some (.int .i64 7) := by
            have : w4.heap[w.heap.size]? = w3.heap[w.heap.size]? := hM4.1 _ (by omega)
            unfold World.cell? at hK3 ⊢; rw [this]; exact hK3
          have HK4 := Lib.hid hK4
          have HS4 := Lib.hid hS4
          rw [hn]
          clear hn hx hsz hmax hE3 hS3 HST hM4 hS4 hK4
          go_wp2_with fail
          go_roundw
          case rel => exact ⟨j + 1, f.f0 :: names, by omega, by go_num, by rw [HP.out, HV.out], HB4, HS4, HK4⟩
          case measure => simp [intOf]; omega
      · have HV : Hid (nmsGo nf names (l.drop j) = 15) := Lib.hid (by rw [HST.out, if_neg hn])
        rw [Bool.eq_false_iff.2 hn]
        clear hn hE3 hS3 HST
        go_wp2_with fail
        go_ret
        exact ⟨by rw [HP.out, HV.out]; try rfl, HB3.out⟩
    · obtain rfl : j = l.length := by omega
      go_wp2_with fail
      go_ret
      exact ⟨by rw [HP.out, List.drop_length]; try rfl, HB.out⟩
set_option maxHeartbeats 8000000 in
set_option maxRecDepth 1000000 in
theorem node_8 (nf : ByteArray → Bool) (NM : ∀ (s : ByteArray) (w : World), Calls Try.prog 18 #[.string s] w fun e w' => e = .returned (.bool (nf s)) ∧ Below w.heap.size w w') (NS : ∀ s, nf s = true → s.size ≤ 16)
    (n : Int) (s : ByteArray) (A : Option Addr) (l : List S36) (c : Nat) (first : Bool) (w : World) (hC : Kd.C k36 w A l.length l) (hc : l.length ≤ c) (hl : l.length ≤ 1000000000000) :
    Calls Try.prog 13 #[.agg #[.int .i64 8, .int .i64 n, .string s, .slice A l.length c], .bool first] w (Ret0 (if n ≠ 0 then 3 else (if s.toList.isEmpty = false then 3 else (if (l.length : Int) > 200 then 2 else (lstGo l)))) w) := by
  have HC := Lib.hid hC
  have HCC := Lib.hid hc
  have HL := Lib.hid hl
  have HNM := Lib.hid NM
  have HNS := Lib.hid NS
  clear hC hc hl NM NS
  have hu24 := Try.underlying24
  have hu36 := Try.underlying36
  have hu41 := Try.underlying41
  have hmk : ∀ (t : TypeId) (W : World), (Instr.makeMap t none).run Try.prog W = .ok (.map (some W.heap.size)) (W.alloc (.map #[] 0)) := fun t W => run_makeMap t W
  obtain ⟨w1, w2, w3, w4, w5, r1, r2, r3, r4, r5, hl, hB⟩ := num_chain ((w.alloc (.cells #[.int .i64 8, .int .i64 n, .string s, .slice A l.length c] 24)).alloc (.map #[] 0)) (w.heap.size + 1) (by
    have h := World.ownsMap_made (w.alloc (.cells #[.int .i64 8, .int .i64 n, .string s, .slice A l.length c] 24)) Try.prog 3 pairR
    simpa using h)
  have rk := hl 8 (by decide)
  rw [show numF 8 = (0, 0, false) from rfl] at rk
  clear hl
  have hlt5 : w.heap.size + 1 < w5.heap.size := by rw [hB.2.1]; first | (simp; done) | (simp; omega)
  have blk0 : w5.heap[w.heap.size]? = some (.cells #[.int .i64 8, .int .i64 n, .string s, .slice A l.length c] 24 (0, 0)) :=
    (hB.1 _ (by omega)).trans ((Below.heap_alloc _ _ _ (by simp)).trans (heap_alloc_new w _))
  have HB5 := Lib.hid (show Below w.heap.size w w5 from (blw_alloc (blw_alloc (Below.refl _ _) _) _).trans (hB.2.2.mono (by omega)))
  have a0 := (blk_cell blk0 0).trans rfl
  have a1 := (blk_cell blk0 1).trans rfl
  have a2 := (blk_cell blk0 2).trans rfl
  have a3 := (blk_cell blk0 3).trans rfl
  have a0_ := Lib.cell?_alloc_some (.cells #[.int .i64 0, .int .i64 0] 41) a0
  have a1_ := Lib.cell?_alloc_some (.cells #[.int .i64 0, .int .i64 0] 41) a1
  have a2_ := Lib.cell?_alloc_some (.cells #[.int .i64 0, .int .i64 0] 41) a2
  have a3_ := Lib.cell?_alloc_some (.cells #[.int .i64 0, .int .i64 0] 41) a3
  clear blk0 hB
  by_cases q : n ≠ 0
  · rw [if_pos q]
    have p0 : (n != 0) = true := by rw [bne_iff_ne]; exact q
    go_enter Try.func13, Try.ntmps13
    go_wp2_with fail
    go_ret
    exact ⟨rfl, (by repeat (first | exact HB5.out | apply blw_alloc | apply blw_drewN | apply blw_drew))⟩
  rw [if_neg q]
  have p0 : (n != 0) = false := by rw [bne_eq_false_iff_eq]; exact Decidable.not_not.1 q
  clear q
  by_cases q : s.toList.isEmpty = false
  · rw [if_pos q]
    have p1 : s.toList.isEmpty = false := q
    go_enter Try.func13, Try.ntmps13
    go_wp2_with fail
    go_ret
    exact ⟨rfl, (by repeat (first | exact HB5.out | apply blw_alloc | apply blw_drewN | apply blw_drew))⟩
  rw [if_neg q]
  have p1 : s.toList.isEmpty = true := by simpa using q
  clear q
  have hs0 : s = ⟨#[]⟩ := by
    have := List.isEmpty_iff.1 p1
    apply lb_ext; rw [← lb_toList, this]
  have hs4 : decide ((s.size : Int) > 4000) = false := by rw [hs0]; rfl
  clear hs0
  obtain ⟨w6, w7, w8, m1, m2, m3, ml, hM⟩ := most_chain ((w5.alloc (.cells #[.int .i64 0, .int .i64 0] 41)).alloc (.map #[] 0)) (w5.heap.size + 1) (by
    have h := World.ownsMap_made (w5.alloc (.cells #[.int .i64 0, .int .i64 0] 41)) Try.prog 3 (plainElem (H := Unit) Try.prog 3)
    simpa using h)
  have mk := ml 8 (by decide)
  rw [show mostF 8 = (200, true) from rfl] at mk
  have HB8 := Lib.hid (show Below w.heap.size w w8 from (blw_alloc (blw_alloc HB5.out _) _).trans (hM.2.2.mono (by have := HB5.out.size; omega)))
  have e0 : w8.heap[w.heap.size]? = w5.heap[w.heap.size]? := (hM.1 _ (by omega)).trans ((Below.heap_alloc _ _ _ (by simp; omega)).trans (Below.heap_alloc _ _ _ (by omega)))
  have cc : ∀ i, w8.cell? ⟨w.heap.size, i, none⟩ = w5.cell? ⟨w.heap.size, i, none⟩ := fun i => by unfold World.cell?; rw [e0]
  have b0 := (cc 0).trans a0
  have b1 := (cc 1).trans a1
  have b2 := (cc 2).trans a2
  have b3 := (cc 3).trans a3
  have b0_ := Lib.cell?_alloc_some (.map #[] 0) b0
  have b3_ := Lib.cell?_alloc_some (.map #[] 0) b3
  clear ml hM e0 cc
  by_cases q : (l.length : Int) > 200
  · rw [if_pos q]
    have p2 : decide ((l.length : Int) > 200) = true := decide_eq_true q
    go_enter Try.func13, Try.ntmps13
    go_wp2_with fail
    go_ret
    exact ⟨rfl, (by repeat (first | exact HB8.out | apply blw_alloc | apply blw_drewN | apply blw_drew))⟩
  rw [if_neg q]
  have p2 : decide ((l.length : Int) > 200) = false := decide_eq_false q
  clear q
  have hu3 := Try.underlying3
  go_enter Try.func13, Try.ntmps13
  go_wp2_with fail
  obtain ⟨w9, hw9⟩ : ∃ w9, w9 = w8.alloc (.map #[] 0) := ⟨_, rfl⟩
  have HB9 : Hid (Below w.heap.size w w9) := Lib.hid (by rw [hw9]; exact blw_alloc HB8.out _)
  have HK9 : Hid (w9.cell? ⟨w.heap.size, 0, none⟩ = some (.int .i64 8)) := Lib.hid (by rw [hw9]; exact b0_)
  rw [← hw9]
  clear hw9 r1 r2 r3 r4 r5 rk m1 m2 m3 mk a0 a1 a2 a3 a0_ a1_ a2_ a3_ b0 b1 b2 b3 b0_ b3_ p0 p1 p2 hs4 hlt5 hmk
  have hl64 : l.length ≤ 9223372036854775807 := HC.out.2.1
  go_loopw [136] (fun i wr => ∃ (j : Nat), j ≤ l.length ∧ i = .int .i64 j ∧ lstGo l = lstGo (l.drop j) ∧ Hid (Below w.heap.size w wr) ∧ Hid (wr.cell? ⟨w.heap.size, 0, none⟩ = some (.int .i64 8))) (fun i _ => l.length - (intOf i).toNat)
  case atStart => exact ⟨0, Nat.zero_le _, rfl, rfl, HB9, HK9⟩
  case round =>
    obtain ⟨j, hj, rfl, hp, HB, HKC⟩ := hrel
    have HP := Lib.hid hp
    clear hp
    by_cases hlt : j < l.length
    · obtain ⟨ad, A4, c4, hA, x0, x1, x2, x3, x4, hl4, hC4⟩ := at_T36 HC.out (j : Int) (by omega) (by omega)
      subst hA
      replace x0 := pw_cell_below HB.out x0
      replace x1 := pw_cell_below HB.out x1
      replace x2 := pw_cell_below HB.out x2
      replace x3 := pw_cell_below HB.out x3
      replace x4 := pw_cell_below HB.out x4
      rw [rd_getP l j hlt] at x0 x1 x2 x3 x4 hl4 hC4
      simp only [Int.toNat_natCast] at x0 x1 x2 x3 x4
      have HST := Lib.hid (lstGo_step l j hlt)
      generalize l[j] = f at *
      clear hl4 hC4
      go_upto_region 19 with (fail)
      obtain ⟨W1, hW1⟩ : ∃ W1, W1 = wr.alloc (.cells #[.string f.f0, .int .i64 f.f1.f0, .int .i64 f.f1.f1, .string f.f1.f2, .slice A4 f.f1.f3.length c4] 36) := ⟨_, rfl⟩
      obtain ⟨eb, heb⟩ : ∃ eb, eb = wr.heap.size := ⟨_, rfl⟩
      rw [← heb, ← hW1]
      have hE : W1.heap[eb]? = some (.cells #[.string f.f0, .int .i64 f.f1.f0, .int .i64 f.f1.f1, .string f.f1.f2, .slice A4 f.f1.f3.length c4] 36 (0, 0)) := by rw [hW1, heb]; exact heap_alloc_new wr _
      have hb1 : Below wr.heap.size wr W1 := by rw [hW1]; exact blw_alloc (Below.refl _ _) _
      have hK1 := pw_cell_below hb1 HKC.out
      have HK1 := Lib.hid hK1
      have HB1 := Lib.hid (HB.out.trans (hb1.mono HB.out.size))
      clear hW1 heb x0 x1 x2 x3 x4 hb1 HB HKC
      have e0 := (blk_cell hE 0).trans rfl
      clear hE
      by_cases q : f.f0.toList.isEmpty = false
      · have HV : Hid (lstGo (l.drop j) = 3) := Lib.hid (by rw [HST.out, if_pos q])
        clear HST
        go_wp2_with fail
        go_ret
        exact ⟨by rw [HP.out, HV.out]; try rfl, HB1.out⟩
      · have HV : Hid (lstGo (l.drop j) = lstGo (l.drop (j + 1))) := Lib.hid (by rw [HST.out, if_neg q])
        have q2 : f.f0.toList.isEmpty = true := by simpa using q
        clear HST q
        go_wp2_with fail
        go_roundw
        case rel => exact ⟨j + 1, by omega, by go_num, by rw [HP.out, HV.out], HB1, HK1⟩
        case measure => simp [intOf]; omega
    · obtain rfl : j = l.length := by omega
      go_wp2_with fail
      go_ret
      exact ⟨by rw [HP.out, List.drop_length]; try rfl, HB.out⟩
set_option maxHeartbeats 8000000 in
set_option maxRecDepth 1000000 in
theorem node_9 (nf : ByteArray → Bool) (NM : ∀ (s : ByteArray) (w : World), Calls Try.prog 18 #[.string s] w fun e w' => e = .returned (.bool (nf s)) ∧ Below w.heap.size w w') (NS : ∀ s, nf s = true → s.size ≤ 16)
    (n : Int) (s : ByteArray) (A : Option Addr) (l : List S36) (c : Nat) (first : Bool) (w : World) (hC : Kd.C k36 w A l.length l) (hc : l.length ≤ c) (hl : l.length ≤ 1000000000000) :
    Calls Try.prog 13 #[.agg #[.int .i64 9, .int .i64 n, .string s, .slice A l.length c], .bool first] w (Ret0 (if n ≠ 0 then 3 else (if s.toList.isEmpty = false then 3 else (if (l.length : Int) > 200 then 2 else (mapGo 0 ⟨#[]⟩ l)))) w) := by
  have HC := Lib.hid hC
  have HCC := Lib.hid hc
  have HL := Lib.hid hl
  have HNM := Lib.hid NM
  have HNS := Lib.hid NS
  clear hC hc hl NM NS
  have hu24 := Try.underlying24
  have hu36 := Try.underlying36
  have hu41 := Try.underlying41
  have hmk : ∀ (t : TypeId) (W : World), (Instr.makeMap t none).run Try.prog W = .ok (.map (some W.heap.size)) (W.alloc (.map #[] 0)) := fun t W => run_makeMap t W
  obtain ⟨w1, w2, w3, w4, w5, r1, r2, r3, r4, r5, hl, hB⟩ := num_chain ((w.alloc (.cells #[.int .i64 9, .int .i64 n, .string s, .slice A l.length c] 24)).alloc (.map #[] 0)) (w.heap.size + 1) (by
    have h := World.ownsMap_made (w.alloc (.cells #[.int .i64 9, .int .i64 n, .string s, .slice A l.length c] 24)) Try.prog 3 pairR
    simpa using h)
  have rk := hl 9 (by decide)
  rw [show numF 9 = (0, 0, false) from rfl] at rk
  clear hl
  have hlt5 : w.heap.size + 1 < w5.heap.size := by rw [hB.2.1]; first | (simp; done) | (simp; omega)
  have blk0 : w5.heap[w.heap.size]? = some (.cells #[.int .i64 9, .int .i64 n, .string s, .slice A l.length c] 24 (0, 0)) :=
    (hB.1 _ (by omega)).trans ((Below.heap_alloc _ _ _ (by simp)).trans (heap_alloc_new w _))
  have HB5 := Lib.hid (show Below w.heap.size w w5 from (blw_alloc (blw_alloc (Below.refl _ _) _) _).trans (hB.2.2.mono (by omega)))
  have a0 := (blk_cell blk0 0).trans rfl
  have a1 := (blk_cell blk0 1).trans rfl
  have a2 := (blk_cell blk0 2).trans rfl
  have a3 := (blk_cell blk0 3).trans rfl
  have a0_ := Lib.cell?_alloc_some (.cells #[.int .i64 0, .int .i64 0] 41) a0
  have a1_ := Lib.cell?_alloc_some (.cells #[.int .i64 0, .int .i64 0] 41) a1
  have a2_ := Lib.cell?_alloc_some (.cells #[.int .i64 0, .int .i64 0] 41) a2
  have a3_ := Lib.cell?_alloc_some (.cells #[.int .i64 0, .int .i64 0] 41) a3
  clear blk0 hB
  by_cases q : n ≠ 0
  · rw [if_pos q]
    have p0 : (n != 0) = true := by rw [bne_iff_ne]; exact q
    go_enter Try.func13, Try.ntmps13
    go_wp2_with fail
    go_ret
    exact ⟨rfl, (by repeat (first | exact HB5.out | apply blw_alloc | apply blw_drewN | apply blw_drew))⟩
  rw [if_neg q]
  have p0 : (n != 0) = false := by rw [bne_eq_false_iff_eq]; exact Decidable.not_not.1 q
  clear q
  by_cases q : s.toList.isEmpty = false
  · rw [if_pos q]
    have p1 : s.toList.isEmpty = false := q
    go_enter Try.func13, Try.ntmps13
    go_wp2_with fail
    go_ret
    exact ⟨rfl, (by repeat (first | exact HB5.out | apply blw_alloc | apply blw_drewN | apply blw_drew))⟩
  rw [if_neg q]
  have p1 : s.toList.isEmpty = true := by simpa using q
  clear q
  have hs0 : s = ⟨#[]⟩ := by
    have := List.isEmpty_iff.1 p1
    apply lb_ext; rw [← lb_toList, this]
  have hs4 : decide ((s.size : Int) > 4000) = false := by rw [hs0]; rfl
  clear hs0
  obtain ⟨w6, w7, w8, m1, m2, m3, ml, hM⟩ := most_chain ((w5.alloc (.cells #[.int .i64 0, .int .i64 0] 41)).alloc (.map #[] 0)) (w5.heap.size + 1) (by
    have h := World.ownsMap_made (w5.alloc (.cells #[.int .i64 0, .int .i64 0] 41)) Try.prog 3 (plainElem (H := Unit) Try.prog 3)
    simpa using h)
  have mk := ml 9 (by decide)
  rw [show mostF 9 = (200, true) from rfl] at mk
  have HB8 := Lib.hid (show Below w.heap.size w w8 from (blw_alloc (blw_alloc HB5.out _) _).trans (hM.2.2.mono (by have := HB5.out.size; omega)))
  have e0 : w8.heap[w.heap.size]? = w5.heap[w.heap.size]? := (hM.1 _ (by omega)).trans ((Below.heap_alloc _ _ _ (by simp; omega)).trans (Below.heap_alloc _ _ _ (by omega)))
  have cc : ∀ i, w8.cell? ⟨w.heap.size, i, none⟩ = w5.cell? ⟨w.heap.size, i, none⟩ := fun i => by unfold World.cell?; rw [e0]
  have b0 := (cc 0).trans a0
  have b1 := (cc 1).trans a1
  have b2 := (cc 2).trans a2
  have b3 := (cc 3).trans a3
  have b0_ := Lib.cell?_alloc_some (.map #[] 0) b0
  have b3_ := Lib.cell?_alloc_some (.map #[] 0) b3
  clear ml hM e0 cc
  by_cases q : (l.length : Int) > 200
  · rw [if_pos q]
    have p2 : decide ((l.length : Int) > 200) = true := decide_eq_true q
    go_enter Try.func13, Try.ntmps13
    go_wp2_with fail
    go_ret
    exact ⟨rfl, (by repeat (first | exact HB8.out | apply blw_alloc | apply blw_drewN | apply blw_drew))⟩
  rw [if_neg q]
  have p2 : decide ((l.length : Int) > 200) = false := decide_eq_false q
  clear q
  have hu3 := Try.underlying3
  go_enter Try.func13, Try.ntmps13
  go_wp2_with fail
  obtain ⟨w9, hw9⟩ : ∃ w9, w9 = w8.alloc (.map #[] 0) := ⟨_, rfl⟩
  have HB9 : Hid (Below w.heap.size w w9) := Lib.hid (by rw [hw9]; exact blw_alloc HB8.out _)
  have HK9 : Hid (w9.cell? ⟨w.heap.size, 0, none⟩ = some (.int .i64 9)) := Lib.hid (by rw [hw9]; exact b0_)
  rw [← hw9]
  clear hw9 r1 r2 r3 r4 r5 rk m1 m2 m3 mk a0 a1 a2 a3 a0_ a1_ a2_ a3_ b0 b1 b2 b3 b0_ b3_ p0 p1 p2 hs4 hlt5 hmk
  have hl64 : l.length ≤ 9223372036854775807 := HC.out.2.1
  go_loopw [13, 136] (fun q i wr => ∃ (j : Nat) (last : ByteArray), j ≤ l.length ∧ q = .string last ∧ i = .int .i64 j ∧ mapGo 0 ⟨#[]⟩ l = mapGo j last (l.drop j) ∧ Hid (Below w.heap.size w wr) ∧ Hid (wr.cell? ⟨w.heap.size, 0, none⟩ = some (.int .i64 9))) (fun q i _ => l.length - (intOf i).toNat)
  case atStart => exact ⟨0, ⟨#[]⟩, Nat.zero_le _, rfl, rfl, rfl, HB9, HK9⟩
  case round =>
    obtain ⟨j, last, hj, rfl, rfl, hp, HB, HKC⟩ := hrel
    have HP := Lib.hid hp
    clear hp
    by_cases hlt : j < l.length
    · obtain ⟨ad, A4, c4, hA, x0, x1, x2, x3, x4, hl4, hC4⟩ := at_T36 HC.out (j : Int) (by omega) (by omega)
      subst hA
      replace x0 := pw_cell_below HB.out x0
      replace x1 := pw_cell_below HB.out x1
      replace x2 := pw_cell_below HB.out x2
      replace x3 := pw_cell_below HB.out x3
      replace x4 := pw_cell_below HB.out x4
      rw [rd_getP l j hlt] at x0 x1 x2 x3 x4 hl4 hC4
      simp only [Int.toNat_natCast] at x0 x1 x2 x3 x4
      have HST := Lib.hid (mapGo_step j last l j hlt)
      generalize l[j] = f at *
      clear hl4 hC4
      go_upto_region 19 with (fail)
      obtain ⟨W1, hW1⟩ : ∃ W1, W1 = wr.alloc (.cells #[.string f.f0, .int .i64 f.f1.f0, .int .i64 f.f1.f1, .string f.f1.f2, .slice A4 f.f1.f3.length c4] 36) := ⟨_, rfl⟩
      obtain ⟨eb, heb⟩ : ∃ eb, eb = wr.heap.size := ⟨_, rfl⟩
      rw [← heb, ← hW1]
      have hE : W1.heap[eb]? = some (.cells #[.string f.f0, .int .i64 f.f1.f0, .int .i64 f.f1.f1, .string f.f1.f2, .slice A4 f.f1.f3.length c4] 36 (0, 0)) := by rw [hW1, heb]; exact heap_alloc_new wr _
      have hb1 : Below wr.heap.size wr W1 := by rw [hW1]; exact blw_alloc (Below.refl _ _) _
      have hK1 := pw_cell_below hb1 HKC.out
      have HK1 := Lib.hid hK1
      have HB1 := Lib.hid (HB.out.trans (hb1.mono HB.out.size))
      clear hW1 heb x0 x1 x2 x3 x4 hb1 HB HKC
      have e0 := (blk_cell hE 0).trans rfl
      clear hE
      by_cases q : (f.f0.size : Int) > 4000
      · have HV : Hid (mapGo j last (l.drop j) = 2) := Lib.hid (by rw [HST.out, if_pos q])
        have q1 : decide ((f.f0.size : Int) > 4000) = true := decide_eq_true q
        clear HST
        go_wp2_with fail
        go_ret
        exact ⟨by rw [HP.out, HV.out]; try rfl, HB1.out⟩
      · have q1 : decide ((f.f0.size : Int) > 4000) = false := decide_eq_false q
        by_cases q2 : 0 < j
        · have q3 : decide ((j : Int) > 0) = true := decide_eq_true (by omega)
          by_cases q4 : Op.bytesLess last.toList f.f0.toList = false
          · have HV : Hid (mapGo j last (l.drop j) = 9) := Lib.hid (by rw [HST.out, if_neg q, if_pos ⟨q2, q4⟩])
            clear HST q
            go_wp2_with fail
            go_ret
            exact ⟨by rw [HP.out, HV.out]; try rfl, HB1.out⟩
          · have HV : Hid (mapGo j last (l.drop j) = mapGo (j + 1) f.f0 (l.drop (j + 1))) := Lib.hid (by rw [HST.out, if_neg q, if_neg (fun z => q4 z.2)])
            have q5 : Op.bytesLess last.toList f.f0.toList = true := by simpa using q4
            clear HST q q4
            go_wp2_with fail
            go_roundw
            case rel => exact ⟨j + 1, f.f0, by omega, rfl, by go_num, by rw [HP.out, HV.out], HB1, HK1⟩
            case measure => simp [intOf]; omega
        · have q3 : decide ((j : Int) > 0) = false := decide_eq_false (by omega)
          have HV : Hid (mapGo j last (l.drop j) = mapGo (j + 1) f.f0 (l.drop (j + 1))) := Lib.hid (by rw [HST.out, if_neg q, if_neg (fun z => q2 z.1)])
          clear HST q
          go_wp2_with fail
          go_roundw
          case rel => exact ⟨j + 1, f.f0, by omega, rfl, by go_num, by rw [HP.out, HV.out], HB1, HK1⟩
          case measure => simp [intOf]; omega
    · obtain rfl : j = l.length := by omega
      go_wp2_with fail
      go_ret
      exact ⟨by rw [HP.out, List.drop_length]; try rfl, HB.out⟩
end Go.Proofs.Yticdlpkjjokbcaa.PVal
