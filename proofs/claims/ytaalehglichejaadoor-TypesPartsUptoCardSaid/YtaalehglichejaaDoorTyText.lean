/- Contract of the reference's TypeText: a type as text. No statement is proved here. -/
import Derived.Test.YtaalehglichejaaDoorTyPart
import Derived.Test.YtaalehglichejaaDoorShelf
import Derived.Lib.ItoaLen
import Derived.Deep.RegionHeld3
namespace Go.Proofs.YtaalehglichejaaDoor.PTy
open Go.RowKit Go.Proofs.YtaalehglichejaaDoorW.PrintWords Go.Proofs.YtaalehglichejaaDoorW.PrintLast
set_option linter.unusedVariables false
set_option linter.unusedSimpArgs false
abbrev Tab (W : World) : Prop := Lib.TabIs Tryd.prog W "internal/strconv.uint64pow10" .u64 Lib.pow10Tab
theorem Tab.below {w w' : World} (h : Tab w) (hb : Below w.heap.size w w') : Tab w' := by
  unfold Tab Lib.TabIs World.var? at h ⊢
  have hg : Tryd.prog.globalNamed "internal/strconv.uint64pow10" = some 0 := by kernel_rfl
  rw [hg] at h ⊢
  simp only [Option.bind_some] at h ⊢
  have hlt : 0 < w.heap.size := by
    rcases Nat.lt_or_ge 0 w.heap.size with q | q
    · exact q
    · rw [Array.getElem?_eq_none q] at h; simp at h
  rw [hb.block 0 hlt]; exact h
theorem below_grow (w : World) (k : Nat) (os : Array Obj) : Below w.heap.size w (Sort.grow (w.drewN k) os) := by
  refine ⟨rfl, rfl, rfl, by simp [Sort.grow], fun i hi => ?_⟩
  simp [Sort.grow, Array.getElem?_append, hi]
/-- A whole number as text. -/
def itoaB (n : Int) : ByteArray := ⟨(Lib.itoa n).toArray⟩
theorem itoa_c (n : Int) (w : World) (ht : Tab w) (h0 : -9223372036854775808 ≤ n) (h1 : n ≤ 9223372036854775807) : Calls Tryd.prog 14 #[.int .i64 n] w fun e w' => e = .returned (.string (itoaB n)) ∧ Below w.heap.size w w' := by
  refine (Tryd.strconv_Itoa n h0 h1 w ht).mono ?_
  rintro e w' ⟨rfl, k, os, rfl⟩
  exact ⟨rfl, below_grow w k os⟩
theorem itoaB_len (n : Int) (h0 : -9223372036854775808 ≤ n) (h1 : n ≤ 9223372036854775807) : (itoaB n).size ≤ 21 := by
  have h := Lib.itoa_length_le n h0 h1
  unfold itoaB
  rw [← lb_len, lb_mk]; exact h
/-- A string behind its length. -/
def quo (s : ByteArray) : ByteArray := itoaB s.size ++ ⟨#[58]⟩ ++ s
set_option maxHeartbeats 2000000 in
set_option maxRecDepth 100000 in
theorem quo_c (s : ByteArray) (w : World) (ht : Tab w) (hs : s.size ≤ 1000000000000) : Calls Tryd.prog 13 #[.string s] w fun e w' => e = .returned (.string (quo s)) ∧ Below w.heap.size w w' := by
  have hI := itoaB_len (s.size : Int) (by omega) (by omega)
  have HIT := Lib.hid (itoa_c (s.size : Int) w ht (by omega) (by omega))
  have HQ : Hid (quo s = itoaB s.size ++ ⟨#[58]⟩ ++ s) := Lib.hid rfl
  generalize itoaB (s.size : Int) = I at *
  have k1 : (9223372036854775807 < I.size + 1) = False := eq_false (by omega)
  have k2 : (9223372036854775807 < I.size + 1 + s.size) = False := eq_false (by omega)
  clear hI hs ht
  go_enter Tryd.func13, Tryd.ntmps13
  go_wp2_with (go_at_call 14; refine HIT.out.mono ?_; rintro e w1 ⟨rfl, hb⟩; have HB := Lib.hid hb; clear hb)
  go_ret
  exact ⟨by rw [HQ.out]; try rfl, HB.out⟩
/-- The front of a type's text: what stands before its parts. -/
def hd (x : S24g S29) : ByteArray := itoaB x.f0 ++ ⟨#[32]⟩ ++ itoaB x.f2 ++ ⟨#[32]⟩ ++ itoaB x.f3 ++ ⟨#[32]⟩ ++ quo x.f1 ++ quo x.f4 ++ ⟨#[40]⟩
mutual
/-- A type's text. -/
def txV : S24g S29 → List UInt8
  | ⟨k, nm, lo, hi, pt, fs⟩ => lb (itoaB k ++ ⟨#[32]⟩ ++ itoaB lo ++ ⟨#[32]⟩ ++ itoaB hi ++ ⟨#[32]⟩ ++ quo nm ++ quo pt ++ ⟨#[40]⟩) ++ (txFs fs ++ [41])
def txF : S29 → List UInt8
  | ⟨s, v⟩ => lb (quo s) ++ txV v
def txFs : List S29 → List UInt8
  | [] => []
  | f :: t => txF f ++ txFs t
end
theorem txV_eq (x : S24g S29) : txV x = lb (hd x) ++ (txFs x.f5 ++ [41]) := by cases x; rfl
theorem txF_eq (f : S29) : txF f = lb (quo f.f0) ++ txV f.f1 := by cases f; rfl
theorem txFs_step (l : List S29) (j : Nat) (h : j < l.length) : txFs (l.drop j) = txF l[j] ++ txFs (l.drop (j + 1)) := by
  rw [List.drop_eq_getElem_cons h]; rfl
mutual
/-- All numbers are ints. -/
def rgV : S24g S29 → Prop
  | ⟨k, _, lo, hi, _, fs⟩ => ((Lit.int .i64 k).wf = true ∧ (Lit.int .i64 lo).wf = true ∧ (Lit.int .i64 hi).wf = true) ∧ rgFs fs
def rgF : S29 → Prop
  | ⟨_, v⟩ => rgV v
def rgFs : List S29 → Prop
  | [] => True
  | f :: t => rgF f ∧ rgFs t
end
theorem rgV_eq (x : S24g S29) : rgV x = (((Lit.int .i64 x.f0).wf = true ∧ (Lit.int .i64 x.f2).wf = true ∧ (Lit.int .i64 x.f3).wf = true) ∧ rgFs x.f5) := by cases x; rfl
theorem rgF_eq (f : S29) : rgF f = rgV f.f1 := by cases f; rfl
theorem rgFs_mem {l : List S29} (h : rgFs l) {f : S29} (hf : f ∈ l) : rgF f := by
  induction l with
  | nil => cases hf
  | cons a t ih =>
    rcases List.mem_cons.1 hf with q | q
    · rw [q]; exact h.1
    · exact ih h.2 q
theorem quo_len (s : ByteArray) (hs : s.size ≤ 9223372036854775807) : s.size ≤ (quo s).size ∧ (quo s).size ≤ s.size + 22 := by
  have h := itoaB_len (s.size : Int) (by omega) (by omega)
  unfold quo
  rw [ByteArray.size_append, ByteArray.size_append]
  have : (⟨#[58]⟩ : ByteArray).size = 1 := rfl
  omega
def TextAt (x : S24g S29) : Prop := ∀ (A : Option Addr) (c : Nat) (w : World), Tab w → Kd.C k29 w A x.f5.length x.f5 → x.f5.length ≤ c → rgV x → (txV x).length ≤ 1000000000000 →
  Calls Tryd.prog 8 #[.agg #[.int .i64 x.f0, .string x.f1, .int .i64 x.f2, .int .i64 x.f3, .string x.f4, .slice A x.f5.length c]] w fun e w' => e = .returned (.string ⟨(txV x).toArray⟩) ∧ Below w.heap.size w w'
theorem keptC {w1 w2 : World} (hb : Below w1.heap.size w1 w2) {b o : Nat} {v : Value} (h : w1.cell? ⟨b, o, none⟩ = some v) : w2.cell? ⟨b, o, none⟩ = some v := pw_cell_below hb h
theorem sx_keep {w : World} {gb : Nat} {x : S24g S29} {A : Option Addr} {c : Nat} {wi wj : World} (h : wi.cell? ⟨gb, 0, none⟩ = some (.int .i64 x.f0) ∧ wi.cell? ⟨gb, 1, none⟩ = some (.string x.f1) ∧ wi.cell? ⟨gb, 2, none⟩ = some (.int .i64 x.f2) ∧ wi.cell? ⟨gb, 3, none⟩ = some (.int .i64 x.f3) ∧ wi.cell? ⟨gb, 4, none⟩ = some (.string x.f4) ∧ wi.cell? ⟨gb, 5, none⟩ = some (.slice A x.f5.length c) ∧ Hid (Below w.heap.size w wi) ∧ Hid (Tab wi)) (hb : Below wi.heap.size wi wj) : wj.cell? ⟨gb, 0, none⟩ = some (.int .i64 x.f0) ∧ wj.cell? ⟨gb, 1, none⟩ = some (.string x.f1) ∧ wj.cell? ⟨gb, 2, none⟩ = some (.int .i64 x.f2) ∧ wj.cell? ⟨gb, 3, none⟩ = some (.int .i64 x.f3) ∧ wj.cell? ⟨gb, 4, none⟩ = some (.string x.f4) ∧ wj.cell? ⟨gb, 5, none⟩ = some (.slice A x.f5.length c) ∧ Hid (Below w.heap.size w wj) ∧ Hid (Tab wj) := by
  obtain ⟨h0, h1, h2, h3, h4, h5, h6, h7⟩ := h
  exact ⟨keptC hb h0, keptC hb h1, keptC hb h2, keptC hb h3, keptC hb h4, keptC hb h5, Lib.hid (h6.out.trans (hb.mono h6.out.size)), Lib.hid (h7.out.below hb)⟩
theorem sx_tab {w : World} {gb : Nat} {x : S24g S29} {A : Option Addr} {c : Nat} {wi : World} (h : wi.cell? ⟨gb, 0, none⟩ = some (.int .i64 x.f0) ∧ wi.cell? ⟨gb, 1, none⟩ = some (.string x.f1) ∧ wi.cell? ⟨gb, 2, none⟩ = some (.int .i64 x.f2) ∧ wi.cell? ⟨gb, 3, none⟩ = some (.int .i64 x.f3) ∧ wi.cell? ⟨gb, 4, none⟩ = some (.string x.f4) ∧ wi.cell? ⟨gb, 5, none⟩ = some (.slice A x.f5.length c) ∧ Hid (Below w.heap.size w wi) ∧ Hid (Tab wi)) : Tab wi := by
  obtain ⟨_, _, _, _, _, _, _, h7⟩ := h
  exact h7.out
theorem sf_tab {w : World} {eb : Nat} {f : S29} {A6 : Option Addr} {c6 : Nat} {wi : World} (h : wi.cell? ⟨eb, 0, none⟩ = some (.string f.f0) ∧ wi.cell? ⟨eb, 1, none⟩ = some (.int .i64 f.f1.f0) ∧ wi.cell? ⟨eb, 2, none⟩ = some (.string f.f1.f1) ∧ wi.cell? ⟨eb, 3, none⟩ = some (.int .i64 f.f1.f2) ∧ wi.cell? ⟨eb, 4, none⟩ = some (.int .i64 f.f1.f3) ∧ wi.cell? ⟨eb, 5, none⟩ = some (.string f.f1.f4) ∧ wi.cell? ⟨eb, 6, none⟩ = some (.slice A6 f.f1.f5.length c6) ∧ Hid (Below w.heap.size w wi) ∧ Hid (Tab wi)) : Tab wi := by
  obtain ⟨_, _, _, _, _, _, _, _, h7⟩ := h
  exact h7.out
theorem sf_bel {w : World} {eb : Nat} {f : S29} {A6 : Option Addr} {c6 : Nat} {wi : World} (h : wi.cell? ⟨eb, 0, none⟩ = some (.string f.f0) ∧ wi.cell? ⟨eb, 1, none⟩ = some (.int .i64 f.f1.f0) ∧ wi.cell? ⟨eb, 2, none⟩ = some (.string f.f1.f1) ∧ wi.cell? ⟨eb, 3, none⟩ = some (.int .i64 f.f1.f2) ∧ wi.cell? ⟨eb, 4, none⟩ = some (.int .i64 f.f1.f3) ∧ wi.cell? ⟨eb, 5, none⟩ = some (.string f.f1.f4) ∧ wi.cell? ⟨eb, 6, none⟩ = some (.slice A6 f.f1.f5.length c6) ∧ Hid (Below w.heap.size w wi) ∧ Hid (Tab wi)) : Below w.heap.size w wi := by
  obtain ⟨_, _, _, _, _, _, _, h6, _⟩ := h
  exact h6.out
theorem sf_keep {w : World} {eb : Nat} {f : S29} {A6 : Option Addr} {c6 : Nat} {wi wj : World} (h : wi.cell? ⟨eb, 0, none⟩ = some (.string f.f0) ∧ wi.cell? ⟨eb, 1, none⟩ = some (.int .i64 f.f1.f0) ∧ wi.cell? ⟨eb, 2, none⟩ = some (.string f.f1.f1) ∧ wi.cell? ⟨eb, 3, none⟩ = some (.int .i64 f.f1.f2) ∧ wi.cell? ⟨eb, 4, none⟩ = some (.int .i64 f.f1.f3) ∧ wi.cell? ⟨eb, 5, none⟩ = some (.string f.f1.f4) ∧ wi.cell? ⟨eb, 6, none⟩ = some (.slice A6 f.f1.f5.length c6) ∧ Hid (Below w.heap.size w wi) ∧ Hid (Tab wi)) (hb : Below wi.heap.size wi wj) : wj.cell? ⟨eb, 0, none⟩ = some (.string f.f0) ∧ wj.cell? ⟨eb, 1, none⟩ = some (.int .i64 f.f1.f0) ∧ wj.cell? ⟨eb, 2, none⟩ = some (.string f.f1.f1) ∧ wj.cell? ⟨eb, 3, none⟩ = some (.int .i64 f.f1.f2) ∧ wj.cell? ⟨eb, 4, none⟩ = some (.int .i64 f.f1.f3) ∧ wj.cell? ⟨eb, 5, none⟩ = some (.string f.f1.f4) ∧ wj.cell? ⟨eb, 6, none⟩ = some (.slice A6 f.f1.f5.length c6) ∧ Hid (Below w.heap.size w wj) ∧ Hid (Tab wj) := by
  obtain ⟨h0, h1, h2, h3, h4, h5, h5', h6, h7⟩ := h
  exact ⟨keptC hb h0, keptC hb h1, keptC hb h2, keptC hb h3, keptC hb h4, keptC hb h5, keptC hb h5', Lib.hid (h6.out.trans (hb.mono h6.out.size)), Lib.hid (h7.out.below hb)⟩
set_option maxHeartbeats 8000000 in
set_option maxRecDepth 1000000 in
theorem text_step (x : S24g S29) (IH : Hid (∀ f ∈ x.f5, TextAt f.f1)) : TextAt x := by
  intro A c w ht hC hc hr hl
  have HTV := Lib.hid (txV_eq x)
  rw [txV_eq] at hl
  rw [rgV_eq] at hr
  obtain ⟨⟨r0, r2, r3⟩, rfs⟩ := hr
  obtain ⟨r0a, r0b⟩ := i64_of_wf r0
  obtain ⟨r2a, r2b⟩ := i64_of_wf r2
  obtain ⟨r3a, r3b⟩ := i64_of_wf r3
  have n0 := itoaB_len x.f0 r0a r0b
  have n2 := itoaB_len x.f2 r2a r2b
  have n3 := itoaB_len x.f3 r3a r3b
  simp only [List.length_append, lb_len] at hl
  have hh : (hd x).size = (itoaB x.f0).size + 1 + (itoaB x.f2).size + 1 + (itoaB x.f3).size + 1 + (quo x.f1).size + (quo x.f4).size + 1 := by unfold hd; simp only [ByteArray.size_append]; rfl
  have hb1 : x.f1.size ≤ (quo x.f1).size := by unfold quo; simp only [ByteArray.size_append]; omega
  have hb4 : x.f4.size ≤ (quo x.f4).size := by unfold quo; simp only [ByteArray.size_append]; omega
  have k0 : (9223372036854775807 < (itoaB x.f0).size + 1) = False := eq_false (by omega)
  have k1 : (9223372036854775807 < (itoaB x.f0).size + 1 + (itoaB x.f2).size) = False := eq_false (by omega)
  have k2 : (9223372036854775807 < (itoaB x.f0).size + 1 + (itoaB x.f2).size + 1) = False := eq_false (by omega)
  have k3 : (9223372036854775807 < (itoaB x.f0).size + 1 + (itoaB x.f2).size + 1 + (itoaB x.f3).size) = False := eq_false (by omega)
  have k4 : (9223372036854775807 < (itoaB x.f0).size + 1 + (itoaB x.f2).size + 1 + (itoaB x.f3).size + 1) = False := eq_false (by omega)
  have k5 : (9223372036854775807 < (itoaB x.f0).size + 1 + (itoaB x.f2).size + 1 + (itoaB x.f3).size + 1 + (quo x.f1).size) = False := eq_false (by omega)
  have k6 : (9223372036854775807 < (itoaB x.f0).size + 1 + (itoaB x.f2).size + 1 + (itoaB x.f3).size + 1 + (quo x.f1).size + (quo x.f4).size) = False := eq_false (by omega)
  have k7 : (9223372036854775807 < (itoaB x.f0).size + 1 + (itoaB x.f2).size + 1 + (itoaB x.f3).size + 1 + (quo x.f1).size + (quo x.f4).size + 1) = False := eq_false (by omega)
  have I0 := Lib.hid (fun W (h : Tab W) => itoa_c x.f0 W h r0a r0b)
  have I2 := Lib.hid (fun W (h : Tab W) => itoa_c x.f2 W h r2a r2b)
  have I3 := Lib.hid (fun W (h : Tab W) => itoa_c x.f3 W h r3a r3b)
  have Q1 := Lib.hid (fun W (h : Tab W) => quo_c x.f1 W h (by omega))
  have Q4 := Lib.hid (fun W (h : Tab W) => quo_c x.f4 W h (by omega))
  have HC := Lib.hid hC
  have HCC := Lib.hid hc
  have HL := Lib.hid hl
  have HR := Lib.hid rfs
  have HT := Lib.hid ht
  have HHD : Hid (hd x = itoaB x.f0 ++ ⟨#[32]⟩ ++ itoaB x.f2 ++ ⟨#[32]⟩ ++ itoaB x.f3 ++ ⟨#[32]⟩ ++ quo x.f1 ++ quo x.f4 ++ ⟨#[40]⟩) := Lib.hid rfl
  clear hC hc hl rfs ht r0 r2 r3 r0a r0b r2a r2b r3a r3b n0 n2 n3 hh hb1 hb4
  have hu24 := Tryd.underlying24
  have hu29 := Tryd.underlying29
  go_enter Tryd.func8, Tryd.ntmps8
  go_upto_region 2 with (fail)
  obtain ⟨gb, hgb⟩ : ∃ gb, gb = w.heap.size := ⟨_, rfl⟩
  obtain ⟨w2, hw2⟩ : ∃ w2, w2 = w.alloc (.cells #[.int .i64 x.f0, .string x.f1, .int .i64 x.f2, .int .i64 x.f3, .string x.f4, .slice A x.f5.length c] 24) := ⟨_, rfl⟩
  rw [← hgb, ← hw2]
  have blkT : w2.heap[gb]? = some (.cells #[.int .i64 x.f0, .string x.f1, .int .i64 x.f2, .int .i64 x.f3, .string x.f4, .slice A x.f5.length c] 24 (0, 0)) := by rw [hw2, hgb]; exact heap_alloc_new w _
  have hB2 : Below w.heap.size w w2 := by rw [hw2]; exact blw_alloc (Below.refl _ _) _
  have HS0 : w2.cell? ⟨gb, 0, none⟩ = some (.int .i64 x.f0) ∧ w2.cell? ⟨gb, 1, none⟩ = some (.string x.f1) ∧ w2.cell? ⟨gb, 2, none⟩ = some (.int .i64 x.f2) ∧ w2.cell? ⟨gb, 3, none⟩ = some (.int .i64 x.f3) ∧ w2.cell? ⟨gb, 4, none⟩ = some (.string x.f4) ∧ w2.cell? ⟨gb, 5, none⟩ = some (.slice A x.f5.length c) ∧ Hid (Below w.heap.size w w2) ∧ Hid (Tab w2) := ⟨(blk_cell blkT 0).trans rfl, (blk_cell blkT 1).trans rfl, (blk_cell blkT 2).trans rfl, (blk_cell blkT 3).trans rfl, (blk_cell blkT 4).trans rfl, (blk_cell blkT 5).trans rfl, Lib.hid hB2, Lib.hid (HT.out.below hB2)⟩
  have HSD : w2.drew.cell? ⟨gb, 0, none⟩ = some (.int .i64 x.f0) ∧ w2.drew.cell? ⟨gb, 1, none⟩ = some (.string x.f1) ∧ w2.drew.cell? ⟨gb, 2, none⟩ = some (.int .i64 x.f2) ∧ w2.drew.cell? ⟨gb, 3, none⟩ = some (.int .i64 x.f3) ∧ w2.drew.cell? ⟨gb, 4, none⟩ = some (.string x.f4) ∧ w2.drew.cell? ⟨gb, 5, none⟩ = some (.slice A x.f5.length c) ∧ Hid (Below w.heap.size w w2.drew) ∧ Hid (Tab w2.drew) := sx_keep HS0 (blw_drew (Below.refl _ _))
  have HGB := Lib.hid hgb
  clear hw2 blkT hB2 HS0 hgb
  go_region_held3 (fun w' => w'.cell? ⟨gb, 0, none⟩ = some (.int .i64 x.f0) ∧ w'.cell? ⟨gb, 1, none⟩ = some (.string x.f1) ∧ w'.cell? ⟨gb, 2, none⟩ = some (.int .i64 x.f2) ∧ w'.cell? ⟨gb, 3, none⟩ = some (.int .i64 x.f3) ∧ w'.cell? ⟨gb, 4, none⟩ = some (.string x.f4) ∧ w'.cell? ⟨gb, 5, none⟩ = some (.slice A x.f5.length c) ∧ Hid (Below w.heap.size w w') ∧ Hid (Tab w')) (first | assumption | exact sx_keep (by assumption) (by assumption)) (first | (go_at_call_of 14 (Value.int .i64 x.f0); refine (I0.out _ (sx_tab (by assumption))).mono ?_; rintro e w1 ⟨rfl, hb⟩) | (go_at_call_of 14 (Value.int .i64 x.f2); refine (I2.out _ (sx_tab (by assumption))).mono ?_; rintro e w1 ⟨rfl, hb⟩) | (go_at_call_of 14 (Value.int .i64 x.f3); refine (I3.out _ (sx_tab (by assumption))).mono ?_; rintro e w1 ⟨rfl, hb⟩) | (go_at_call_of 13 (Value.string x.f1); refine (Q1.out _ (sx_tab (by assumption))).mono ?_; rintro e w1 ⟨rfl, hb⟩) | (go_at_call_of 13 (Value.string x.f4); refine (Q4.out _ (sx_tab (by assumption))).mono ?_; rintro e w1 ⟨rfl, hb⟩))
  rename_i hh
  obtain ⟨-, -, -, -, -, d5, HB1, HT1⟩ := hh
  rw [← HHD.out]
  clear hb HSD k0 k1 k2 k3 k4 k5 k6 k7
  have hl64 : x.f5.length ≤ 9223372036854775807 := HC.out.2.1
  generalize hd x = H0 at *
  generalize x.f5 = l at *
  go_wp2_with fail
  go_loopw [4, 35] (fun o i wr => ∃ (j : Nat) (S : ByteArray), j ≤ l.length ∧ o = .string S ∧ i = .int .i64 j ∧ lb S ++ txFs (l.drop j) = lb H0 ++ txFs l ∧ Below w.heap.size w wr ∧ Hid (Tab wr)) (fun o i _ => l.length - (intOf i).toNat)
  case atStart => exact ⟨0, H0, by omega, rfl, rfl, rfl, HB1.out, HT1⟩
  case round =>
    obtain ⟨j, S, hj, rfl, rfl, hp, hb, HTR⟩ := hrel
    have HB := Lib.hid hb
    have HP := Lib.hid hp
    clear hb
    have hlen : S.size + (txFs (l.drop j)).length = H0.size + (txFs l).length := by
      have := congrArg List.length hp
      simp only [List.length_append, lb_len] at this; exact this
    have hl2 := HL.out
    simp only [List.length_cons, List.length_nil] at hl2
    clear hp
    by_cases hlt : j < l.length
    · obtain ⟨ad, A6, c6, hA, x0, x1, x2, x3, x4, x5, x6, hl6, hC6⟩ := at_T29 HC.out (j : Int) (by omega) (by omega)
      subst hA
      replace x0 := pw_cell_below HB.out x0
      replace x1 := pw_cell_below HB.out x1
      replace x2 := pw_cell_below HB.out x2
      replace x3 := pw_cell_below HB.out x3
      replace x4 := pw_cell_below HB.out x4
      replace x5 := pw_cell_below HB.out x5
      replace x6 := pw_cell_below HB.out x6
      rw [rd_get l j hlt] at x0 x1 x2 x3 x4 x5 x6 hl6 hC6
      simp only [Int.toNat_natCast] at x0 x1 x2 x3 x4 x5 x6
      have hst := txFs_step l j hlt
      have hmem : l[j] ∈ l := List.getElem_mem hlt
      generalize l[j] = f at *
      have HST := Lib.hid hst
      rw [hst, txF_eq] at hlen
      simp only [List.length_append, lb_len] at hlen
      have IHf := Lib.hid (IH.out f hmem)
      have hrf := rgFs_mem HR.out hmem
      rw [rgF_eq] at hrf
      have HRF := Lib.hid hrf
      have HC6 := Lib.hid hC6
      have HL6 := Lib.hid hl6
      have hqs : f.f0.size ≤ (quo f.f0).size := by unfold quo; simp only [ByteArray.size_append]; omega
      have HQ : Hid (f.f0.size ≤ 1000000000000) := Lib.hid (by omega)
      have HTL : Hid ((txV f.f1).length ≤ 1000000000000) := Lib.hid (by omega)
      obtain ⟨TB, hTB⟩ : ∃ TB : ByteArray, TB = ⟨(txV f.f1).toArray⟩ := ⟨_, rfl⟩
      have hTs : TB.size = (txV f.f1).length := by rw [hTB, ← lb_len, lb_mk]
      have k1 : (9223372036854775807 < (quo f.f0).size + TB.size) = False := eq_false (by omega)
      have k2 : (9223372036854775807 < S.size + ((quo f.f0).size + TB.size)) = False := eq_false (by omega)
      have HTB := Lib.hid hTB
      clear hC6 hl6 hmem hrf hst hqs hTs hTB hlen hl2
      go_upto_region 6 with (fail)
      obtain ⟨W1, hW1⟩ : ∃ W1, W1 = wr.alloc (.cells #[.string f.f0, .int .i64 f.f1.f0, .string f.f1.f1, .int .i64 f.f1.f2, .int .i64 f.f1.f3, .string f.f1.f4, .slice A6 f.f1.f5.length c6] 29) := ⟨_, rfl⟩
      obtain ⟨eb, heb⟩ : ∃ eb, eb = wr.heap.size := ⟨_, rfl⟩
      rw [← heb, ← hW1]
      have hE : W1.heap[eb]? = some (.cells #[.string f.f0, .int .i64 f.f1.f0, .string f.f1.f1, .int .i64 f.f1.f2, .int .i64 f.f1.f3, .string f.f1.f4, .slice A6 f.f1.f5.length c6] 29 (0, 0)) := by rw [hW1, heb]; exact heap_alloc_new wr _
      have hb1 : Below wr.heap.size wr W1 := by rw [hW1]; exact blw_alloc (Below.refl _ _) _
      have HS0 : W1.cell? ⟨eb, 0, none⟩ = some (.string f.f0) ∧ W1.cell? ⟨eb, 1, none⟩ = some (.int .i64 f.f1.f0) ∧ W1.cell? ⟨eb, 2, none⟩ = some (.string f.f1.f1) ∧ W1.cell? ⟨eb, 3, none⟩ = some (.int .i64 f.f1.f2) ∧ W1.cell? ⟨eb, 4, none⟩ = some (.int .i64 f.f1.f3) ∧ W1.cell? ⟨eb, 5, none⟩ = some (.string f.f1.f4) ∧ W1.cell? ⟨eb, 6, none⟩ = some (.slice A6 f.f1.f5.length c6) ∧ Hid (Below w.heap.size w W1) ∧ Hid (Tab W1) := ⟨(blk_cell hE 0).trans rfl, (blk_cell hE 1).trans rfl, (blk_cell hE 2).trans rfl, (blk_cell hE 3).trans rfl, (blk_cell hE 4).trans rfl, (blk_cell hE 5).trans rfl, (blk_cell hE 6).trans rfl, Lib.hid (HB.out.trans (hb1.mono HB.out.size)), Lib.hid (HTR.out.below hb1)⟩
      have HSD : W1.drew.cell? ⟨eb, 0, none⟩ = some (.string f.f0) ∧ W1.drew.cell? ⟨eb, 1, none⟩ = some (.int .i64 f.f1.f0) ∧ W1.drew.cell? ⟨eb, 2, none⟩ = some (.string f.f1.f1) ∧ W1.drew.cell? ⟨eb, 3, none⟩ = some (.int .i64 f.f1.f2) ∧ W1.drew.cell? ⟨eb, 4, none⟩ = some (.int .i64 f.f1.f3) ∧ W1.drew.cell? ⟨eb, 5, none⟩ = some (.string f.f1.f4) ∧ W1.drew.cell? ⟨eb, 6, none⟩ = some (.slice A6 f.f1.f5.length c6) ∧ Hid (Below w.heap.size w W1.drew) ∧ Hid (Tab W1.drew) := sf_keep HS0 (blw_drew (Below.refl _ _))
      clear hW1 heb x0 x1 x2 x3 x4 x5 x6 hE hb1 HS0
      go_region_held3 (fun w' => w'.cell? ⟨eb, 0, none⟩ = some (.string f.f0) ∧ w'.cell? ⟨eb, 1, none⟩ = some (.int .i64 f.f1.f0) ∧ w'.cell? ⟨eb, 2, none⟩ = some (.string f.f1.f1) ∧ w'.cell? ⟨eb, 3, none⟩ = some (.int .i64 f.f1.f2) ∧ w'.cell? ⟨eb, 4, none⟩ = some (.int .i64 f.f1.f3) ∧ w'.cell? ⟨eb, 5, none⟩ = some (.string f.f1.f4) ∧ w'.cell? ⟨eb, 6, none⟩ = some (.slice A6 f.f1.f5.length c6) ∧ Hid (Below w.heap.size w w') ∧ Hid (Tab w')) (first | assumption | exact sf_keep (by assumption) (by assumption)) (first | (go_at_call_of 13 (Value.string f.f0); refine (quo_c f.f0 _ (sf_tab (by assumption)) HQ.out).mono ?_; rintro e w1 ⟨rfl, hb⟩) | (go_at_call 8; refine (IHf.out A6 c6 _ (sf_tab (by assumption)) (Kd.C_below HC6.out (sf_bel (by assumption))) HL6.out HRF.out HTL.out).mono ?_; rw [← HTB.out]; rintro e w1 ⟨rfl, hb⟩))
      all_goals
        rename_i hh
        obtain ⟨-, -, -, -, -, -, -, HB1, HT1⟩ := hh
        clear HSD k1 k2
        go_wp2_with fail
        go_roundw
        case rel =>
          refine ⟨j + 1, S ++ (quo f.f0 ++ TB), by omega, rfl, by go_num, ?_, HB1.out, HT1⟩
          rw [← HP.out, HST.out, txF_eq, lb_append, lb_append, HTB.out, lb_mk, List.append_assoc]
        case measure => simp [intOf]; omega
    · obtain rfl : j = l.length := by omega
      rw [List.drop_length] at hlen
      have hnil : (txFs ([] : List S29)).length = 0 := rfl
      have k1 : (9223372036854775807 < S.size + 1) = False := eq_false (by omega)
      have HP2 : Hid (lb S = lb H0 ++ txFs l) := Lib.hid (by have := HP.out; rw [List.drop_length] at this; simpa [txFs] using this)
      clear hlen hl2 hnil
      go_wp2_with fail
      go_ret
      refine ⟨?_, HB.out⟩
      refine ret_str ?_
      rw [HTV.out]
      have e : S ++ (⟨#[41]⟩ : ByteArray) = ⟨(lb H0 ++ (txFs l ++ [41])).toArray⟩ := by
        apply lb_ext
        rw [lb_mk (lb H0 ++ (txFs l ++ [41]))]
        refine (lb_append S _).trans ?_
        rw [HP2.out, List.append_assoc]
      exact e
theorem text_any (n : Nat) : ∀ x : S24g S29, szV x ≤ n → TextAt x := by
  induction n with
  | zero => intro x h; rw [szV_eq] at h; omega
  | succ n ih =>
    intro x h
    rw [szV_eq] at h
    refine text_step x (Lib.hid (fun f hf => ih f.f1 ?_))
    have := szFs_mem hf
    rw [szF_eq] at this; omega
end Go.Proofs.YtaalehglichejaaDoor.PTy
