/- Contract of the reference's Key (over strings.Builder, with two closures, recursive), in the print's form. No statement is proved here. -/
import Derived.Test.YtilffmhmgoaejaaPlugUtf
import Derived.Test.YtilffmhmgoaejaaBuilderStr
import Derived.Test.YtilffmhmgoaejaaPValx0
import Derived.Test.YtilffmhmgoaejaaValWords
namespace Go.Proofs.Ytilffmhmgoaejaa
open Go.RowKit Go.Proofs.YtilffmhmgoaejaaW.PrintWords Go.Proofs.YtilffmhmgoaejaaW.PrintLast
set_option linter.unusedVariables false
set_option linter.unusedSimpArgs false
/-- The bytes of a number, the highest one first. -/
def be8 (n : Nat) (j : Nat) : List UInt8 := (List.range j).map fun i => UInt8.ofNat (n / 2 ^ (8 * (7 - i)))
theorem be8_len (n j : Nat) : (be8 n j).length = j := by simp [be8]
theorem be8_succ (n j : Nat) : be8 n (j + 1) = be8 n j ++ [UInt8.ofNat (n / 2 ^ (8 * (7 - j)))] := by simp [be8, List.range_succ]
set_option maxHeartbeats 2000000 in
set_option maxRecDepth 1000000 in
theorem number_any (B b : Nat) (l : List UInt8) (n : Nat) (hn : n < 18446744073709551616) (w : World) (h : Bld B b l w) (hlen : l.length + 8 ≤ 140737488355328) (hBw : B ≤ w.heap.size) :
    Calls Try.prog 79 #[.int .u64 n, .pointer (some ⟨b, 0, none⟩)] w (BytesOk B b (l ++ be8 n 8) w) := by
  have HO := Lib.hid h
  have HN := Lib.hid hn
  clear h hn
  go_enter Try.func79, Try.ntmps79
  go_wp2_with fail
  go_loopw [3] (fun i wr => ∃ j : Nat, j ≤ 8 ∧ i = .int .i64 (7 - (j : Int)) ∧ Bld B b (l ++ be8 n j) wr ∧ Wrote B b w wr) (fun i _ => (intOf i + 1).toNat)
  case atStart => exact ⟨0, by omega, rfl, by simpa [be8] using HO.out, Wrote.refl _ _ _⟩
  case round =>
    obtain ⟨j, hj, rfl, hO, hB⟩ := hrel
    have HO2 := Lib.hid hO
    have HB := Lib.hid hB
    have hBr : B ≤ wr.heap.size := by have := hB.1.size; omega
    clear hO hB
    by_cases hlt : j < 8
    · have hl : (l ++ be8 n j).length + 1 ≤ 140737488355328 := by simp [be8]; omega
      have HX := Lib.hid (show ((n : Int) / 2 ^ (8 * (7 - j)) % 256) = ((UInt8.ofNat (n / 2 ^ (8 * (7 - j)))).toNat : Int) by rw [UInt8.toNat_ofNat']; simp)
      go_wp2_with (go_at_call 80; refine (writeByte_eq B b _ (UInt8.ofNat (n / 2 ^ (8 * (7 - j)))) _ HX.out _ HO2.out hl hBr).mono ?_; rintro e w1 ⟨rfl, h1, k1⟩; have HO3 := Lib.hid h1; have HB3 := Lib.hid (HB.out.trans k1); clear h1 k1)
      go_roundw
      case rel => exact ⟨j + 1, by omega, by congr 1; omega, by rw [be8_succ, ← List.append_assoc]; exact HO3.out, HB3.out⟩
      case measure => simp [intOf]; omega
    · obtain rfl : j = 8 := by omega
      go_wp2_with fail
      go_end0
      exact ⟨rfl, HO2.out, HB.out⟩
/-- A string's bytes, each behind a 1, and a 0. -/
def tx (s : List UInt8) : List UInt8 := s.flatMap fun c => [1, c]
theorem tx_len (s : List UInt8) : (tx s).length = 2 * s.length := by
  induction s with
  | nil => rfl
  | cons a t ih => simp only [tx, List.flatMap_cons, List.length_append, List.length_cons, List.length_nil] at *; omega
theorem tx_snoc (s : List UInt8) (c : UInt8) : tx (s ++ [c]) = tx s ++ [1, c] := by simp [tx]
set_option maxHeartbeats 2000000 in
set_option maxRecDepth 1000000 in
theorem textK_any (B b : Nat) (l : List UInt8) (s : ByteArray) (w : World) (h : Bld B b l w) (hlen : l.length + (2 * s.size + 1) ≤ 140737488355328) (hBw : B ≤ w.heap.size) :
    Calls Try.prog 81 #[.string s, .pointer (some ⟨b, 0, none⟩)] w (BytesOk B b (l ++ tx (lb s) ++ [0]) w) := by
  have HO := Lib.hid h
  clear h
  go_enter Try.func81, Try.ntmps81
  go_wp2_with fail
  go_loopw [6] (fun i wr => ∃ j : Nat, j ≤ s.size ∧ i = .int .i64 j ∧ Bld B b (l ++ tx ((lb s).take j)) wr ∧ Wrote B b w wr) (fun i _ => s.size - (intOf i).toNat)
  case atStart => exact ⟨0, by omega, rfl, by simpa [tx] using HO.out, Wrote.refl _ _ _⟩
  case round =>
    obtain ⟨j, hj, rfl, hO, hB⟩ := hrel
    have HO2 := Lib.hid hO
    have HB := Lib.hid hB
    have hBr : B ≤ wr.heap.size := by have := hB.1.size; omega
    have hlj : (tx ((lb s).take j)).length = 2 * j := by rw [tx_len, List.length_take, lb_len]; omega
    have HLJ := Lib.hid hlj
    clear hO hB hlj
    by_cases hlt : j < s.size
    · have HT := Lib.hid (show (lb s).take (j + 1) = (lb s).take j ++ [s[j]] from List.take_succ_eq_append_getElem (by rw [lb_len]; exact hlt))
      go_wp2_with fail
      go_at_call 80
      refine (writeByte_eq B b _ 1 _ (by decide) _ HO2.out (by rw [List.length_append, HLJ.out]; omega) hBr).mono ?_
      rintro e w1 ⟨rfl, h1, k1⟩
      have HO3 := Lib.hid h1
      have HB3 := Lib.hid (HB.out.trans k1)
      clear h1 k1
      go_wp2_with fail
      go_at_call 80
      refine (writeByte_eq B b _ s[j] _ (by first | rfl | (simp; done)) _ HO3.out (by rw [List.length_append, List.length_append, HLJ.out]; simp; omega) (by have := HB3.out.1.size; omega)).mono ?_
      rintro e w2 ⟨rfl, h1, k1⟩
      have HO4 := Lib.hid h1
      have HB4 := Lib.hid (HB3.out.trans k1)
      clear h1 k1
      go_wp2_with fail
      go_roundw
      case rel => exact ⟨j + 1, by omega, by go_num, by rw [HT.out, tx_snoc, ← List.append_assoc]; have := HO4.out; rwa [List.append_assoc _ [1] _] at this, HB4.out⟩
      case measure => simp [intOf]; omega
    · obtain rfl : j = s.size := by omega
      rw [List.take_of_length_le (by rw [lb_len]; omega)] at HO2 HLJ
      go_wp2_with fail
      go_at_call 80
      refine (writeByte_eq B b _ 0 _ (by decide) _ HO2.out (by rw [List.length_append, HLJ.out]; omega) hBr).mono ?_
      rintro e w1 ⟨rfl, h1, k1⟩
      have HO3 := Lib.hid h1
      have HB3 := Lib.hid (HB.out.trans k1)
      clear h1 k1
      go_wp2_with fail
      go_end0
      exact ⟨rfl, HO3.out, HB3.out⟩
/-! values: what Key tells of them -/
namespace PVal
/-- The number that stands for N. -/
def keyN (k n : Int) : Nat :=
  (if k = 3 then (if n < 0 then Go.bits .xor .u64 IntKind.u64.max (IntKind.u64.wrap n) else Go.bits .or .u64 (IntKind.u64.wrap n) 9223372036854775808) else IntKind.u64.wrap (IntKind.u64.wrap n + 9223372036854775808)).toNat
def keyK (k : Int) : Nat := (IntKind.u64.wrap (IntKind.u64.wrap k + 9223372036854775808)).toNat
mutual
def keyV : S52g S63 → List UInt8
  | ⟨k, n, s, fs⟩ => be8 (keyK k) 8 ++ be8 (keyN k n) 8 ++ tx (lb s) ++ [0] ++ keyFs fs ++ [0]
def keyF : S63 → List UInt8
  | ⟨s, v⟩ => [1] ++ tx (lb s) ++ [0] ++ keyV v
def keyFs : List S63 → List UInt8
  | [] => []
  | f :: t => keyF f ++ keyFs t
end
theorem keyFs_app (l m : List S63) : keyFs (l ++ m) = keyFs l ++ keyFs m := by
  induction l with
  | nil => rfl
  | cons f t ih => show keyF f ++ keyFs (t ++ m) = keyF f ++ keyFs t ++ keyFs m; rw [ih, List.append_assoc]
theorem keyFs_mem {l : List S63} {f : S63} (h : f ∈ l) : (keyF f).length ≤ (keyFs l).length := by
  induction l with
  | nil => cases h
  | cons a t ih =>
    show _ ≤ (keyF a ++ keyFs t).length
    rw [List.length_append]
    rcases List.mem_cons.1 h with q | q
    · rw [q]; omega
    · have := ih q; omega
theorem keyV_eq (v : S52g S63) : keyV v = be8 (keyK v.f0) 8 ++ be8 (keyN v.f0 v.f1) 8 ++ tx (lb v.f2) ++ [0] ++ keyFs v.f3 ++ [0] := by cases v; rfl
theorem keyF_eq (f : S63) : keyF f = [1] ++ tx (lb f.f0) ++ [0] ++ keyV f.f1 := by cases f; rfl
theorem u64_rng (x : Int) : 0 ≤ IntKind.u64.wrap x ∧ IntKind.u64.wrap x < 18446744073709551616 := by
  rw [IntKind.wrap_u64]; omega
theorem or_rng (x y : Int) : 0 ≤ Go.bits .or .u64 x y ∧ Go.bits .or .u64 x y < 18446744073709551616 := u64_rng _
theorem xor_rng (x y : Int) : 0 ≤ Go.bits .xor .u64 x y ∧ Go.bits .xor .u64 x y < 18446744073709551616 := u64_rng _
theorem number_x (B b : Nat) (l : List UInt8) (x : Int) (hx : 0 ≤ x ∧ x < 18446744073709551616) (w : World) (h : Bld B b l w) (hlen : l.length + 8 ≤ 140737488355328) (hBw : B ≤ w.heap.size) :
    Calls Try.prog 79 #[.int .u64 x, .pointer (some ⟨b, 0, none⟩)] w (BytesOk B b (l ++ be8 x.toNat 8) w) := by
  obtain ⟨n, rfl⟩ : ∃ n : Nat, x = n := ⟨x.toNat, by omega⟩
  exact number_any B b l n (by omega) w h hlen hBw
theorem keyF_pos (f : S63) : 20 ≤ (keyF f).length := by
  rw [keyF_eq, keyV_eq]; simp only [List.length_append, List.length_cons, List.length_nil, be8_len]; omega
theorem keyFs_len (l : List S63) : 20 * l.length ≤ (keyFs l).length := by
  induction l with
  | nil => simp
  | cons a t ih => have := keyF_pos a; show _ ≤ (keyF a ++ keyFs t).length; rw [List.length_append, List.length_cons]; omega
theorem keyFs_pre (l : List S63) (j : Nat) : (keyFs (l.take j)).length ≤ (keyFs l).length := by
  conv => rhs; rw [← List.take_append_drop j l, keyFs_app, List.length_append]
  omega
def KeyPost (l : List UInt8) (w : World) (e : Ending) (w' : World) : Prop := ∃ S : ByteArray, e = .returned (.string S) ∧ lb S = l ∧ Below w.heap.size w w'
/-- How Key's memory stands: the builder behind the argument's own block. -/
structure KSt (w : World) (gb : Nat) (o : Obj) (l : List UInt8) (wr : World) : Prop where
  bld : Bld (gb + 1) (gb + 1) l wr
  bel : Below gb w wr
  blk : wr.heap[gb]? = some o
  sz : gb + 1 < wr.heap.size
theorem KSt.wrote {w wr w' : World} {gb : Nat} {o : Obj} {l l' : List UInt8} (h : KSt w gb o l wr) (hb : Bld (gb + 1) (gb + 1) l' w') (k : Wrote (gb + 1) (gb + 1) wr w') : KSt w gb o l' w' :=
  ⟨hb, h.bel.trans (k.1.mono (by omega)), (k.1.block gb (by omega)).trans h.blk, Nat.lt_of_lt_of_le h.sz k.1.size⟩
theorem KSt.grow {w wr w' : World} {gb : Nat} {o : Obj} {l : List UInt8} (h : KSt w gb o l wr) (k : Below wr.heap.size wr w') : KSt w gb o l w' :=
  ⟨h.bld.keep k, h.bel.trans (k.mono (by have := h.sz; omega)), (k.block gb (by have := h.sz; omega)).trans h.blk, Nat.lt_of_lt_of_le h.sz k.size⟩
theorem other_kept {w w' : World} {gb eb : Nat} {cs : Array Value} (h : w.heap[eb]? = some (.cells cs 63 (0, 0))) (hne : gb + 1 < eb) (k : Wrote (gb + 1) (gb + 1) w w') : w'.heap[eb]? = some (.cells cs 63 (0, 0)) :=
  k.2 eb _ h (by intro q; injection q with q; omega) (fun c fz q => by injection q with _ q2; exact absurd q2 (by decide))
theorem keyN_a {k n : Int} (h : k = 3) (h2 : n < 0) : keyN k n = (Go.bits .xor .u64 IntKind.u64.max (IntKind.u64.wrap n)).toNat := by unfold keyN; rw [if_pos h, if_pos h2]
theorem keyN_b {k n : Int} (h : k = 3) (h2 : ¬ n < 0) : keyN k n = (Go.bits .or .u64 (IntKind.u64.wrap n) 9223372036854775808).toNat := by unfold keyN; rw [if_pos h, if_neg h2]
theorem keyN_c {k n : Int} (h : ¬ k = 3) : keyN k n = (IntKind.u64.wrap (IntKind.u64.wrap n + 9223372036854775808)).toNat := by unfold keyN; rw [if_neg h]
set_option maxHeartbeats 4000000 in
set_option maxRecDepth 1000000 in
theorem key_a (vk vn : Int) (vs : ByteArray) (fs : List S63) (A : Option Addr) (c : Nat) (w : World) (hlen : (keyV ⟨vk, vn, vs, fs⟩).length ≤ 140737488355328) (hC : Kd.C k63 w A fs.length fs) (hc : fs.length ≤ c)
    (IH : Hid (∀ (f : S63) (A : Option Addr) (c : Nat) (w : World), f ∈ fs → (keyV f.f1).length ≤ 140737488355328 → Kd.C k63 w A f.f1.f3.length f.f1.f3 → f.f1.f3.length ≤ c → Calls Try.prog 40 #[.agg #[.int .i64 f.f1.f0, .int .i64 f.f1.f1, .string f.f1.f2, .slice A f.f1.f3.length c]] w (KeyPost (keyV f.f1) w)))
    (h3 : vk = 3) (h0 : vn < 0) :
    Calls Try.prog 40 #[.agg #[.int .i64 vk, .int .i64 vn, .string vs, .slice A fs.length c]] w (KeyPost (keyV ⟨vk, vn, vs, fs⟩) w) := by
  have HC := Lib.hid hC
  have HLEN := Lib.hid hlen
  have hlv := hlen
  rw [keyV_eq] at hlv
  simp only [List.length_append, be8_len, tx_len, lb_len, List.length_cons, List.length_nil] at hlv
  have hfl := keyFs_len fs
  have HKN := Lib.hid (keyN_a h3 h0)
  have e3 : (vk == 3) = true := by simpa using h3
  have e0 : decide (vn < 0) = true := by simpa using h0
  clear hC hlen h3 h0
  have hu52 := Try.underlying52
  have hu63 := Try.underlying63
  have HCC := Lib.hid hc
  go_enter Try.func40, Try.ntmps40
  go_wp2_with fail
  obtain ⟨gb, hgb⟩ : ∃ gb, gb = w.heap.size := ⟨_, rfl⟩
  obtain ⟨w2, hw2⟩ : ∃ w2, w2 = (w.alloc (.cells #[.int .i64 vk, .int .i64 vn, .string vs, .slice A fs.length c] 52)).alloc (.cells #[.pointer none, .slice none 0 0] 98) := ⟨_, rfl⟩
  rw [← hgb, ← hw2]
  have HS : Hid (KSt w gb (.cells #[.int .i64 vk, .int .i64 vn, .string vs, .slice A fs.length c] 52 (0, 0)) [] w2) := Lib.hid ⟨by
      have := bld_new (w.alloc (.cells #[.int .i64 vk, .int .i64 vn, .string vs, .slice A fs.length c] 52))
      simpa [hw2, hgb] using this, by rw [hw2, hgb]; exact blw_alloc (blw_alloc (Below.refl _ _) _) _, by
      rw [hw2, hgb]; exact (Below.heap_alloc _ _ _ (by simp)).trans (heap_alloc_new w _), by rw [hw2, hgb]; simp⟩
  have HGB := Lib.hid hgb
  clear hgb hw2
  go_at_call 79
  refine (number_x (gb + 1) (gb + 1) _ _ (u64_rng _) _ HS.out.bld (by simp) (by have := HS.out.sz; omega)).mono ?_
  rintro e w3 ⟨rfl, h1, k1⟩
  have HS := Lib.hid (HS.out.wrote h1 k1)
  clear h1 k1
  have q0 := (blk_cell HS.out.blk 0).trans rfl
  have q1 := (blk_cell HS.out.blk 1).trans rfl
  have q2 := (blk_cell HS.out.blk 2).trans rfl
  have q3 := (blk_cell HS.out.blk 3).trans rfl
  go_wp2_with fail
  go_at_call 79
  refine (number_x (gb + 1) (gb + 1) _ _ (xor_rng _ _) _ HS.out.bld (by simp [be8_len]) (by have := HS.out.sz; omega)).mono ?_
  rintro e w4 ⟨rfl, h1, k1⟩
  have HS := Lib.hid (HS.out.wrote h1 k1)
  clear h1 k1 q0 q1 q2 q3
  have q0 := (blk_cell HS.out.blk 0).trans rfl
  have q1 := (blk_cell HS.out.blk 1).trans rfl
  have q2 := (blk_cell HS.out.blk 2).trans rfl
  have q3 := (blk_cell HS.out.blk 3).trans rfl
  go_wp2_with fail
  go_at_call 81
  refine (textK_any (gb + 1) (gb + 1) _ vs _ HS.out.bld (by simp [be8_len]; omega) (by have := HS.out.sz; omega)).mono ?_
  rintro e w5 ⟨rfl, h1, k1⟩
  have HS := Lib.hid (HS.out.wrote h1 k1)
  clear h1 k1 q0 q1 q2 q3
  have q3 := (blk_cell HS.out.blk 3).trans rfl
  have HS : Hid (KSt w gb (.cells #[.int .i64 vk, .int .i64 vn, .string vs, .slice A fs.length c] 52 (0, 0)) (be8 (keyK vk) 8 ++ be8 (keyN vk vn) 8 ++ tx (lb vs) ++ [0]) w5) := Lib.hid (by
    have := HS.out; rw [HKN.out]; exact this)
  go_wp2_with fail
  go_loopw [52] (fun i wr => ∃ j : Nat, j ≤ fs.length ∧ i = .int .i64 j ∧ KSt w gb (.cells #[.int .i64 vk, .int .i64 vn, .string vs, .slice A fs.length c] 52 (0, 0)) (be8 (keyK vk) 8 ++ be8 (keyN vk vn) 8 ++ tx (lb vs) ++ [0] ++ keyFs (fs.take j)) wr) (fun i _ => fs.length - (intOf i).toNat)
  case atStart => exact ⟨0, by omega, rfl, by simpa [keyFs] using HS.out⟩
  case round =>
    obtain ⟨j, hj, rfl, hS⟩ := hrel
    have HS := Lib.hid hS
    clear hS
    by_cases hlt : j < fs.length
    · have hbw : Below w.heap.size w wr := HGB.out ▸ HS.out.bel
      obtain ⟨ad, A4, c4, hA, x0, x1, x2, x3, x4, hl4, hC4⟩ := at_T63 HC.out (j : Int) (by omega) (by omega)
      subst hA
      replace x0 := pw_cell_below hbw x0
      replace x1 := pw_cell_below hbw x1
      replace x2 := pw_cell_below hbw x2
      replace x3 := pw_cell_below hbw x3
      replace x4 := pw_cell_below hbw x4
      have hf : rd_T63 fs (j : Int) = fs[j] := by simp [rd_T63, List.getD_eq_getElem?_getD, List.getElem?_eq_getElem hlt]
      rw [hf] at x0 x1 x2 x3 x4 hl4 hC4
      have HT := Lib.hid (show keyFs (fs.take (j + 1)) = keyFs (fs.take j) ++ ([1] ++ tx (lb fs[j].f0) ++ [0] ++ keyV fs[j].f1) by rw [List.take_succ_eq_append_getElem hlt, keyFs_app, ← keyF_eq]; simp [keyFs])
      have hmem : fs[j] ∈ fs := List.getElem_mem hlt
      have hle1 : (keyFs (fs.take (j + 1))).length ≤ (keyFs fs).length := keyFs_pre fs (j + 1)
      rw [HT.out] at hle1
      simp only [List.length_append, List.length_cons, List.length_nil, tx_len, lb_len] at hle1
      have IH1 := Lib.hid (fun A c w => IH.out fs[j] A c w hmem)
      generalize fs[j] = f at *
      have HC4 := Lib.hid hC4
      have HL4 := Lib.hid hl4
      clear hf hmem hC4 hl4 hbw
      simp only [Int.toNat_natCast] at x0 x1 x2 x3 x4
      go_wp2_with fail
      obtain ⟨eb, heb⟩ : ∃ eb, eb = wr.heap.size := ⟨_, rfl⟩
      obtain ⟨wx, hwx⟩ : ∃ wx, wx = wr.alloc (.cells #[.string f.f0, .int .i64 f.f1.f0, .int .i64 f.f1.f1, .string f.f1.f2, .slice A4 f.f1.f3.length c4] 63) := ⟨_, rfl⟩
      rw [← heb, ← hwx]
      have HE := Lib.hid (show wx.heap[eb]? = some (.cells #[.string f.f0, .int .i64 f.f1.f0, .int .i64 f.f1.f1, .string f.f1.f2, .slice A4 f.f1.f3.length c4] 63 (0, 0)) by rw [hwx, heb]; exact heap_alloc_new wr _)
      have HNE := Lib.hid (show gb + 1 < eb by have := HS.out.sz; omega)
      have HS := Lib.hid (HS.out.grow (show Below wr.heap.size wr wx by rw [hwx]; exact blw_alloc (Below.refl _ _) _))
      clear heb hwx x0 x1 x2 x3 x4
      go_at_call 80
      refine (writeByte_eq (gb + 1) (gb + 1) _ 1 _ (by decide) _ HS.out.bld (by simp only [List.length_append, List.length_cons, List.length_nil, be8_len, tx_len, lb_len]; omega) (by have := HS.out.sz; omega)).mono ?_
      rintro e w6 ⟨rfl, h1, k1⟩
      have HE := Lib.hid (other_kept HE.out HNE.out k1)
      have HS := Lib.hid (HS.out.wrote h1 k1)
      clear h1 k1
      have z0 := (blk_cell HE.out 0).trans rfl
      go_wp2_with fail
      go_at_call 81
      refine (textK_any (gb + 1) (gb + 1) _ f.f0 _ HS.out.bld (by simp only [List.length_append, List.length_cons, List.length_nil, be8_len, tx_len, lb_len]; omega) (by have := HS.out.sz; omega)).mono ?_
      rintro e w7 ⟨rfl, h1, k1⟩
      have HE := Lib.hid (other_kept HE.out HNE.out k1)
      have HS := Lib.hid (HS.out.wrote h1 k1)
      clear h1 k1 z0
      have z1 := (blk_cell HE.out 1).trans rfl
      have z2 := (blk_cell HE.out 2).trans rfl
      have z3 := (blk_cell HE.out 3).trans rfl
      have z4 := (blk_cell HE.out 4).trans rfl
      go_wp2_with fail
      go_at_call 40
      refine (IH1.out A4 c4 _ (by omega) (Kd.C_below HC4.out (HGB.out ▸ HS.out.bel)) HL4.out).mono ?_
      rintro e w8 ⟨S, rfl, hS, hb8⟩
      have HS := Lib.hid (HS.out.grow hb8)
      have hSz : S.size = (keyV f.f1).length := by rw [← hS, lb_len]
      have HSV := Lib.hid hS
      clear hS hb8 z1 z2 z3 z4
      go_wp2_with fail
      go_at_call 82
      refine (writeString_any (gb + 1) (gb + 1) _ S _ HS.out.bld (by simp only [List.length_append, List.length_cons, List.length_nil, be8_len, tx_len, lb_len]; omega) (by have := HS.out.sz; omega)).mono ?_
      rintro e w9 ⟨rfl, h1, k1⟩
      have HS := Lib.hid (HS.out.wrote h1 k1)
      clear h1 k1 hSz
      go_wp2_with fail
      go_roundw
      case rel =>
        refine ⟨j + 1, by omega, by go_num, ?_⟩
        have := HS.out
        rw [show S.data.toList = keyV f.f1 from HSV.out] at this
        rw [HT.out]
        simpa only [List.append_assoc] using this
      case measure => simp [intOf]; omega
    · obtain rfl : j = fs.length := by omega
      rw [List.take_length] at HS
      go_wp2_with fail
      go_at_call 80
      refine (writeByte_eq (gb + 1) (gb + 1) _ 0 _ (by decide) _ HS.out.bld (by simp only [List.length_append, List.length_cons, List.length_nil, be8_len, tx_len, lb_len]; omega) (by have := HS.out.sz; omega)).mono ?_
      rintro e w6 ⟨rfl, h1, k1⟩
      have HS := Lib.hid (HS.out.wrote h1 k1)
      clear h1 k1
      go_wp2_with fail
      go_at_call 73
      refine (string_any (gb + 1) (gb + 1) _ _ HS.out.bld (by have := HS.out.sz; omega)).mono ?_
      rintro e w7 ⟨rfl, h1, k1⟩
      have HS := Lib.hid (HS.out.wrote h1 k1)
      clear h1 k1
      go_wp2_with fail
      go_ret
      exact ⟨_, rfl, by rw [lb_mk, keyV_eq]; simp, HGB.out ▸ HS.out.bel⟩
set_option maxHeartbeats 4000000 in
set_option maxRecDepth 1000000 in
theorem key_b (vk vn : Int) (vs : ByteArray) (fs : List S63) (A : Option Addr) (c : Nat) (w : World) (hlen : (keyV ⟨vk, vn, vs, fs⟩).length ≤ 140737488355328) (hC : Kd.C k63 w A fs.length fs) (hc : fs.length ≤ c)
    (IH : Hid (∀ (f : S63) (A : Option Addr) (c : Nat) (w : World), f ∈ fs → (keyV f.f1).length ≤ 140737488355328 → Kd.C k63 w A f.f1.f3.length f.f1.f3 → f.f1.f3.length ≤ c → Calls Try.prog 40 #[.agg #[.int .i64 f.f1.f0, .int .i64 f.f1.f1, .string f.f1.f2, .slice A f.f1.f3.length c]] w (KeyPost (keyV f.f1) w)))
    (h3 : vk = 3) (h0 : ¬ vn < 0) :
    Calls Try.prog 40 #[.agg #[.int .i64 vk, .int .i64 vn, .string vs, .slice A fs.length c]] w (KeyPost (keyV ⟨vk, vn, vs, fs⟩) w) := by
  have HC := Lib.hid hC
  have HLEN := Lib.hid hlen
  have hlv := hlen
  rw [keyV_eq] at hlv
  simp only [List.length_append, be8_len, tx_len, lb_len, List.length_cons, List.length_nil] at hlv
  have hfl := keyFs_len fs
  have HKN := Lib.hid (keyN_b h3 h0)
  have e3 : (vk == 3) = true := by simpa using h3
  have e0 : decide (vn < 0) = false := by simpa using h0
  clear hC hlen h3 h0
  have hu52 := Try.underlying52
  have hu63 := Try.underlying63
  have HCC := Lib.hid hc
  go_enter Try.func40, Try.ntmps40
  go_wp2_with fail
  obtain ⟨gb, hgb⟩ : ∃ gb, gb = w.heap.size := ⟨_, rfl⟩
  obtain ⟨w2, hw2⟩ : ∃ w2, w2 = (w.alloc (.cells #[.int .i64 vk, .int .i64 vn, .string vs, .slice A fs.length c] 52)).alloc (.cells #[.pointer none, .slice none 0 0] 98) := ⟨_, rfl⟩
  rw [← hgb, ← hw2]
  have HS : Hid (KSt w gb (.cells #[.int .i64 vk, .int .i64 vn, .string vs, .slice A fs.length c] 52 (0, 0)) [] w2) := Lib.hid ⟨by
      have := bld_new (w.alloc (.cells #[.int .i64 vk, .int .i64 vn, .string vs, .slice A fs.length c] 52))
      simpa [hw2, hgb] using this, by rw [hw2, hgb]; exact blw_alloc (blw_alloc (Below.refl _ _) _) _, by
      rw [hw2, hgb]; exact (Below.heap_alloc _ _ _ (by simp)).trans (heap_alloc_new w _), by rw [hw2, hgb]; simp⟩
  have HGB := Lib.hid hgb
  clear hgb hw2
  go_at_call 79
  refine (number_x (gb + 1) (gb + 1) _ _ (u64_rng _) _ HS.out.bld (by simp) (by have := HS.out.sz; omega)).mono ?_
  rintro e w3 ⟨rfl, h1, k1⟩
  have HS := Lib.hid (HS.out.wrote h1 k1)
  clear h1 k1
  have q0 := (blk_cell HS.out.blk 0).trans rfl
  have q1 := (blk_cell HS.out.blk 1).trans rfl
  have q2 := (blk_cell HS.out.blk 2).trans rfl
  have q3 := (blk_cell HS.out.blk 3).trans rfl
  go_wp2_with fail
  go_at_call 79
  refine (number_x (gb + 1) (gb + 1) _ _ (or_rng _ _) _ HS.out.bld (by simp [be8_len]) (by have := HS.out.sz; omega)).mono ?_
  rintro e w4 ⟨rfl, h1, k1⟩
  have HS := Lib.hid (HS.out.wrote h1 k1)
  clear h1 k1 q0 q1 q2 q3
  have q0 := (blk_cell HS.out.blk 0).trans rfl
  have q1 := (blk_cell HS.out.blk 1).trans rfl
  have q2 := (blk_cell HS.out.blk 2).trans rfl
  have q3 := (blk_cell HS.out.blk 3).trans rfl
  go_wp2_with fail
  go_at_call 81
  refine (textK_any (gb + 1) (gb + 1) _ vs _ HS.out.bld (by simp [be8_len]; omega) (by have := HS.out.sz; omega)).mono ?_
  rintro e w5 ⟨rfl, h1, k1⟩
  have HS := Lib.hid (HS.out.wrote h1 k1)
  clear h1 k1 q0 q1 q2 q3
  have q3 := (blk_cell HS.out.blk 3).trans rfl
  have HS : Hid (KSt w gb (.cells #[.int .i64 vk, .int .i64 vn, .string vs, .slice A fs.length c] 52 (0, 0)) (be8 (keyK vk) 8 ++ be8 (keyN vk vn) 8 ++ tx (lb vs) ++ [0]) w5) := Lib.hid (by
    have := HS.out; rw [HKN.out]; exact this)
  go_wp2_with fail
  go_loopw [52] (fun i wr => ∃ j : Nat, j ≤ fs.length ∧ i = .int .i64 j ∧ KSt w gb (.cells #[.int .i64 vk, .int .i64 vn, .string vs, .slice A fs.length c] 52 (0, 0)) (be8 (keyK vk) 8 ++ be8 (keyN vk vn) 8 ++ tx (lb vs) ++ [0] ++ keyFs (fs.take j)) wr) (fun i _ => fs.length - (intOf i).toNat)
  case atStart => exact ⟨0, by omega, rfl, by simpa [keyFs] using HS.out⟩
  case round =>
    obtain ⟨j, hj, rfl, hS⟩ := hrel
    have HS := Lib.hid hS
    clear hS
    by_cases hlt : j < fs.length
    · have hbw : Below w.heap.size w wr := HGB.out ▸ HS.out.bel
      obtain ⟨ad, A4, c4, hA, x0, x1, x2, x3, x4, hl4, hC4⟩ := at_T63 HC.out (j : Int) (by omega) (by omega)
      subst hA
      replace x0 := pw_cell_below hbw x0
      replace x1 := pw_cell_below hbw x1
      replace x2 := pw_cell_below hbw x2
      replace x3 := pw_cell_below hbw x3
      replace x4 := pw_cell_below hbw x4
      have hf : rd_T63 fs (j : Int) = fs[j] := by simp [rd_T63, List.getD_eq_getElem?_getD, List.getElem?_eq_getElem hlt]
      rw [hf] at x0 x1 x2 x3 x4 hl4 hC4
      have HT := Lib.hid (show keyFs (fs.take (j + 1)) = keyFs (fs.take j) ++ ([1] ++ tx (lb fs[j].f0) ++ [0] ++ keyV fs[j].f1) by rw [List.take_succ_eq_append_getElem hlt, keyFs_app, ← keyF_eq]; simp [keyFs])
      have hmem : fs[j] ∈ fs := List.getElem_mem hlt
      have hle1 : (keyFs (fs.take (j + 1))).length ≤ (keyFs fs).length := keyFs_pre fs (j + 1)
      rw [HT.out] at hle1
      simp only [List.length_append, List.length_cons, List.length_nil, tx_len, lb_len] at hle1
      have IH1 := Lib.hid (fun A c w => IH.out fs[j] A c w hmem)
      generalize fs[j] = f at *
      have HC4 := Lib.hid hC4
      have HL4 := Lib.hid hl4
      clear hf hmem hC4 hl4 hbw
      simp only [Int.toNat_natCast] at x0 x1 x2 x3 x4
      go_wp2_with fail
      obtain ⟨eb, heb⟩ : ∃ eb, eb = wr.heap.size := ⟨_, rfl⟩
      obtain ⟨wx, hwx⟩ : ∃ wx, wx = wr.alloc (.cells #[.string f.f0, .int .i64 f.f1.f0, .int .i64 f.f1.f1, .string f.f1.f2, .slice A4 f.f1.f3.length c4] 63) := ⟨_, rfl⟩
      rw [← heb, ← hwx]
      have HE := Lib.hid (show wx.heap[eb]? = some (.cells #[.string f.f0, .int .i64 f.f1.f0, .int .i64 f.f1.f1, .string f.f1.f2, .slice A4 f.f1.f3.length c4] 63 (0, 0)) by rw [hwx, heb]; exact heap_alloc_new wr _)
      have HNE := Lib.hid (show gb + 1 < eb by have := HS.out.sz; omega)
      have HS := Lib.hid (HS.out.grow (show Below wr.heap.size wr wx by rw [hwx]; exact blw_alloc (Below.refl _ _) _))
      clear heb hwx x0 x1 x2 x3 x4
      go_at_call 80
      refine (writeByte_eq (gb + 1) (gb + 1) _ 1 _ (by decide) _ HS.out.bld (by simp only [List.length_append, List.length_cons, List.length_nil, be8_len, tx_len, lb_len]; omega) (by have := HS.out.sz; omega)).mono ?_
      rintro e w6 ⟨rfl, h1, k1⟩
      have HE := Lib.hid (other_kept HE.out HNE.out k1)
      have HS := Lib.hid (HS.out.wrote h1 k1)
      clear h1 k1
      have z0 := (blk_cell HE.out 0).trans rfl
      go_wp2_with fail
      go_at_call 81
      refine (textK_any (gb + 1) (gb + 1) _ f.f0 _ HS.out.bld (by simp only [List.length_append, List.length_cons, List.length_nil, be8_len, tx_len, lb_len]; omega) (by have := HS.out.sz; omega)).mono ?_
      rintro e w7 ⟨rfl, h1, k1⟩
      have HE := Lib.hid (other_kept HE.out HNE.out k1)
      have HS := Lib.hid (HS.out.wrote h1 k1)
      clear h1 k1 z0
      have z1 := (blk_cell HE.out 1).trans rfl
      have z2 := (blk_cell HE.out 2).trans rfl
      have z3 := (blk_cell HE.out 3).trans rfl
      have z4 := (blk_cell HE.out 4).trans rfl
      go_wp2_with fail
      go_at_call 40
      refine (IH1.out A4 c4 _ (by omega) (Kd.C_below HC4.out (HGB.out ▸ HS.out.bel)) HL4.out).mono ?_
      rintro e w8 ⟨S, rfl, hS, hb8⟩
      have HS := Lib.hid (HS.out.grow hb8)
      have hSz : S.size = (keyV f.f1).length := by rw [← hS, lb_len]
      have HSV := Lib.hid hS
      clear hS hb8 z1 z2 z3 z4
      go_wp2_with fail
      go_at_call 82
      refine (writeString_any (gb + 1) (gb + 1) _ S _ HS.out.bld (by simp only [List.length_append, List.length_cons, List.length_nil, be8_len, tx_len, lb_len]; omega) (by have := HS.out.sz; omega)).mono ?_
      rintro e w9 ⟨rfl, h1, k1⟩
      have HS := Lib.hid (HS.out.wrote h1 k1)
      clear h1 k1 hSz
      go_wp2_with fail
      go_roundw
      case rel =>
        refine ⟨j + 1, by omega, by go_num, ?_⟩
        have := HS.out
        rw [show S.data.toList = keyV f.f1 from HSV.out] at this
        rw [HT.out]
        simpa only [List.append_assoc] using this
      case measure => simp [intOf]; omega
    · obtain rfl : j = fs.length := by omega
      rw [List.take_length] at HS
      go_wp2_with fail
      go_at_call 80
      refine (writeByte_eq (gb + 1) (gb + 1) _ 0 _ (by decide) _ HS.out.bld (by simp only [List.length_append, List.length_cons, List.length_nil, be8_len, tx_len, lb_len]; omega) (by have := HS.out.sz; omega)).mono ?_
      rintro e w6 ⟨rfl, h1, k1⟩
      have HS := Lib.hid (HS.out.wrote h1 k1)
      clear h1 k1
      go_wp2_with fail
      go_at_call 73
      refine (string_any (gb + 1) (gb + 1) _ _ HS.out.bld (by have := HS.out.sz; omega)).mono ?_
      rintro e w7 ⟨rfl, h1, k1⟩
      have HS := Lib.hid (HS.out.wrote h1 k1)
      clear h1 k1
      go_wp2_with fail
      go_ret
      exact ⟨_, rfl, by rw [lb_mk, keyV_eq]; simp, HGB.out ▸ HS.out.bel⟩
set_option maxHeartbeats 4000000 in
set_option maxRecDepth 1000000 in
theorem key_c (vk vn : Int) (vs : ByteArray) (fs : List S63) (A : Option Addr) (c : Nat) (w : World) (hlen : (keyV ⟨vk, vn, vs, fs⟩).length ≤ 140737488355328) (hC : Kd.C k63 w A fs.length fs) (hc : fs.length ≤ c)
    (IH : Hid (∀ (f : S63) (A : Option Addr) (c : Nat) (w : World), f ∈ fs → (keyV f.f1).length ≤ 140737488355328 → Kd.C k63 w A f.f1.f3.length f.f1.f3 → f.f1.f3.length ≤ c → Calls Try.prog 40 #[.agg #[.int .i64 f.f1.f0, .int .i64 f.f1.f1, .string f.f1.f2, .slice A f.f1.f3.length c]] w (KeyPost (keyV f.f1) w)))
    (h3 : ¬ vk = 3) :
    Calls Try.prog 40 #[.agg #[.int .i64 vk, .int .i64 vn, .string vs, .slice A fs.length c]] w (KeyPost (keyV ⟨vk, vn, vs, fs⟩) w) := by
  have HC := Lib.hid hC
  have HLEN := Lib.hid hlen
  have hlv := hlen
  rw [keyV_eq] at hlv
  simp only [List.length_append, be8_len, tx_len, lb_len, List.length_cons, List.length_nil] at hlv
  have hfl := keyFs_len fs
  have HKN := Lib.hid (keyN_c (n := vn) h3)
  have e3 : (vk == 3) = false := by simpa using h3
  clear hC hlen h3
  have hu52 := Try.underlying52
  have hu63 := Try.underlying63
  have HCC := Lib.hid hc
  go_enter Try.func40, Try.ntmps40
  go_wp2_with fail
  obtain ⟨gb, hgb⟩ : ∃ gb, gb = w.heap.size := ⟨_, rfl⟩
  obtain ⟨w2, hw2⟩ : ∃ w2, w2 = (w.alloc (.cells #[.int .i64 vk, .int .i64 vn, .string vs, .slice A fs.length c] 52)).alloc (.cells #[.pointer none, .slice none 0 0] 98) := ⟨_, rfl⟩
  rw [← hgb, ← hw2]
  have HS : Hid (KSt w gb (.cells #[.int .i64 vk, .int .i64 vn, .string vs, .slice A fs.length c] 52 (0, 0)) [] w2) := Lib.hid ⟨by
      have := bld_new (w.alloc (.cells #[.int .i64 vk, .int .i64 vn, .string vs, .slice A fs.length c] 52))
      simpa [hw2, hgb] using this, by rw [hw2, hgb]; exact blw_alloc (blw_alloc (Below.refl _ _) _) _, by
      rw [hw2, hgb]; exact (Below.heap_alloc _ _ _ (by simp)).trans (heap_alloc_new w _), by rw [hw2, hgb]; simp⟩
  have HGB := Lib.hid hgb
  clear hgb hw2
  go_at_call 79
  refine (number_x (gb + 1) (gb + 1) _ _ (u64_rng _) _ HS.out.bld (by simp) (by have := HS.out.sz; omega)).mono ?_
  rintro e w3 ⟨rfl, h1, k1⟩
  have HS := Lib.hid (HS.out.wrote h1 k1)
  clear h1 k1
  have q0 := (blk_cell HS.out.blk 0).trans rfl
  have q1 := (blk_cell HS.out.blk 1).trans rfl
  have q2 := (blk_cell HS.out.blk 2).trans rfl
  have q3 := (blk_cell HS.out.blk 3).trans rfl
  go_wp2_with fail
  go_at_call 79
  refine (number_x (gb + 1) (gb + 1) _ _ (u64_rng _) _ HS.out.bld (by simp [be8_len]) (by have := HS.out.sz; omega)).mono ?_
  rintro e w4 ⟨rfl, h1, k1⟩
  have HS := Lib.hid (HS.out.wrote h1 k1)
  clear h1 k1 q0 q1 q2 q3
  have q0 := (blk_cell HS.out.blk 0).trans rfl
  have q1 := (blk_cell HS.out.blk 1).trans rfl
  have q2 := (blk_cell HS.out.blk 2).trans rfl
  have q3 := (blk_cell HS.out.blk 3).trans rfl
  go_wp2_with fail
  go_at_call 81
  refine (textK_any (gb + 1) (gb + 1) _ vs _ HS.out.bld (by simp [be8_len]; omega) (by have := HS.out.sz; omega)).mono ?_
  rintro e w5 ⟨rfl, h1, k1⟩
  have HS := Lib.hid (HS.out.wrote h1 k1)
  clear h1 k1 q0 q1 q2 q3
  have q3 := (blk_cell HS.out.blk 3).trans rfl
  have HS : Hid (KSt w gb (.cells #[.int .i64 vk, .int .i64 vn, .string vs, .slice A fs.length c] 52 (0, 0)) (be8 (keyK vk) 8 ++ be8 (keyN vk vn) 8 ++ tx (lb vs) ++ [0]) w5) := Lib.hid (by
    have := HS.out; rw [HKN.out]; exact this)
  go_wp2_with fail
  go_loopw [52] (fun i wr => ∃ j : Nat, j ≤ fs.length ∧ i = .int .i64 j ∧ KSt w gb (.cells #[.int .i64 vk, .int .i64 vn, .string vs, .slice A fs.length c] 52 (0, 0)) (be8 (keyK vk) 8 ++ be8 (keyN vk vn) 8 ++ tx (lb vs) ++ [0] ++ keyFs (fs.take j)) wr) (fun i _ => fs.length - (intOf i).toNat)
  case atStart => exact ⟨0, by omega, rfl, by simpa [keyFs] using HS.out⟩
  case round =>
    obtain ⟨j, hj, rfl, hS⟩ := hrel
    have HS := Lib.hid hS
    clear hS
    by_cases hlt : j < fs.length
    · have hbw : Below w.heap.size w wr := HGB.out ▸ HS.out.bel
      obtain ⟨ad, A4, c4, hA, x0, x1, x2, x3, x4, hl4, hC4⟩ := at_T63 HC.out (j : Int) (by omega) (by omega)
      subst hA
      replace x0 := pw_cell_below hbw x0
      replace x1 := pw_cell_below hbw x1
      replace x2 := pw_cell_below hbw x2
      replace x3 := pw_cell_below hbw x3
      replace x4 := pw_cell_below hbw x4
      have hf : rd_T63 fs (j : Int) = fs[j] := by simp [rd_T63, List.getD_eq_getElem?_getD, List.getElem?_eq_getElem hlt]
      rw [hf] at x0 x1 x2 x3 x4 hl4 hC4
      have HT := Lib.hid (show keyFs (fs.take (j + 1)) = keyFs (fs.take j) ++ ([1] ++ tx (lb fs[j].f0) ++ [0] ++ keyV fs[j].f1) by rw [List.take_succ_eq_append_getElem hlt, keyFs_app, ← keyF_eq]; simp [keyFs])
      have hmem : fs[j] ∈ fs := List.getElem_mem hlt
      have hle1 : (keyFs (fs.take (j + 1))).length ≤ (keyFs fs).length := keyFs_pre fs (j + 1)
      rw [HT.out] at hle1
      simp only [List.length_append, List.length_cons, List.length_nil, tx_len, lb_len] at hle1
      have IH1 := Lib.hid (fun A c w => IH.out fs[j] A c w hmem)
      generalize fs[j] = f at *
      have HC4 := Lib.hid hC4
      have HL4 := Lib.hid hl4
      clear hf hmem hC4 hl4 hbw
      simp only [Int.toNat_natCast] at x0 x1 x2 x3 x4
      go_wp2_with fail
      obtain ⟨eb, heb⟩ : ∃ eb, eb = wr.heap.size := ⟨_, rfl⟩
      obtain ⟨wx, hwx⟩ : ∃ wx, wx = wr.alloc (.cells #[.string f.f0, .int .i64 f.f1.f0, .int .i64 f.f1.f1, .string f.f1.f2, .slice A4 f.f1.f3.length c4] 63) := ⟨_, rfl⟩
      rw [← heb, ← hwx]
      have HE := Lib.hid (show wx.heap[eb]? = some (.cells #[.string f.f0, .int .i64 f.f1.f0, .int .i64 f.f1.f1, .string f.f1.f2, .slice A4 f.f1.f3.length c4] 63 (0, 0)) by rw [hwx, heb]; exact heap_alloc_new wr _)
      have HNE := Lib.hid (show gb + 1 < eb by have := HS.out.sz; omega)
      have HS := Lib.hid (HS.out.grow (show Below wr.heap.size wr wx by rw [hwx]; exact blw_alloc (Below.refl _ _) _))
      clear heb hwx x0 x1 x2 x3 x4
      go_at_call 80
      refine (writeByte_eq (gb + 1) (gb + 1) _ 1 _ (by decide) _ HS.out.bld (by simp only [List.length_append, List.length_cons, List.length_nil, be8_len, tx_len, lb_len]; omega) (by have := HS.out.sz; omega)).mono ?_
      rintro e w6 ⟨rfl, h1, k1⟩
      have HE := Lib.hid (other_kept HE.out HNE.out k1)
      have HS := Lib.hid (HS.out.wrote h1 k1)
      clear h1 k1
      have z0 := (blk_cell HE.out 0).trans rfl
      go_wp2_with fail
      go_at_call 81
      refine (textK_any (gb + 1) (gb + 1) _ f.f0 _ HS.out.bld (by simp only [List.length_append, List.length_cons, List.length_nil, be8_len, tx_len, lb_len]; omega) (by have := HS.out.sz; omega)).mono ?_
      rintro e w7 ⟨rfl, h1, k1⟩
      have HE := Lib.hid (other_kept HE.out HNE.out k1)
      have HS := Lib.hid (HS.out.wrote h1 k1)
      clear h1 k1 z0
      have z1 := (blk_cell HE.out 1).trans rfl
      have z2 := (blk_cell HE.out 2).trans rfl
      have z3 := (blk_cell HE.out 3).trans rfl
      have z4 := (blk_cell HE.out 4).trans rfl
      go_wp2_with fail
      go_at_call 40
      refine (IH1.out A4 c4 _ (by omega) (Kd.C_below HC4.out (HGB.out ▸ HS.out.bel)) HL4.out).mono ?_
      rintro e w8 ⟨S, rfl, hS, hb8⟩
      have HS := Lib.hid (HS.out.grow hb8)
      have hSz : S.size = (keyV f.f1).length := by rw [← hS, lb_len]
      have HSV := Lib.hid hS
      clear hS hb8 z1 z2 z3 z4
      go_wp2_with fail
      go_at_call 82
      refine (writeString_any (gb + 1) (gb + 1) _ S _ HS.out.bld (by simp only [List.length_append, List.length_cons, List.length_nil, be8_len, tx_len, lb_len]; omega) (by have := HS.out.sz; omega)).mono ?_
      rintro e w9 ⟨rfl, h1, k1⟩
      have HS := Lib.hid (HS.out.wrote h1 k1)
      clear h1 k1 hSz
      go_wp2_with fail
      go_roundw
      case rel =>
        refine ⟨j + 1, by omega, by go_num, ?_⟩
        have := HS.out
        rw [show S.data.toList = keyV f.f1 from HSV.out] at this
        rw [HT.out]
        simpa only [List.append_assoc] using this
      case measure => simp [intOf]; omega
    · obtain rfl : j = fs.length := by omega
      rw [List.take_length] at HS
      go_wp2_with fail
      go_at_call 80
      refine (writeByte_eq (gb + 1) (gb + 1) _ 0 _ (by decide) _ HS.out.bld (by simp only [List.length_append, List.length_cons, List.length_nil, be8_len, tx_len, lb_len]; omega) (by have := HS.out.sz; omega)).mono ?_
      rintro e w6 ⟨rfl, h1, k1⟩
      have HS := Lib.hid (HS.out.wrote h1 k1)
      clear h1 k1
      go_wp2_with fail
      go_at_call 73
      refine (string_any (gb + 1) (gb + 1) _ _ HS.out.bld (by have := HS.out.sz; omega)).mono ?_
      rintro e w7 ⟨rfl, h1, k1⟩
      have HS := Lib.hid (HS.out.wrote h1 k1)
      clear h1 k1
      go_wp2_with fail
      go_ret
      exact ⟨_, rfl, by rw [lb_mk, keyV_eq]; simp, HGB.out ▸ HS.out.bel⟩
theorem key_any (d : Nat) : ∀ (x : S52g S63) (A : Option Addr) (c : Nat) (w : World), szV x ≤ d → (keyV x).length ≤ 140737488355328 → Kd.C k63 w A x.f3.length x.f3 → x.f3.length ≤ c →
    Calls Try.prog 40 #[.agg #[.int .i64 x.f0, .int .i64 x.f1, .string x.f2, .slice A x.f3.length c]] w (KeyPost (keyV x) w) := by
  induction d with
  | zero => intro x A c w h; rw [szV_eq] at h; omega
  | succ d ih =>
  intro x A c w hd hlen hC hc
  obtain ⟨vk, vn, vs, fs⟩ := x
  have IH : Hid (∀ (f : S63) (A : Option Addr) (c : Nat) (w : World), f ∈ fs → (keyV f.f1).length ≤ 140737488355328 → Kd.C k63 w A f.f1.f3.length f.f1.f3 → f.f1.f3.length ≤ c → Calls Try.prog 40 #[.agg #[.int .i64 f.f1.f0, .int .i64 f.f1.f1, .string f.f1.f2, .slice A f.f1.f3.length c]] w (KeyPost (keyV f.f1) w)) :=
    Lib.hid (fun f A c w hm h1 h2 h3 => ih f.f1 A c w (by have := szFs_mem hm; rw [szF_eq] at this; rw [szV_eq] at hd; simp only at hd; omega) h1 h2 h3)
  by_cases h3 : vk = 3
  · by_cases h0 : vn < 0
    · exact key_a vk vn vs fs A c w hlen hC hc IH h3 h0
    · exact key_b vk vn vs fs A c w hlen hC hc IH h3 h0
  · exact key_c vk vn vs fs A c w hlen hC hc IH h3
def clapref1_Key.f (a0_0 a0_1 : Int) (a0_2 : ByteArray) (l0_3 : List S63) : Option ByteArray := if (keyV ⟨a0_0, a0_1, a0_2, l0_3⟩).length ≤ 140737488355328 then some ⟨(keyV ⟨a0_0, a0_1, a0_2, l0_3⟩).toArray⟩ else none
theorem clapref1_Key.calls (a0_0 : Int) (a0_1 : Int) (a0_2 : ByteArray) (A0_3 : Option Addr) (c0_3 : Nat) (l0_3 : List S63) (r : ByteArray) (w : World) (hr0_3 : Kd.C k63 w A0_3 l0_3.length l0_3) (hc0_3 : l0_3.length ≤ c0_3) (h : clapref1_Key.f a0_0 a0_1 a0_2 l0_3 = some r) :
    Calls Try.prog 40 #[.agg #[.int .i64 a0_0, .int .i64 a0_1, .string a0_2, .slice A0_3 l0_3.length c0_3]] w fun e w' => e = .returned (.string r) ∧ Below w.heap.size w w' := by
  unfold clapref1_Key.f at h
  by_cases hl : (keyV ⟨a0_0, a0_1, a0_2, l0_3⟩).length ≤ 140737488355328
  · rw [if_pos hl] at h
    refine (key_any _ ⟨a0_0, a0_1, a0_2, l0_3⟩ A0_3 c0_3 w (Nat.le_refl _) hl hr0_3 hc0_3).mono ?_
    rintro e w' ⟨S, rfl, hS, hb⟩
    refine ⟨?_, hb⟩
    have : S = r := lb_ext (by rw [hS, ← Option.some.inj h, lb_mk])
    rw [this]
  · rw [if_neg hl] at h; cases h
end PVal
end Go.Proofs.Ytilffmhmgoaejaa
