/- Contract of utf.Text (over strings.Builder), in the print's form. No statement is proved here. -/
import Derived.Test.YtnbdmmepdmmbmaaDoorUtf
import Derived.Test.YtnbdmmepdmmbmaaDoorBuilder
import Derived.Test.YtnbdmmepdmmbmaaDoorWMore
namespace Go.Proofs.YtnbdmmepdmmbmaaDoor
open Go.RowKit
set_option linter.unusedVariables false
set_option linter.unusedSimpArgs false
def encL (r : Nat) : List UInt8 :=
  if r < 128 then [UInt8.ofNat r]
  else if r < 2048 then [UInt8.ofNat (192 + r / 64), UInt8.ofNat (128 + r % 64)]
  else if r < 65536 then [UInt8.ofNat (224 + r / 4096), UInt8.ofNat (128 + r / 64 % 64), UInt8.ofNat (128 + r % 64)]
  else [UInt8.ofNat (240 + r / 262144), UInt8.ofNat (128 + r / 4096 % 64), UInt8.ofNat (128 + r / 64 % 64), UInt8.ofNat (128 + r % 64)]
theorem encL_len (r : Nat) : (encL r).length ≤ 4 := by unfold encL; repeat' split
                                                       all_goals simp
theorem or_add (x y i : Nat) (hx : x < 9223372036854775808) (hi : i ≤ 63) (hy : y < 2 ^ i) (h : x % 2 ^ i = 0) (hxy : x + y < 9223372036854775808) : bits .or .i64 (x : Int) (y : Int) = ((x + y : Nat) : Int) := by
  show IntKind.i64.wrap ((BitVec.ofInt 64 (x : Int) ||| BitVec.ofInt 64 (y : Int)).toNat : Int) = _
  have e1 := toNat_ofInt64 (x : Int)
  have e2 := toNat_ofInt64 (y : Int)
  have ex : (BitVec.ofInt 64 (x : Int)).toNat = x := by omega
  have ey : (BitVec.ofInt 64 (y : Int)).toNat = y := by omega
  rw [BitVec.toNat_or, ex, ey, nat_join i x y h hy, IntKind.wrap_i64]
  omega
theorem and63 (n : Int) : bits .and .i64 n 63 = n % 64 := i64_mask n 6 (by decide) _ (by decide)
theorem o192 (r : Nat) (h : r < 2048) : bits .or .i64 192 ((r : Int) / 64) = 192 + (r : Int) / 64 := by
  have := or_add 192 (r / 64) 6 (by omega) (by omega) (by omega) (by decide) (by omega)
  simpa using this
theorem o224 (r : Nat) (h : r < 65536) : bits .or .i64 224 ((r : Int) / 4096) = 224 + (r : Int) / 4096 := by
  have := or_add 224 (r / 4096) 4 (by omega) (by omega) (by omega) (by decide) (by omega)
  simpa using this
theorem o240 (r : Nat) (h : r ≤ 1114111) : bits .or .i64 240 ((r : Int) / 262144) = 240 + (r : Int) / 262144 := by
  have := or_add 240 (r / 262144) 3 (by omega) (by omega) (by omega) (by decide) (by omega)
  simpa using this
theorem o128 (r : Nat) : bits .or .i64 128 ((r : Int) % 64) = 128 + (r : Int) % 64 := by
  have := or_add 128 (r % 64) 6 (by omega) (by omega) (by omega) (by decide) (by omega)
  simpa using this
theorem o128a (r : Nat) : bits .or .i64 128 ((r : Int) / 64 % 64) = 128 + (r : Int) / 64 % 64 := by
  have := o128 (r / 64)
  simpa using this
theorem o128b (r : Nat) : bits .or .i64 128 ((r : Int) / 4096 % 64) = 128 + (r : Int) / 4096 % 64 := by
  have := o128 (r / 4096)
  simpa using this
def BytesOk (B b : Nat) (l : List UInt8) (w : World) (e : Ending) (w' : World) : Prop := e = .returned (.tuple #[]) ∧ Bld B b l w' ∧ Wrote B b w w'
set_option maxHeartbeats 2000000 in
set_option maxRecDepth 1000000 in
theorem bytes_1 (B b : Nat) (l : List UInt8) (r : Nat) (w : World) (h : Bld B b l w) (hlen : l.length + 4 ≤ 140737488355328) (hBw : B ≤ w.heap.size) (hr : r < 128) :
    Calls Tryd.prog 35 #[.pointer (some ⟨b, 0, none⟩), .int .i64 r] w (BytesOk B b (l ++ encL r) w) := by
  have HE := Lib.hid (show l ++ encL r = (l ++ [UInt8.ofNat (r)]) by unfold encL; rw [if_pos hr] <;> simp)
  have HO := Lib.hid h
  have HW := Lib.hid (Wrote.refl B b w)
  clear h
  go_enter Tryd.func35, Tryd.ntmps35
  go_wp2_with fail
  all_goals try (exfalso; omega)
  go_at_call 37
  refine (writeByte_eq B b _ (UInt8.ofNat (r)) _ (by first | (simp; done) | (simp; omega)) _ HO.out (by first | omega | (simp; omega)) (Nat.le_trans hBw HW.out.1.size)).mono ?_
  rintro e w1 ⟨rfl, h1, k1⟩
  have HO := Lib.hid h1
  have HW := Lib.hid (HW.out.trans k1)
  clear h1 k1
  go_wp2_with fail
  go_end0
  exact ⟨rfl, by rw [HE.out]; exact HO.out, HW.out⟩
set_option maxHeartbeats 2000000 in
set_option maxRecDepth 1000000 in
theorem bytes_2 (B b : Nat) (l : List UInt8) (r : Nat) (w : World) (h : Bld B b l w) (hlen : l.length + 4 ≤ 140737488355328) (hBw : B ≤ w.heap.size) (h0 : 128 ≤ r) (hr : r < 2048) :
    Calls Tryd.prog 35 #[.pointer (some ⟨b, 0, none⟩), .int .i64 r] w (BytesOk B b (l ++ encL r) w) := by
  have HE := Lib.hid (show l ++ encL r = ((l ++ [UInt8.ofNat (192 + r / 64)]) ++ [UInt8.ofNat (128 + r % 64)]) by unfold encL; rw [if_neg (by omega), if_pos hr] <;> simp)
  have HO := Lib.hid h
  have HW := Lib.hid (Wrote.refl B b w)
  have e1 := o192 r hr
  have e2 := o128 r
  have e3 := and63 r
  clear h
  go_enter Tryd.func35, Tryd.ntmps35
  go_wp2_with fail
  all_goals try (exfalso; omega)
  go_at_call 37
  refine (writeByte_eq B b _ (UInt8.ofNat (192 + r / 64)) _ (by first | (simp; done) | (simp; omega)) _ HO.out (by first | omega | (simp; omega)) (Nat.le_trans hBw HW.out.1.size)).mono ?_
  rintro e w1 ⟨rfl, h1, k1⟩
  have HO := Lib.hid h1
  have HW := Lib.hid (HW.out.trans k1)
  clear h1 k1
  go_wp2_with fail
  all_goals try (exfalso; omega)
  go_at_call 37
  refine (writeByte_eq B b _ (UInt8.ofNat (128 + r % 64)) _ (by first | (simp; done) | (simp; omega)) _ HO.out (by first | omega | (simp; omega)) (Nat.le_trans hBw HW.out.1.size)).mono ?_
  rintro e w2 ⟨rfl, h1, k1⟩
  have HO := Lib.hid h1
  have HW := Lib.hid (HW.out.trans k1)
  clear h1 k1
  go_wp2_with fail
  go_end0
  exact ⟨rfl, by rw [HE.out]; exact HO.out, HW.out⟩
set_option maxHeartbeats 2000000 in
set_option maxRecDepth 1000000 in
theorem bytes_3 (B b : Nat) (l : List UInt8) (r : Nat) (w : World) (h : Bld B b l w) (hlen : l.length + 4 ≤ 140737488355328) (hBw : B ≤ w.heap.size) (h0 : 2048 ≤ r) (hr : r < 65536) :
    Calls Tryd.prog 35 #[.pointer (some ⟨b, 0, none⟩), .int .i64 r] w (BytesOk B b (l ++ encL r) w) := by
  have HE := Lib.hid (show l ++ encL r = (((l ++ [UInt8.ofNat (224 + r / 4096)]) ++ [UInt8.ofNat (128 + r / 64 % 64)]) ++ [UInt8.ofNat (128 + r % 64)]) by unfold encL; rw [if_neg (by omega), if_neg (by omega), if_pos hr] <;> simp)
  have HO := Lib.hid h
  have HW := Lib.hid (Wrote.refl B b w)
  have e1 := o224 r hr
  have e2 := o128 r
  have e3 := and63 r
  have e4 := o128a r
  have e5 := and63 ((r : Int) / 64)
  clear h
  go_enter Tryd.func35, Tryd.ntmps35
  go_wp2_with fail
  all_goals try (exfalso; omega)
  go_at_call 37
  refine (writeByte_eq B b _ (UInt8.ofNat (224 + r / 4096)) _ (by first | (simp; done) | (simp; omega)) _ HO.out (by first | omega | (simp; omega)) (Nat.le_trans hBw HW.out.1.size)).mono ?_
  rintro e w1 ⟨rfl, h1, k1⟩
  have HO := Lib.hid h1
  have HW := Lib.hid (HW.out.trans k1)
  clear h1 k1
  go_wp2_with fail
  all_goals try (exfalso; omega)
  go_at_call 37
  refine (writeByte_eq B b _ (UInt8.ofNat (128 + r / 64 % 64)) _ (by first | (simp; done) | (simp; omega)) _ HO.out (by first | omega | (simp; omega)) (Nat.le_trans hBw HW.out.1.size)).mono ?_
  rintro e w2 ⟨rfl, h1, k1⟩
  have HO := Lib.hid h1
  have HW := Lib.hid (HW.out.trans k1)
  clear h1 k1
  go_wp2_with fail
  all_goals try (exfalso; omega)
  go_at_call 37
  refine (writeByte_eq B b _ (UInt8.ofNat (128 + r % 64)) _ (by first | (simp; done) | (simp; omega)) _ HO.out (by first | omega | (simp; omega)) (Nat.le_trans hBw HW.out.1.size)).mono ?_
  rintro e w3 ⟨rfl, h1, k1⟩
  have HO := Lib.hid h1
  have HW := Lib.hid (HW.out.trans k1)
  clear h1 k1
  go_wp2_with fail
  go_end0
  exact ⟨rfl, by rw [HE.out]; exact HO.out, HW.out⟩
set_option maxHeartbeats 2000000 in
set_option maxRecDepth 1000000 in
theorem bytes_4 (B b : Nat) (l : List UInt8) (r : Nat) (w : World) (h : Bld B b l w) (hlen : l.length + 4 ≤ 140737488355328) (hBw : B ≤ w.heap.size) (h0 : 65536 ≤ r) (hr : r ≤ 1114111) :
    Calls Tryd.prog 35 #[.pointer (some ⟨b, 0, none⟩), .int .i64 r] w (BytesOk B b (l ++ encL r) w) := by
  have HE := Lib.hid (show l ++ encL r = ((((l ++ [UInt8.ofNat (240 + r / 262144)]) ++ [UInt8.ofNat (128 + r / 4096 % 64)]) ++ [UInt8.ofNat (128 + r / 64 % 64)]) ++ [UInt8.ofNat (128 + r % 64)]) by unfold encL; rw [if_neg (by omega), if_neg (by omega), if_neg (by omega)] <;> simp)
  have HO := Lib.hid h
  have HW := Lib.hid (Wrote.refl B b w)
  have e1 := o240 r hr
  have e2 := o128 r
  have e3 := and63 r
  have e4 := o128a r
  have e5 := and63 ((r : Int) / 64)
  have e6 := o128b r
  have e7 := and63 ((r : Int) / 4096)
  clear h
  go_enter Tryd.func35, Tryd.ntmps35
  go_wp2_with fail
  all_goals try (exfalso; omega)
  go_at_call 37
  refine (writeByte_eq B b _ (UInt8.ofNat (240 + r / 262144)) _ (by first | (simp; done) | (simp; omega)) _ HO.out (by first | omega | (simp; omega)) (Nat.le_trans hBw HW.out.1.size)).mono ?_
  rintro e w1 ⟨rfl, h1, k1⟩
  have HO := Lib.hid h1
  have HW := Lib.hid (HW.out.trans k1)
  clear h1 k1
  go_wp2_with fail
  all_goals try (exfalso; omega)
  go_at_call 37
  refine (writeByte_eq B b _ (UInt8.ofNat (128 + r / 4096 % 64)) _ (by first | (simp; done) | (simp; omega)) _ HO.out (by first | omega | (simp; omega)) (Nat.le_trans hBw HW.out.1.size)).mono ?_
  rintro e w2 ⟨rfl, h1, k1⟩
  have HO := Lib.hid h1
  have HW := Lib.hid (HW.out.trans k1)
  clear h1 k1
  go_wp2_with fail
  all_goals try (exfalso; omega)
  go_at_call 37
  refine (writeByte_eq B b _ (UInt8.ofNat (128 + r / 64 % 64)) _ (by first | (simp; done) | (simp; omega)) _ HO.out (by first | omega | (simp; omega)) (Nat.le_trans hBw HW.out.1.size)).mono ?_
  rintro e w3 ⟨rfl, h1, k1⟩
  have HO := Lib.hid h1
  have HW := Lib.hid (HW.out.trans k1)
  clear h1 k1
  go_wp2_with fail
  all_goals try (exfalso; omega)
  go_at_call 37
  refine (writeByte_eq B b _ (UInt8.ofNat (128 + r % 64)) _ (by first | (simp; done) | (simp; omega)) _ HO.out (by first | omega | (simp; omega)) (Nat.le_trans hBw HW.out.1.size)).mono ?_
  rintro e w4 ⟨rfl, h1, k1⟩
  have HO := Lib.hid h1
  have HW := Lib.hid (HW.out.trans k1)
  clear h1 k1
  go_wp2_with fail
  go_end0
  exact ⟨rfl, by rw [HE.out]; exact HO.out, HW.out⟩

theorem bytes_any (B b : Nat) (l : List UInt8) (r : Nat) (w : World) (h : Bld B b l w) (hlen : l.length + 4 ≤ 140737488355328) (hBw : B ≤ w.heap.size) (hr : r ≤ 1114111) :
    Calls Tryd.prog 35 #[.pointer (some ⟨b, 0, none⟩), .int .i64 r] w (BytesOk B b (l ++ encL r) w) := by
  by_cases c1 : r < 128
  · exact bytes_1 B b l r w h hlen hBw c1
  by_cases c2 : r < 2048
  · exact bytes_2 B b l r w h hlen hBw (by omega) c2
  by_cases c3 : r < 65536
  · exact bytes_3 B b l r w h hlen hBw (by omega) c3
  exact bytes_4 B b l r w h hlen hBw (by omega) hr
def encs (l : List Int) : List UInt8 := l.flatMap fun r => encL r.toNat
theorem encs_len (l : List Int) : (encs l).length ≤ 4 * l.length := by
  induction l with
  | nil => simp [encs]
  | cons a t ih => have := encL_len a.toNat; simp only [encs, List.flatMap_cons, List.length_append, List.length_cons] at *; omega
theorem encs_snoc (l : List Int) (r : Int) : encs (l ++ [r]) = encs l ++ encL r.toNat := by simp [encs]
namespace Plug
open Go.Proofs.YtnbdmmepdmmbmaaDoorW.PrintWords Go.Proofs.YtnbdmmepdmmbmaaDoorW.PrintLast
def utf_Text.f (l0 : List Int) : Option (ByteArray × Int) := if l0.length ≤ 17592186043904 then (if l0.all okR = true then some (⟨(encs l0).toArray⟩, 0) else some (⟨#[]⟩, 11)) else none
def TextPost (r1 : ByteArray) (r2 : Int) (w : World) (e : Ending) (w' : World) : Prop := e = .returned (.tuple #[.string r1, .int .i64 r2]) ∧ Below w.heap.size w w'
theorem cell_of {w w' : World} {A : Option Addr} {l : List Int} (hC : Kd.C (Kd.int .i64) w A l.length l) (hb : Below w.heap.size w w') (k : Nat) (hk : k < l.length) : ∃ ad, A = some ad ∧ w'.cell? (ad.add k) = some (.int .i64 (rd l k)) := by
  obtain ⟨ad, h1, h2⟩ := (Kd.reads_of_C (d := (0 : Int)) hC).at_ (k : Int) (by omega) (by omega)
  rw [Int.toNat_natCast] at h2
  exact ⟨ad, h1, pw_cell_below hb h2⟩
set_option maxHeartbeats 2000000 in
set_option maxRecDepth 1000000 in
theorem text_any (A0 : Option Addr) (c0 : Nat) (l0 : List Int) (r1 : ByteArray) (r2 : Int) (w : World) (hr0 : Kd.C (Kd.int .i64) w A0 l0.length l0) (hc0 : l0.length ≤ c0) (hl : l0.length ≤ 17592186043904) (h : (if l0.all okR = true then ((⟨(encs l0).toArray⟩ : ByteArray), (0 : Int)) else (⟨#[]⟩, 11)) = (r1, r2)) :
    Calls Tryd.prog 33 #[.slice A0 l0.length c0] w (TextPost r1 r2 w) := by
  have HC := Lib.hid hr0
  have HH := Lib.hid h
  have HCC := Lib.hid hc0
  clear hr0 h hc0
  go_enter Tryd.func33, Tryd.ntmps33
  go_wp2_with fail
  obtain ⟨w2, hw2⟩ : ∃ w2, w2 = w.alloc (Obj.cells #[Value.pointer none, Value.slice none 0 0] 60) := ⟨_, rfl⟩
  obtain ⟨ob, hob⟩ : ∃ ob, ob = w.heap.size := ⟨_, rfl⟩
  have hbl : Bld ob ob [] w2 := by rw [hw2, hob]; exact bld_new w
  have hb2 : Below w.heap.size w w2 := by rw [hw2]; exact blw_alloc (Below.refl _ _) _
  have hs2 : w2.heap.size = ob + 1 := by rw [hw2, hob]; simp
  rw [← hw2, ← hob]
  have HB2 := Lib.hid hb2
  have HBL := Lib.hid hbl
  have HOB := Lib.hid hob
  clear hw2 hob hbl hb2
  go_loopw [9] (fun i wr => ∃ j : Nat, j ≤ l0.length ∧ i = .int .i64 j ∧ (l0.take j).all okR = true ∧ Bld ob ob (encs (l0.take j)) wr ∧ Below ob w2 wr) (fun i _ => l0.length - (intOf i).toNat)
  case atStart => exact ⟨0, Nat.zero_le _, rfl, by simp, HBL.out, Below.refl _ _⟩
  case round =>
    obtain ⟨j, hj, rfl, hall, hO, hB⟩ := hrel
    have hszr := hB.size
    have HO := Lib.hid hO
    have HB := Lib.hid hB
    have HA := Lib.hid hall
    clear hO hB hall
    by_cases hlt : j < l0.length
    · obtain ⟨ad, hA, hcell⟩ := cell_of HC.out (HB2.out.trans (HB.out.mono (by have := HOB.out; omega))) j hlt
      subst hA
      have hlen := encs_len (l0.take j)
      rw [List.length_take] at hlen
      have HT := Lib.hid (show l0.take (j + 1) = l0.take j ++ [rd l0 j] by rw [List.take_succ_eq_append_getElem hlt]; simp [rd, List.getD_eq_getElem?_getD, List.getElem?_eq_getElem hlt])
      cases hok : okR (rd l0 j)
      · have HF := Lib.hid (show l0.all okR = false by
          have : (l0.take (j + 1)).all okR = false := by rw [HT.out, List.all_append]; simp [hok]
          cases q : l0.all okR
          · rfl
          · rw [List.all_eq_true] at q; rw [List.all_eq_false] at this; obtain ⟨x, hx, h2⟩ := this; exact absurd (q x (List.mem_of_mem_take hx)) h2)
        have HOK := Lib.hid hok
        clear hok
        go_wp2_with (go_at_call 70; refine (valid_any _ _).mono ?_; rw [HOK.out]; rintro e w' ⟨rfl, rfl⟩)
        go_ret2
        have hh := HH.out
        rw [HF.out, if_neg (by decide)] at hh
        obtain ⟨rfl, rfl⟩ := Prod.mk.inj hh
        exact ⟨rfl, HB2.out.trans (HB.out.mono (by have := HOB.out; omega))⟩
      · have hr : ∃ r : Nat, rd l0 j = r ∧ r ≤ 1114111 := by
          have := of_decide_eq_true hok
          exact ⟨(rd l0 j).toNat, by omega, by omega⟩
        obtain ⟨r, hr, hr2⟩ := hr
        have HOK := Lib.hid (hr ▸ hok)
        have HR := Lib.hid hr
        have hcell' : wr.cell? (ad.add j) = some (.int .i64 r) := by rw [hcell, hr]
        clear hok hr hcell
        go_wp2_with (first
          | (go_at_call 70; refine (valid_any _ _).mono ?_; rw [HOK.out]; rintro e w' ⟨rfl, rfl⟩)
          | (go_at_call 35; refine (bytes_any ob ob _ r _ HO.out (by omega) (by omega) hr2).mono ?_; rintro e w5 ⟨rfl, hO5, hB5⟩; have HO5 := Lib.hid hO5; have HB5 := Lib.hid hB5; clear hO5 hB5))
        go_roundw
        case rel => exact ⟨j + 1, by omega, by go_num, by rw [HT.out, List.all_append, HA.out, HR.out]; simpa using HOK.out, by rw [HT.out, encs_snoc, HR.out]; exact HO5.out, HB.out.trans HB5.out.1⟩
        case measure => simp [intOf]; omega
    · obtain rfl : j = l0.length := by omega
      rw [List.take_of_length_le (by omega)] at HO HA
      go_wp2_with (go_at_call 36; refine (string_any ob ob _ _ HO.out (by omega)).mono ?_; rintro e w5 ⟨rfl, hO5, hB5⟩; have HB5 := Lib.hid hB5; clear hO5 hB5)
      go_ret2
      have hh := HH.out
      rw [if_pos HA.out] at hh
      obtain ⟨rfl, rfl⟩ := Prod.mk.inj hh
      exact ⟨rfl, HB2.out.trans ((HB.out.trans HB5.out.1).mono (by have := HOB.out; omega))⟩
theorem utf_Text.calls (A0 : Option Addr) (c0 : Nat) (l0 : List Int) (r1 : ByteArray) (r2 : Int) (w : World) (hr0 : Kd.C (Kd.int .i64) w A0 l0.length l0) (hc0 : l0.length ≤ c0) (h : utf_Text.f l0 = some (r1, r2)) :
    Calls Tryd.prog 33 #[.slice A0 l0.length c0] w fun e w' => e = .returned (.tuple #[.string r1, .int .i64 r2]) ∧ Below w.heap.size w w' := by
  unfold utf_Text.f at h
  by_cases hl : l0.length ≤ 17592186043904
  · rw [if_pos hl] at h
    exact (text_any A0 c0 l0 r1 r2 w hr0 hc0 hl (by split at h <;> (rename_i q; first | (rw [if_pos q]; exact Option.some.inj h) | (rw [if_neg q]; exact Option.some.inj h)))).mono fun _ _ q => q
  · rw [if_neg hl] at h; cases h
end Plug
end Go.Proofs.YtnbdmmepdmmbmaaDoor
