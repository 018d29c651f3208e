/- The walk of the law BitsReads. -/
import Derived.Test.YtnbdmmepdmmbmaaDoorBitsRead
import Derived.Test.YtnbdmmepdmmbmaaDoorShelf
import Derived.Shelf.Strings.SlTrimAscii
namespace Go.Proofs.YtnbdmmepdmmbmaaDoor
open Go.RowKit
set_option linter.unusedVariables false
set_option linter.unusedSimpArgs false
theorem trim_any (s : ByteArray) (w : World) (hs : s.size ≤ 140737488351232) : Calls Tryd.prog 14 #[.string s, .string ⟨#[48, 49]⟩] w fun e w' => e = .returned (.string ⟨(Lib.trimS s.data.toList [48, 49]).toArray⟩) ∧ Below w.heap.size w w' :=
  Any.strings_Trim_laid Tryd.lays160 (by kernel_rfl) s ⟨#[48, 49]⟩ w (by omega) (by decide) (ascii_of_all (by decide))
theorem cut_dig (c : UInt8) : [48, 49].contains c = dig c := by simp [dig]; rfl
theorem dropWhile_nil {p : UInt8 → Bool} : ∀ {l : List UInt8}, l.dropWhile p = [] ↔ l.all p = true
  | [] => by simp
  | x :: l => by
    cases h : p x
    · simp [h]
    · rw [List.dropWhile_cons_of_pos h, dropWhile_nil]; simp [h]
theorem dropWhile_head {p : UInt8 → Bool} : ∀ {l m : List UInt8} {x : UInt8}, l.dropWhile p = x :: m → p x = false
  | [], _, _, h => by simp at h
  | y :: l, m, x, h => by
    cases q : p y
    · rw [List.dropWhile_cons_of_neg (by simp [q])] at h
      injection h with h1 _
      rw [← h1]; exact q
    · rw [List.dropWhile_cons_of_pos q] at h
      exact dropWhile_head h
theorem trim_nil (l : List UInt8) : Lib.trimS l [48, 49] = [] ↔ l.all dig = true := by
  have e : (fun c : UInt8 => [48, 49].contains c) = dig := funext cut_dig
  unfold Lib.trimS Lib.trimLeftS Lib.trimRightS
  rw [show (([48, 49] : List UInt8).contains ·) = dig from e]
  constructor
  · intro h
    have h1 := dropWhile_nil.1 h
    rw [List.all_reverse] at h1
    have h2 : l.reverse.dropWhile dig = [] := by
      cases q : l.reverse.dropWhile dig with
      | nil => rfl
      | cons x m =>
        have hx : dig x = true := by rw [q] at h1; simp at h1; exact h1.1
        rw [dropWhile_head q] at hx; cases hx
    have := dropWhile_nil.1 h2
    rwa [List.all_reverse] at this
  · intro h
    have : l.reverse.dropWhile dig = [] := dropWhile_nil.2 (by rw [List.all_reverse]; exact h)
    rw [this]; rfl
theorem bits_str (s : ByteArray) (h : s.data.toList.all dig = true) : s.data.toList = digs (bitsS s) := by
  unfold digs bitsS
  rw [List.map_map]
  conv => lhs; rw [← List.map_id s.data.toList]
  refine List.map_congr_left fun x hx => ?_
  have := List.all_eq_true.1 h x hx
  rcases (by unfold dig at this; simpa using this : x = 48 ∨ x = 49) with rfl | rfl <;> rfl
set_option maxRecDepth 100000 in
set_option maxHeartbeats 2000000 in
theorem BitsReads_walk (s : ByteArray) (w : World) (hs : s.size ≤ 140737488351232) : Calls Tryd.prog 4 #[.string s] w (Tr w) := by
  have HT := Lib.hid (trim_any s · hs)
  have HS := Lib.hid (fun h => bits_str s h)
  obtain ⟨f, hf⟩ : ∃ f, f = readF s := ⟨_, rfl⟩
  have hread := fun w => read_any s w
  rw [← hf] at hread
  unfold readF at hf
  have HF := Lib.hid hf
  clear hf
  have hcut : ∀ T : ByteArray, (T.toList.isEmpty = true) ↔ T = ⟨#[]⟩ := fun T => by
    rw [Lib.toList_data, List.isEmpty_iff]
    constructor
    · intro h; cases T; congr 1; exact Array.toList_eq_nil_iff.1 h
    · rintro rfl; rfl
  go_enter Tryd.func4, Tryd.ntmps4
  go_wp2_with fail
  go_at_call 13
  refine (hread _).mono ?_
  rintro e w1 ⟨A, n, c, m, rfl, hO, hbel, _⟩
  have HO := Lib.hid (hO.below (blw_alloc (Below.refl _ _) (.cells #[.slice A n c, .int .i64 m] 32)))
  have HB := Lib.hid (blw_alloc hbel (.cells #[.slice A n c, .int .i64 m] 32))
  have c0 : (w1.alloc (.cells #[.slice A n c, .int .i64 m] 32)).cell? ⟨w1.heap.size, 0, none⟩ = some (.slice A n c) := by simp [go_sem]
  have c1 : (w1.alloc (.cells #[.slice A n c, .int .i64 m] 32)).cell? ⟨w1.heap.size, 1, none⟩ = some (.int .i64 m) := by simp [go_sem]
  have hlt : w1.heap.size < (w1.alloc (.cells #[.slice A n c, .int .i64 m] 32)).heap.size := by simp
  clear hO hbel hread
  go_wp2_with fail
  obtain ⟨b, hb⟩ : ∃ b, b = w1.heap.size := ⟨_, rfl⟩
  rw [← hb] at c0 c1 hlt ⊢
  generalize w1.alloc (.cells #[.slice A n c, .int .i64 m] 32) = W at HO HB c0 c1 hlt
  clear hb
  go_at_call 14
  refine (HT.out _).mono ?_
  rintro e w2 ⟨rfl, hb2⟩
  have HO := Lib.hid (HO.out.below hb2)
  have HB := Lib.hid (blw_then HB.out hb2)
  have c0 := (hb2.cell (p := ⟨b, 0, none⟩) hlt).trans c0
  have c1 := (hb2.cell (p := ⟨b, 1, none⟩) hlt).trans c1
  have hlt := Nat.lt_of_lt_of_le hlt hb2.size
  clear hb2
  obtain ⟨T, hTe⟩ : ∃ T : ByteArray, T = ⟨(Lib.trimS s.data.toList [48, 49]).toArray⟩ := ⟨_, rfl⟩
  rw [← hTe]
  have hall : T.toList.isEmpty = s.data.toList.all dig := by
    rw [Bool.eq_iff_iff, hcut T, ← trim_nil, hTe]
    constructor
    · intro h; have := congrArg (fun t : ByteArray => t.data.toList) h; simpa using this
    · intro h; rw [h]
  clear hTe hcut
  have HH := Lib.hid (fun (q : f = 0) => show s.data.toList = digs (bitsS s) from HS.out (by
    have := HF.out
    rw [q] at this
    by_cases h1 : 64000 < s.size
    · rw [if_pos h1] at this; exact absurd this (by decide)
    · rw [if_neg h1] at this
      by_cases h2 : s.data.toList.all dig = true
      · exact h2
      · rw [if_neg h2] at this; exact absurd this (by decide)))
  have HA := Lib.hid hall
  clear hall
  by_cases h64 : 64000 < s.size
  · obtain rfl : f = 2 := by have := HF.out; rwa [if_pos h64] at this
    cases hE : T.toList.isEmpty
    · go_wp2_with (first
        | (go_at_call 15; refine (strung_any _).mono ?_; rintro e w3 ⟨rfl, hb3⟩; have c0 := (hb3.cell (p := ⟨b, 0, none⟩) hlt).trans c0; have c1 := (hb3.cell (p := ⟨b, 1, none⟩) hlt).trans c1; have HO := Lib.hid (HO.out.below hb3); have HB := Lib.hid (blw_then HB.out hb3); clear hb3)
        | (go_at_call 16; refine (holds_gen HO.out rfl _ (fun q => HH.out (by first | exact q | trivial))).mono ?_; rintro e w4 ⟨rfl, hb4⟩; have HB := Lib.hid (blw_then HB.out hb4); clear hb4))
      all_goals try (exfalso; omega)
      go_ret
      exact ⟨rfl, HB.out⟩
    · go_wp2_with (first
        | (go_at_call 15; refine (strung_any _).mono ?_; rintro e w3 ⟨rfl, hb3⟩; have c0 := (hb3.cell (p := ⟨b, 0, none⟩) hlt).trans c0; have c1 := (hb3.cell (p := ⟨b, 1, none⟩) hlt).trans c1; have HO := Lib.hid (HO.out.below hb3); have HB := Lib.hid (blw_then HB.out hb3); clear hb3)
        | (go_at_call 16; refine (holds_gen HO.out rfl _ (fun q => HH.out (by first | exact q | trivial))).mono ?_; rintro e w4 ⟨rfl, hb4⟩; have HB := Lib.hid (blw_then HB.out hb4); clear hb4))
      all_goals try (exfalso; omega)
      go_ret
      exact ⟨rfl, HB.out⟩
  · have h65 : ¬ (64000 < (s.size : Int)) := by omega
    cases hE : T.toList.isEmpty
    · obtain rfl : f = 14 := by have := HF.out; rw [if_neg h64, if_neg (by rw [← HA.out, hE]; decide)] at this; exact this
      go_wp2_with (first
        | (go_at_call 15; refine (strung_any _).mono ?_; rintro e w3 ⟨rfl, hb3⟩; have c0 := (hb3.cell (p := ⟨b, 0, none⟩) hlt).trans c0; have c1 := (hb3.cell (p := ⟨b, 1, none⟩) hlt).trans c1; have HO := Lib.hid (HO.out.below hb3); have HB := Lib.hid (blw_then HB.out hb3); clear hb3)
        | (go_at_call 16; refine (holds_gen HO.out rfl _ (fun q => HH.out (by first | exact q | trivial))).mono ?_; rintro e w4 ⟨rfl, hb4⟩; have HB := Lib.hid (blw_then HB.out hb4); clear hb4))
      all_goals try (exfalso; omega)
      go_ret
      exact ⟨rfl, HB.out⟩
    · obtain rfl : f = 0 := by have := HF.out; rw [if_neg h64, if_pos (by rw [← HA.out, hE])] at this; exact this
      go_wp2_with (first
        | (go_at_call 15; refine (strung_any _).mono ?_; rintro e w3 ⟨rfl, hb3⟩; have c0 := (hb3.cell (p := ⟨b, 0, none⟩) hlt).trans c0; have c1 := (hb3.cell (p := ⟨b, 1, none⟩) hlt).trans c1; have HO := Lib.hid (HO.out.below hb3); have HB := Lib.hid (blw_then HB.out hb3); clear hb3)
        | (go_at_call 16; refine (holds_gen HO.out rfl _ (fun q => HH.out (by first | exact q | trivial))).mono ?_; rintro e w4 ⟨rfl, hb4⟩; have HB := Lib.hid (blw_then HB.out hb4); clear hb4))
      all_goals try (exfalso; omega)
      go_ret
      exact ⟨rfl, HB.out⟩
end Go.Proofs.YtnbdmmepdmmbmaaDoor
