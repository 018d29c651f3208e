/- Contract of value.Name (a range over the bytes of a string), in the print's form. No statement is proved here. -/
import Derived.Test.YticdlpkjjokbcaaAid
import Derived.Test.YticdlpkjjokbcaaPValx0
import Derived.Lib.ConvBytes
namespace Go.Proofs.Yticdlpkjjokbcaa.PVal
open Go.RowKit Go.Proofs.YticdlpkjjokbcaaW.PrintWords Go.Proofs.YticdlpkjjokbcaaW.PrintLast
set_option linter.unusedVariables false
set_option linter.unusedSimpArgs false
def nmC (c : UInt8) : Bool := (97 ≤ c.toNat && c.toNat ≤ 122) || (48 ≤ c.toNat && c.toNat ≤ 57) || c.toNat == 45
/-- What Name tells: a letter first, at most 16 bytes, all of the given signs. -/
def nameB (s : ByteArray) : Bool := match s.data.toList with
  | [] => false
  | a :: t => decide (t.length < 16) && decide (97 ≤ a.toNat) && decide (a.toNat ≤ 122) && (a :: t).all nmC
theorem nameB_long (s : ByteArray) (h : 16 < s.size) : nameB s = false := by
  have hl : s.data.toList.length = s.size := Array.length_toList ..
  unfold nameB
  cases e : s.data.toList with
  | nil => rfl
  | cons a t => rw [e, List.length_cons] at hl; simp; omega
theorem all_take {α : Type} (p : α → Bool) (l : List α) (j : Nat) (h : j < l.length) : (l.take (j + 1)).all p = ((l.take j).all p && p l[j]) := by
  rw [List.take_succ_eq_append_getElem h, List.all_append]; simp
theorem all_false {α : Type} (p : α → Bool) (l : List α) (j : Nat) (h : j < l.length) (hp : p l[j] = false) : l.all p = false := by
  rw [List.all_eq_false]; exact ⟨l[j], List.getElem_mem h, by rw [hp]; simp⟩
theorem nameB_eq (s : ByteArray) (h0 : 0 < s.size) : nameB s = (decide (s.size ≤ 16) && decide (97 ≤ s[0].toNat) && decide (s[0].toNat ≤ 122) && s.data.toList.all nmC) := by
  have hl : s.data.toList.length = s.size := Array.length_toList ..
  have h1 : 0 < s.data.toList.length := by omega
  have e0 : s[0] = s.data.toList[0] := rfl
  rw [e0]
  unfold nameB
  clear e0
  generalize s.data.toList = l at *
  cases l with
  | nil => simp at h1
  | cons a t =>
    rw [List.length_cons] at hl
    have : decide (t.length < 16) = decide (s.size ≤ 16) := by simp; omega
    show (decide (t.length < 16) && decide (97 ≤ a.toNat) && decide (a.toNat ≤ 122) && (a :: t).all nmC) = _
    rw [this]; rfl
theorem bytes_below (w : World) (s : ByteArray) : Below w.heap.size w (Lib.bytesWorld w 5 s) := ⟨by simp [Lib.bytesWorld, World.freeze]; try rfl, by simp [Lib.bytesWorld, World.freeze]; try rfl, by simp [Lib.bytesWorld, World.freeze]; try rfl, by rw [Lib.bytesWorld_size]; exact Nat.le_succ _, fun k hk => Lib.bytesWorld_at_old w 5 s k hk⟩
set_option maxHeartbeats 4000000 in
set_option maxRecDepth 1000000 in
theorem name_any (s : ByteArray) (w : World) : Calls Try.prog 24 #[.string s] w fun e w' => e = .returned (.bool (nameB s)) ∧ Below w.heap.size w w' := by
  rcases Nat.eq_zero_or_pos s.size with h0 | h0
  · have hs : s = ⟨#[]⟩ := by
      cases s with | mk d => cases d with | mk l => cases l with
        | nil => rfl
        | cons a t => simp [ByteArray.size] at h0
    subst hs
    go_enter Try.func24, Try.ntmps24
    go_wp2_with fail
    all_goals (go_ret; exact ⟨rfl, Below.refl _ _⟩)
  have hne : s.toList.isEmpty = false := by
    rw [Lib.toList_data, List.isEmpty_eq_false_iff]; intro e; have : s.data.toList.length = s.size := Array.length_toList ..; rw [e] at this; simp at this; omega
  rcases Nat.lt_or_ge 16 s.size with hlen | hlen
  · have HN := Lib.hid (nameB_long s (by omega))
    go_enter Try.func24, Try.ntmps24
    go_wp2_with fail
    all_goals first | (exfalso; simp_all; done) | (exfalso; omega) | (go_ret; exact ⟨by rw [HN.out]; try rfl, Below.refl _ _⟩)
  have HN := Lib.hid (nameB_eq s h0)
  have hD : s.data.toList.length = s.size := Array.length_toList ..
  go_enter Try.func24, Try.ntmps24
  go_wp2_with fail
  all_goals first | (exfalso; simp_all; done) | (exfalso; omega) | (go_ret; refine ⟨?_, Below.refl _ _⟩; refine ret_bool ?_; rw [HN.out]; simp; omega) | skip
  have HN := Lib.hid (show nameB s = s.data.toList.all nmC by rw [HN.out]; simp; omega)
  rw [Lib.run_convert_string_bytes w 9 55 5 s Try.underlying9 Try.underlying55 Try.underlying5]
  simp only [Result.andThen]
  rw [Oper.upon_value]
  have hbl := bytes_below w s
  have hc := fun x (hx : x < s.size) => Lib.bytesWorld_cell w 5 s x hx
  generalize Lib.bytesWorld w 5 s = w1 at *
  generalize grownCap w s.size 0 5 = cp at *
  have HC := Lib.hid hc
  have HB := Lib.hid hbl
  clear hc hbl
  go_wp2_with fail
  go_loop [25] (fun i => ∃ j : Nat, j ≤ s.size ∧ i = .int .i64 j ∧ (s.data.toList.take j).all nmC = true) (fun i => s.size - (intOf i).toNat)
  case atStart => exact ⟨0, by omega, rfl, rfl⟩
  case round =>
    obtain ⟨j, hj, rfl, hall⟩ := hrel
    by_cases hlt : j < s.size
    · have hcj := HC.out j hlt
      have hjl : j < s.data.toList.length := by omega
      have HAT := Lib.hid (all_take nmC s.data.toList j hjl)
      have HAF := Lib.hid (all_false nmC s.data.toList j hjl)
      have hgd : s.data.toList.getD j 0 = s.data.toList[j] := by rw [List.getD_eq_getElem?_getD, List.getElem?_eq_getElem hjl]; rfl
      rw [hgd] at hcj
      have HALL := Lib.hid hall
      clear hgd hall
      generalize s.data.toList[j] = c at *
      have hcn := c.toNat_lt
      go_wp2_with fail
      all_goals first
        | (exfalso; omega)
        | (go_ret; refine ⟨ret_bool ?_, HB.out⟩; rw [HN.out, HAF.out (by simp_all [nmC]; omega)]; done)
        | (refine ⟨⟨j + 1, by omega, by go_num, ?_⟩, by simp [intOf]; omega⟩; rw [HAT.out, HALL.out]; simp_all [nmC]; done)
        | (refine ⟨⟨j + 1, by omega, by go_num, ?_⟩, by simp [intOf]; omega⟩; rw [HAT.out, HALL.out]; simp_all [nmC]; omega)
    · obtain rfl : j = s.size := by omega
      rw [List.take_of_length_le (by omega)] at hall
      have HALL := Lib.hid hall
      clear hall
      go_wp2_with fail
      go_ret
      exact ⟨by rw [HN.out, HALL.out]; try rfl, HB.out⟩
def value_Name.f (a0 : ByteArray) : Option Bool := some (nameB a0)
theorem value_Name.calls (a0 : ByteArray) (r : Bool) (w : World) (h : value_Name.f a0 = some r) :
    Calls Try.prog 24 #[.string a0] w fun e w' => e = .returned (.bool r) ∧ Below w.heap.size w w' := by
  injection h with h
  subst h
  exact name_any a0 w
end Go.Proofs.Yticdlpkjjokbcaa.PVal
