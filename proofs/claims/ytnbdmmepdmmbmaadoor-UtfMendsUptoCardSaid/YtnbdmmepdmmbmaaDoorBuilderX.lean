/- Contract of strings.Builder's WriteByte once more: what lies below B stands, but for the builder's block b itself (which lies below B). No statement is proved here. -/
import Derived.Test.YtnbdmmepdmmbmaaDoorBuilder
namespace Go.Proofs.YtnbdmmepdmmbmaaDoor
open Go.RowKit
set_option linter.unusedVariables false
set_option linter.unusedSimpArgs false
/-- What lies below B stands, but for block b. -/
structure But (B b : Nat) (w w' : World) : Prop where
  os : w'.os = w.os
  tape : w'.tape = w.tape
  output : w'.output = w.output
  size : w.heap.size ≤ w'.heap.size
  block : ∀ k, k < B → k ≠ b → w'.heap[k]? = w.heap[k]?
theorem But.refl (B b : Nat) (w : World) : But B b w w := ⟨rfl, rfl, rfl, Nat.le_refl _, fun _ _ _ => rfl⟩
theorem But.trans {B b : Nat} {x y z : World} (h : But B b x y) (k : But B b y z) : But B b x z :=
  ⟨k.os.trans h.os, k.tape.trans h.tape, k.output.trans h.output, Nat.le_trans h.size k.size, fun i hi hn => (k.block i hi hn).trans (h.block i hi hn)⟩
theorem But.of {B b : Nat} {w w' : World} (h : Below B w w') : But B b w w' := ⟨h.os, h.tape, h.output, h.size, fun k hk _ => h.block k hk⟩
theorem But.below {B b B0 : Nat} {w w' : World} (h : But B b w w') (h1 : B0 ≤ b) (h2 : B0 ≤ B) : Below B0 w w' := ⟨h.os, h.tape, h.output, h.size, fun k hk => h.block k (by omega) (by omega)⟩
theorem But.setCell {B b : Nat} {w w' : World} (h : But B b w w') {p : Addr} (hp : B ≤ p.block ∨ p.block = b) (v : Value) : But B b w (w'.setCell p v) :=
  ⟨h.os, h.tape, h.output, by simpa using h.size, fun k hk hn => (Below.heap_setCell _ _ _ _ (by omega)).trans (h.block k hk hn)⟩
/-- The builder's block b lies below B, its row from B on. -/
def BldX (B b : Nat) (l : List UInt8) (w : World) : Prop :=
  b < B ∧ ∃ p v, w.heap[b]? = some (.cells #[p, v] 60 (0, 0)) ∧ (p = .pointer none ∨ p = .pointer (some ⟨b, 0, none⟩)) ∧ w.ownsRowF B 5 1 v (Lib.byteCells l).length (Lib.byteCells l) ∧ v.ownBlock ≠ some b
theorem BldX.toBld {B b : Nat} {l : List UInt8} {w : World} (h : BldX B b l w) : Bld b b l w := by
  obtain ⟨hB, p, v, h1, hp, hown, hne⟩ := h
  have ho : w.ownsRowF b 5 1 v (Lib.byteCells l).length (Lib.byteCells l) := by
    refine ⟨hown.1, ?_⟩
    rcases hown.2 with q | ⟨g, cap, cur, fz, hv, hg, r⟩
    · exact .inl q
    · exact .inr ⟨g, cap, cur, fz, hv, by omega, r⟩
  rcases hp with rfl | rfl
  · exact .inl ⟨Nat.le_refl _, v, h1, ho, hne⟩
  · exact .inr ⟨Nat.le_refl _, v, h1, ho, hne⟩
theorem copyCheckX (B b : Nat) (l : List UInt8) (w : World) (h : BldX B b l w) :
    Calls Tryd.prog 72 #[.pointer (some ⟨b, 0, none⟩)] w fun e w' => e = .returned (.tuple #[]) ∧ (∃ v, w'.heap[b]? = some (.cells #[.pointer (some ⟨b, 0, none⟩), v] 60 (0, 0)) ∧ w'.ownsRowF B 5 1 v (Lib.byteCells l).length (Lib.byteCells l) ∧ v.ownBlock ≠ some b) ∧ But B b w w' := by
  obtain ⟨hB, p, v, h1, hp, hown, hne⟩ := h
  have hbl := BldX.toBld ⟨hB, p, v, h1, hp, hown, hne⟩
  rcases hp with rfl | rfl
  · have q : Lib.BuilderAtF 60 5 b b (.pointer none) (Lib.byteCells l) w := by
      rcases hbl with q | ⟨q1, v2, q2, q3⟩
      · exact q
      · rw [h1] at q2; injection q2 with q2; injection q2 with q2; simp at q2
    refine (copyCheck_fresh b w q.cell0 q.shape q.frozen0).mono ?_
    rintro e w' ⟨rfl, rfl⟩
    refine ⟨rfl, ⟨v, ?_, ?_, hne⟩, (But.refl B b w).setCell (p := ⟨b, 0, none⟩) (.inr rfl) _⟩
    · simp [World.setCell, Array.getElem?_modify, h1]
    · exact hown.kept (row := some b) ⟨rfl, rfl, rfl, by simp [World.setCell], fun k _ hk => Below.heap_setCell _ _ _ _ (fun e => hk (by simp [e]))⟩ (Or.inr hne)
  · refine (copyCheck_used b w (by rw [Lib.cell_of_heap h1]; rfl)).mono ?_
    rintro e w' ⟨rfl, rfl⟩
    exact ⟨rfl, ⟨v, h1, hown, hne⟩, But.refl _ _ _⟩
set_option maxHeartbeats 2000000 in
set_option maxRecDepth 100000 in
theorem writeByteX (B b : Nat) (l : List UInt8) (c : UInt8) (x : Int) (hx : x = c.toNat) (w : World) (h : BldX B b l w) (hlen : l.length + 1 ≤ 140737488355328) (hBw : B ≤ w.heap.size) :
    Calls Tryd.prog 37 #[.pointer (some ⟨b, 0, none⟩), .int .u8 x] w fun e w' => e = .returned .nilIface ∧ BldX B b (l ++ [c]) w' ∧ But B b w w' := by
  subst hx
  have hbB := h.1
  obtain ⟨i0, hi, hz0, hz1, hz2⟩ := info_parts byte_info
  have hlen' : (Lib.byteCells l).length + 1 ≤ 140737488355328 := by rw [Lib.byteCells_length]; exact hlen
  have hcc := copyCheckX B b l w h
  generalize hbs : Lib.byteCells l = bs at hlen' hcc
  have hcs : Lib.byteCells (l ++ [c]) = bs ++ [.int .u8 c.toNat] := by rw [cells_snoc, hbs]
  have HCS := Lib.hid hcs
  clear hcs hbs
  go_enter Tryd.func37, Tryd.ntmps37
  go_wp2_with (go_at_call 72; refine hcc.mono ?_)
  rintro e w1 ⟨rfl, ⟨v, hbk, hown, hne⟩, hb1⟩
  have c0 : w1.cell? ⟨b, 0, none⟩ = some (.pointer (some ⟨b, 0, none⟩)) := by rw [Lib.cell_of_heap hbk]; rfl
  have c1 : w1.cell? ⟨b, 1, none⟩ = some v := by rw [Lib.cell_of_heap hbk]; rfl
  go_wp2_with (at_builtin; refine wpList_append_ownF _ rfl _ _ 30 rfl B 5 i0 (.int .u8 0) 1 1 Tryd.underlying30 hi hz0 hz1 hz2 rfl (by decide) _ _ _ rfl (hown.alloc _) ⟨w1.heap.size, 0, none⟩ 1 1 [.int .u8 c.toNat] rfl rfl ?c1 ?c2 ?c3 ?c4 ?c5 ?_)
  case c1 =>
    intro j u hj
    match j, hj with
    | 0, hj => simp at hj; subst hj; simp [Addr.add]
  case c2 => intro u hu; simp at hu; subst hu; rfl
  case c3 => unfold maxLen; omega
  case c4 => omega
  case c5 => have := hb1.size; simp; omega
  intro v' w2 hown' hgrow _
  have hlt : b < w1.heap.size := by
    rcases Nat.lt_or_ge b w1.heap.size with h' | h'
    · exact h'
    · simp [Array.getElem?_eq_none h'] at hbk
  have hb2 : w2.heap[b]? = some (.cells #[.pointer (some ⟨b, 0, none⟩), v] 60 (0, 0)) := by
    rw [hgrow.block b (by simp; omega) (fun e => hne e.symm), Lib.alloc_old w1 _ b hlt]
    exact hbk
  have d0 : w2.cell? ⟨b, 0, none⟩ = some (.pointer (some ⟨b, 0, none⟩)) := by rw [Lib.cell_of_heap hb2]; rfl
  have d1 : w2.cell? ⟨b, 1, none⟩ = some v := by rw [Lib.cell_of_heap hb2]; rfl
  have f1 : w2.frozen? ⟨b, 1, none⟩ = false := Lib.frozen_of_heap hb2 1
  obtain ⟨g, cap, rfl⟩ : ∃ g cap, v' = .slice (some ⟨g, 0, none⟩) (bs.length + 1) cap := by
    rcases hown'.2 with ⟨_, h0⟩ | ⟨g, cap, cur, fz, hv, _⟩
    · omega
    · exact ⟨g, cap, hv⟩
  go_wp2
  go_ret
  have hgr : Below B w1 w2 := ((Below.refl B w1).alloc (by have := hb1.size; omega) _).grown hgrow (by have := hb1.size; simp; omega) (fun k hk => (hown.lt k hk).1)
  refine ⟨rfl, ?_, (hb1.trans (But.of hgr)).setCell (p := ⟨b, 1, none⟩) (.inr rfl) _⟩
  unfold BldX
  rw [HCS.out]
  obtain ⟨_, v3, k1, k2, k3⟩ := Lib.BuilderAtF.put (T := 60) (e := 5) (B := b) (Nat.le_refl _) hb2 (bs' := bs ++ [.int .u8 c.toNat]) (v' := .slice (some ⟨g, 0, none⟩) (bs.length + 1) cap) (by
    refine ⟨by simp, ?_⟩
    rcases hown'.2 with q | ⟨g2, cap2, cur, fz, hv, hg, r⟩
    · exact .inl ⟨q.1, by simpa using q.2⟩
    · exact .inr ⟨g2, cap2, cur, fz, by simpa using hv, by omega, by simpa using r⟩) (by decide)
  refine ⟨hbB, _, v3, k1, .inr rfl, ⟨k2.1, ?_⟩, k3⟩
  have hv3 : v3 = .slice (some ⟨g, 0, none⟩) (bs.length + 1) cap := by
    have : ((w2.setCell ⟨b, 1, none⟩ (.slice (some ⟨g, 0, none⟩) (bs.length + 1) cap)).heap[b]? : Option Obj) = some (.cells #[.pointer (some ⟨b, 0, none⟩), .slice (some ⟨g, 0, none⟩) (bs.length + 1) cap] 60 (0, 0)) := by simp [World.setCell, Array.getElem?_modify, hb2]
    rw [this] at k1; simp at k1; exact k1.symm
  have hgB : B ≤ g := (hown'.lt g rfl).1
  rcases k2.2 with q | ⟨g2, cap2, cur, fz, hv, hg, r⟩
  · exact .inl q
  · refine .inr ⟨g2, cap2, cur, fz, hv, ?_, r⟩
    rw [hv3] at hv; injection hv with e1; injection e1 with e1; injection e1 with e1; omega
end Go.Proofs.YtnbdmmepdmmbmaaDoor
