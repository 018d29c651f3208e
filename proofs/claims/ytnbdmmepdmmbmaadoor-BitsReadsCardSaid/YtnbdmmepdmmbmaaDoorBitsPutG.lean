/- What a call that makes a string of bits gives: the bits, or nothing beside an error. -/
import Derived.Test.YtnbdmmepdmmbmaaDoorBitsHolds
namespace Go.Proofs.YtnbdmmepdmmbmaaDoor
open Go.RowKit
set_option linter.unusedVariables false
/-- What a call left that gives bits and an error: nothing beside an error. -/
def OutOk (f : Int) (l : List Bool) (v : Value) (m : Int) (w : World) : Prop := (f ≠ 0 ∧ v = .slice none 0 0 ∧ m = 0) ∨ (f = 0 ∧ RB w v (pack l) ∧ m = l.length ∧ l.length ≤ 64000)
theorem OutOk.below {f l v m w w'} (h : OutOk f l v m w) (hb : Below w.heap.size w w') : OutOk f l v m w' := by
  rcases h with h | ⟨h1, h2, h3⟩
  · exact .inl h
  · exact .inr ⟨h1, h2.below hb, h3⟩
def PutG (f : Int) (l : List Bool) (w : World) (e : Ending) (w' : World) : Prop := ∃ A n c m, e = .returned (.tuple #[.agg #[.slice A n c, .int .i64 m], .int .i64 f]) ∧ OutOk f l (.slice A n c) m w' ∧ Below w.heap.size w w' ∧
  ∀ (b o b' o' : Nat) (y z : Value), b < w.heap.size → b' < w.heap.size → OutOk f l (.slice A n c) m ((w'.setCell ⟨b, o, none⟩ y).setCell ⟨b', o', none⟩ z)
theorem PutG.of_zeroed {f : Int} {l : List Bool} {w : World} (h : f ≠ 0) : ∀ e w', Zeroed f w e w' → PutG f l w e w' := by
  rintro e w' ⟨rfl, hb⟩; exact ⟨_, _, _, _, rfl, .inl ⟨h, rfl, rfl⟩, hb, fun _ _ _ _ _ _ _ _ => .inl ⟨h, rfl, rfl⟩⟩
def BOk (l : List Bool) (w : World) (e : Ending) (w' : World) : Prop :=
  ∃ v, e = .returned (.tuple #[.agg #[v, .int .i64 l.length], .int .i64 0]) ∧ w'.ownsRow w.heap.size 5 1 v (pack l).length (Lib.byteCells (pack l)) ∧ Below w.heap.size w w'
theorem PutG.of_ok {l : List Bool} {w : World} (hl : l.length ≤ 64000) : ∀ e w', BOk l w e w' → PutG 0 l w e w' := by
  rintro e w' ⟨v, rfl, ho, hb⟩
  obtain ⟨A, c, rfl⟩ := own_slc ho
  exact ⟨_, _, _, _, rfl, .inr ⟨rfl, RB.of_own ho, rfl, hl⟩, hb, fun b o b' o' y z h1 h2 => .inr ⟨rfl, RB.of_own (ownsRow_setCell_below (ownsRow_setCell_below ho h1 _) h2 _), rfl, hl⟩⟩
theorem holds_gen {f h : Int} {l : List Bool} {v : Value} {m : Int} {w : World} (ho : OutOk f l v m w) (e : f = h) (S : ByteArray) (hS : f = 0 → S.data.toList = digs l) : Calls Tryd.prog 16 #[.agg #[v, .int .i64 m], .int .i64 f, .string S, .int .i64 h] w (Tr w) := by
  subst e
  rcases ho with ⟨h1, rfl, rfl⟩ | ⟨rfl, h2, rfl, h4⟩
  · exact holds_err f h1 S w
  · exact holds_ok l S v w (hS rfl) h2 h4
end Go.Proofs.YtnbdmmepdmmbmaaDoor
