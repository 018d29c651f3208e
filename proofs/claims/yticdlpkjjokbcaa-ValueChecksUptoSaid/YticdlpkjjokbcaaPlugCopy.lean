/- Contracts of slices.Clone at []Field (as raw cells) and of value.Copy, in the print's form. No statement is proved here. -/
import Derived.Test.YticdlpkjjokbcaaAid
import Derived.Test.YticdlpkjjokbcaaPValx0
import Derived.Test.YticdlpkjjokbcaaValWords
import Derived.Lib.SliceRun
import Derived.Lib.Walk
import Derived.Deep.RegionWith
namespace Go.Proofs.Yticdlpkjjokbcaa.PVal
open Go.RowKit Go.Proofs.YticdlpkjjokbcaaW.PrintWords Go.Proofs.YticdlpkjjokbcaaW.PrintLast
set_option linter.unusedVariables false
set_option linter.unusedSimpArgs false
theorem field_info : (Try.prog.info? 36).map (fun i => (i.zero, i.size, i.bytes)) = some (some (.agg #[.string ⟨#[]⟩, .int .i64 0, .int .i64 0, .string ⟨#[]⟩, .slice none 0 0]), 5, 72) := by kernel_rfl
/-- A new row of raw cells that read in w as the fields l. -/
def ClonedF (W0 : World) (l : List S36) (w : World) (e : Ending) (w' : World) : Prop := ∃ v cs, e = .returned v ∧ w'.ownsRow w.heap.size 36 5 v l.length cs ∧ Reps (k36.K W0) 5 l cs ∧ Below w.heap.size w w'
theorem reps_len {α : Type} {R : α → List Value → Prop} {ps : List α} {cs : List Value} (h : Reps R 5 ps cs) : cs.length = ps.length * 5 := h.1
theorem reps_one {w : World} {l : List S36} {cs : List Value} (h : Reps (k36.K w) 5 l cs) : ∀ u ∈ cs, u.oneCell' = true := by
  intro u hu
  obtain ⟨i, hi, rfl⟩ := List.getElem_of_mem hu
  have hj : i / 5 < l.length := by have := h.1; omega
  have hk := h.2 (i / 5) _ (List.getElem?_eq_getElem hj)
  refine k36.K_one hk _ ?_
  have : ((cs.drop (i / 5 * 5)).take 5)[i % 5]? = some cs[i] := by
    rw [List.getElem?_take, if_pos (Nat.mod_lt _ (by decide)), List.getElem?_drop, show i / 5 * 5 + i % 5 = i by omega]
    exact List.getElem?_eq_getElem hi
  exact List.mem_of_getElem? this
set_option maxHeartbeats 4000000 in
set_option maxRecDepth 1000000 in
theorem cloneF_any (W0 : World) (A : Option Addr) (c : Nat) (l : List S36) (w : World) (hC : Kd.C k36 W0 A l.length l) (hb0 : Below W0.heap.size W0 w) (hc : l.length ≤ c) (hl : l.length ≤ 1000000000000) : Calls Try.prog 19 #[.slice A l.length c] w (ClonedF W0 l w) := by
  obtain ⟨i0, hi, hz0, hz1, hz2⟩ := info_parts field_info
  have HC := Lib.hid hC
  have HCC := Lib.hid hc
  have HB0 := Lib.hid hb0
  clear hC hc hb0
  have q : ∀ (w : World) (a : Option Addr) (n c n' c' : Nat), (binOp .eql 22 (.slice a n c) (.slice none n' c')).run Try.prog w = .ok (.bool a.isNone) w := fun w a n c n' c' => Lib.run_eql_slice_nil w _ _ a n c n' c' Try.underlying22
  cases A with
  | none =>
    have hD : l = [] := by
      cases l with
      | nil => rfl
      | cons x D => obtain ⟨ad, h, _⟩ := HC.out.2.2 (by simp); cases h
    subst hD
    go_enter Try.func19, Try.ntmps19
    go_wp2
    all_goals (go_ret; exact ⟨_, [], rfl, ⟨by simp, .inl ⟨rfl, rfl⟩⟩, Reps.none _ _, by go_grown⟩)
  | some ad =>
    obtain ⟨inner, hr, hcell⟩ := ReadsRow.inner_ HC.out
    have HR := Lib.hid hr
    have HCE := Lib.hid hcell
    have hil : inner.length = l.length * 5 := hr.1
    have HIL := Lib.hid hil
    clear hr hcell hil
    go_enter Try.func19, Try.ntmps19
    go_wp2_with (at_builtin; refine wpList_append_own _ rfl _ _ 22 rfl w.heap.size 36 i0 (.agg #[.string ⟨#[]⟩, .int .i64 0, .int .i64 0, .string ⟨#[]⟩, .slice none 0 0]) 5 72 Try.underlying22 hi hz0 hz1 hz2 rfl (by decide) _ _ _ rfl (World.ownsRow_made w #[] 0 (Nat.le_refl _) (Nat.zero_le _) rfl) ad l.length c inner rfl ?qc1 ?qc2 ?qc3 ?qc4 ?qc5 ?qc6 ?_)
    case qc1 => exact HIL.out
    case qc2 =>
      intro j u hj
      exact Lib.cell?_alloc_some _ (pw_cell_below HB0.out (HCE.out j u hj))
    case qc3 => exact reps_one HR.out
    case qc4 => unfold maxLen; omega
    case qc5 => omega
    case qc6 => simp
    intro v' w1 hown hgrow hnil
    go_wp2
    go_ret
    refine ⟨v', inner, rfl, by simpa using hown, HR.out, ?_⟩
    exact ((Below.refl _ w).alloc (Nat.le_refl _) _).grown hgrow (by simp) (by intro k hk; simp [Value.ownBlock] at hk; omega)
/-! a row the first j elements of which are copied -/
def seg (cs : List Value) (i : Nat) : List Value := (cs.drop (i * 5)).take 5
theorem seg_get (cs : List Value) (i q : Nat) (hq : q < 5) : (seg cs i)[q]? = cs[i * 5 + q]? := by
  unfold seg; rw [List.getElem?_take, if_pos hq, List.getElem?_drop]
theorem seg_ext {x y : List Value} (hx : x.length ≤ 5) (hy : y.length ≤ 5) (h : ∀ q, q < 5 → x[q]? = y[q]?) : x = y := by
  apply List.ext_getElem?
  intro q
  rcases Nat.lt_or_ge q 5 with hq | hq
  · exact h q hq
  · rw [List.getElem?_eq_none (by omega), List.getElem?_eq_none (by omega)]
theorem seg_len (cs : List Value) (i : Nat) : (seg cs i).length ≤ 5 := by unfold seg; rw [List.length_take]; omega
theorem seg_set_ne (cs : List Value) (i j q : Nat) (u : Value) (hq : q < 5) (h : i ≠ j) : seg (cs.set (j * 5 + q) u) i = seg cs i := by
  refine seg_ext (seg_len _ _) (seg_len _ _) (fun r hr => ?_)
  rw [seg_get _ _ _ hr, seg_get _ _ _ hr, List.getElem?_set_ne (by omega)]
theorem seg_set (cs : List Value) (j q : Nat) (u : Value) (hq : q < 5) (hl : j * 5 + q < cs.length) : seg (cs.set (j * 5 + q) u) j = (seg cs j).set q u := by
  refine seg_ext (seg_len _ _) (by rw [List.length_set]; exact seg_len _ _) (fun r hr => ?_)
  rw [seg_get _ _ _ hr, List.getElem?_set, List.getElem?_set]
  by_cases e : q = r
  · subst e
    rw [if_pos rfl, if_pos rfl, if_pos hl, if_pos]
    unfold seg; rw [List.length_take, List.length_drop]; omega
  · rw [if_neg (by omega), if_neg e, seg_get _ _ _ hr]
structure Mix (w : World) (B : Nat) (v : Value) (l : List S36) (j : Nat) (wr : World) (cs : List Value) : Prop where
  own : wr.ownsRow B 36 5 v l.length cs
  old : ∀ i p, l[i]? = some p → j ≤ i → k36.K w p (seg cs i)
  new : ∀ i p, l[i]? = some p → i < j → k36.M wr B (fun k => some k ≠ v.ownBlock) p (seg cs i)
theorem Mix.start {w wr : World} {B : Nat} {v : Value} {l : List S36} {cs : List Value} (h : wr.ownsRow B 36 5 v l.length cs) (hr : Reps (k36.K w) 5 l cs) : Mix w B v l 0 wr cs :=
  ⟨h, fun i p hp _ => hr.2 i p hp, fun _ _ _ h => absurd h (by omega)⟩
theorem Mix.below {w wr w1 : World} {B : Nat} {v : Value} {l : List S36} {j : Nat} {cs : List Value} (h : Mix w B v l j wr cs) (hb : Below wr.heap.size wr w1) : Mix w B v l j w1 cs :=
  ⟨pw_own_below h.own hb, h.old, fun i p hp hi => Kd.M_below (h.new i p hp hi) hb⟩
theorem Mix.low {w wr : World} {B : Nat} {v : Value} {l : List S36} {j : Nat} {cs : List Value} (h : Mix w B v l j wr cs) (p : Addr) (hp : p.block < B) (u : Value) : Mix w B v l j (wr.setCell p u) cs := by
  refine ⟨own_move h.own (fun k hk => ?_), h.old, fun i q hq hi => ?_⟩
  · have := own_base h.own k hk
    exact Below.heap_setCell wr p u k (by omega)
  · refine k36.M_mono (fun k hk => hk.1) (k36.M_move (fun k hk => ?_) (k36.M_bound (h.new i q hq hi)))
    have := hk.2.1
    exact Below.heap_setCell wr p u k (by omega)
theorem Mix.step {w wr : World} {B g c : Nat} {l : List S36} {j : Nat} {cs : List Value} (h : Mix w B (.slice (some ⟨g, 0, none⟩) l.length c) l j wr cs) {p : S36} (hp : l[j]? = some p) {A4 : Option Addr} {c4 : Nat}
    (hs : seg cs j = [.string p.f0, .int .i64 p.f1.f0, .int .i64 p.f1.f1, .string p.f1.f2, .slice A4 p.f1.f3.length c4]) {v3 : Value} (hv : Kd.R k36 36 wr B (fun k => k ≠ g) v3 p.f1.f3) :
    ∃ cs', Mix w B (.slice (some ⟨g, 0, none⟩) l.length c) l (j + 1) ((((wr.setCell ⟨g, j * 5 + 1, none⟩ (.int .i64 p.f1.f0)).setCell ⟨g, j * 5 + 2, none⟩ (.int .i64 p.f1.f1)).setCell ⟨g, j * 5 + 3, none⟩ (.string p.f1.f2)).setCell ⟨g, j * 5 + 4, none⟩ v3) cs' := by
  have hj : j < l.length := (List.getElem?_eq_some_iff.1 hp).1
  have hcl : cs.length = l.length * 5 := h.own.1
  have o1 := (h.own.stored (j * 5 + 1) (.int .i64 p.f1.f0)).1
  have o2 := (o1.stored (j * 5 + 2) (.int .i64 p.f1.f1)).1
  have o3 := (o2.stored (j * 5 + 3) (.string p.f1.f2)).1
  have o4 := (o3.stored (j * 5 + 4) v3).1
  have hseg : seg ((((cs.set (j * 5 + 1) (.int .i64 p.f1.f0)).set (j * 5 + 2) (.int .i64 p.f1.f1)).set (j * 5 + 3) (.string p.f1.f2)).set (j * 5 + 4) v3) j = [.string p.f0, .int .i64 p.f1.f0, .int .i64 p.f1.f1, .string p.f1.f2, v3] := by
    rw [seg_set _ _ _ _ (by decide) (by simp only [List.length_set]; omega), seg_set _ _ _ _ (by decide) (by simp only [List.length_set]; omega), seg_set _ _ _ _ (by decide) (by simp only [List.length_set]; omega), seg_set _ _ _ _ (by decide) (by omega), hs]
    rfl
  have hne : ∀ i, i ≠ j → seg ((((cs.set (j * 5 + 1) (.int .i64 p.f1.f0)).set (j * 5 + 2) (.int .i64 p.f1.f1)).set (j * 5 + 3) (.string p.f1.f2)).set (j * 5 + 4) v3) i = seg cs i := fun i hi => by
    rw [seg_set_ne _ _ _ _ _ (by decide) hi, seg_set_ne _ _ _ _ _ (by decide) hi, seg_set_ne _ _ _ _ _ (by decide) hi, seg_set_ne _ _ _ _ _ (by decide) hi]
  refine ⟨_, o4, fun i q hq hi => ?_, fun i q hq hi => ?_⟩
  · rw [hne i (by omega)]; exact h.old i q hq (by omega)
  · by_cases e : i = j
    · subst e
      obtain rfl : p = q := Option.some.inj (hp.symm.trans hq)
      rw [hseg]
      refine k36.M_mono (fun k (hk : k ≠ g) => by simp only [Value.ownBlock]; intro e; injection e with e; exact hk e) (k36_mkM _ B (fun k => k ≠ g) p ?_)
      exact Kd.R_far (Kd.R_far (Kd.R_far (Kd.R_far hv (fun k hk => hk) _) (fun k hk => hk) _) (fun k hk => hk) _) (fun k hk => hk) _
    · rw [hne i e]
      have hm := h.new i q hq (by omega)
      have ok : ∀ k, some k ≠ (Value.slice (some ⟨g, 0, none⟩) l.length c).ownBlock → k ≠ g := fun k hk e => hk (by rw [e]; rfl)
      exact Kd.M_far (Kd.M_far (Kd.M_far (Kd.M_far hm (p := ⟨g, _, none⟩) ok _) (p := ⟨g, _, none⟩) ok _) (p := ⟨g, _, none⟩) ok _) (p := ⟨g, _, none⟩) ok _
theorem Mix.done {w wr : World} {B : Nat} {v : Value} {l : List S36} {cs : List Value} (h : Mix w B v l l.length wr cs) : Kd.R k36 36 wr B (fun _ => True) v l :=
  ⟨fun _ _ => trivial, cs, h.own, h.own.1, fun i p hp => k36.M_mono (fun k hk => ⟨trivial, hk⟩) (h.new i p hp (List.getElem?_eq_some_iff.1 hp).1)⟩
def CopyPost (x : S24g S36) (w : World) (e : Ending) (w' : World) : Prop := ∃ v3, e = .returned (.agg #[.int .i64 x.f0, .int .i64 x.f1, .string x.f2, v3]) ∧ Kd.R k36 36 w' w.heap.size (fun _ => True) v3 x.f3 ∧ Below w.heap.size w w'
theorem szFs_len (l : List S36) : l.length ≤ szFs l := by
  induction l with
  | nil => simp
  | cons a t ih =>
    have : 1 ≤ szF a := by rw [szF_eq, szV_eq]; omega
    show _ ≤ szF a + szFs t; rw [List.length_cons]; omega
/-- How Copy's memory stands in its loop: the parameter's block with the new row, the result's block, the row. -/
structure CSt (w : World) (gb : Nat) (k n : Int) (s : ByteArray) (v : Value) (l : List S36) (j : Nat) (wr : World) (cs : List Value) : Prop where
  mix : Mix w (gb + 2) v l j wr cs
  blkA : wr.heap[gb]? = some (.cells #[.int .i64 k, .int .i64 n, .string s, v] 24 (0, 0))
  blkB : wr.heap[gb + 1]? = some (.cells #[.int .i64 0, .int .i64 0, .string ⟨#[]⟩, .slice none 0 0] 24 (0, 0))
  bel : Below gb w wr
  sz : gb + 1 < wr.heap.size
theorem CSt.step {w wr w5 : World} {gb : Nat} {k n : Int} {s : ByteArray} {g vc : Nat} {l : List S36} {j : Nat} {cs : List Value} (h : CSt w gb k n s (.slice (some ⟨g, 0, none⟩) l.length vc) l j wr cs) (hg : gb + 2 ≤ g) (hgz : g < wr.heap.size) {p : S36} (hp : l[j]? = some p) {A4 : Option Addr} {c4 : Nat}
    (hs : seg cs j = [.string p.f0, .int .i64 p.f1.f0, .int .i64 p.f1.f1, .string p.f1.f2, .slice A4 p.f1.f3.length c4]) {v3 : Value} (hb5 : Below wr.heap.size wr w5) (hR : Kd.R k36 36 w5 wr.heap.size (fun _ => True) v3 p.f1.f3) :
    ∃ cs', CSt w gb k n s (.slice (some ⟨g, 0, none⟩) l.length vc) l (j + 1) ((((w5.setCell ⟨g, j * 5 + 1, none⟩ (.int .i64 p.f1.f0)).setCell ⟨g, j * 5 + 2, none⟩ (.int .i64 p.f1.f1)).setCell ⟨g, j * 5 + 3, none⟩ (.string p.f1.f2)).setCell ⟨g, j * 5 + 4, none⟩ v3) cs' := by
  have hR' : Kd.R k36 36 w5 (gb + 2) (fun k => k ≠ g) v3 p.f1.f3 := Kd.R_lower (Kd.R_mono (Kd.R_bound hR) (fun k hk => by have := hk.2.1; omega)) (by omega)
  obtain ⟨cs', hM⟩ := (h.mix.below hb5).step hp hs hR'
  have far : ∀ {a : Nat} {o : Obj}, a ≠ g → wr.heap[a]? = some o → (∃ cells t, o = .cells cells t (0, 0)) → ((((w5.setCell ⟨g, j * 5 + 1, none⟩ (.int .i64 p.f1.f0)).setCell ⟨g, j * 5 + 2, none⟩ (.int .i64 p.f1.f1)).setCell ⟨g, j * 5 + 3, none⟩ (.string p.f1.f2)).setCell ⟨g, j * 5 + 4, none⟩ v3).heap[a]? = some o := fun {a o} hne ho ⟨cells, t, e⟩ => by
    subst e
    exact blk_far (blk_far (blk_far (blk_far ((hb5.block a (blk_lt ho)).trans ho) hne _) hne _) hne _) hne _
  refine ⟨cs', hM, far (by omega) h.blkA ⟨_, _, rfl⟩, far (by omega) h.blkB ⟨_, _, rfl⟩, ?_, ?_⟩
  · exact (((((h.bel.trans (hb5.mono (by have := h.sz; omega))).setCell (p := ⟨g, _, none⟩) (by show gb ≤ g; omega) _).setCell (p := ⟨g, _, none⟩) (by show gb ≤ g; omega) _).setCell (p := ⟨g, _, none⟩) (by show gb ≤ g; omega) _).setCell (p := ⟨g, _, none⟩) (by show gb ≤ g; omega) _)
  · have := hb5.size; have := h.sz; simp; omega
set_option maxHeartbeats 8000000 in
set_option maxRecDepth 1000000 in
theorem copy_step (vk vn : Int) (vs : ByteArray) (l : List S36) (A : Option Addr) (c : Nat) (w : World) (hC : Kd.C k36 w A l.length l) (hc : l.length ≤ c) (hl : l.length ≤ 1000000000000)
    (IH : Hid (∀ (f : S36) (A : Option Addr) (c : Nat) (w : World), f ∈ l → Kd.C k36 w A f.f1.f3.length f.f1.f3 → f.f1.f3.length ≤ c → Calls Try.prog 14 #[.agg #[.int .i64 f.f1.f0, .int .i64 f.f1.f1, .string f.f1.f2, .slice A f.f1.f3.length c]] w (CopyPost f.f1 w))) :
    Calls Try.prog 14 #[.agg #[.int .i64 vk, .int .i64 vn, .string vs, .slice A l.length c]] w (CopyPost ⟨vk, vn, vs, l⟩ w) := by
  have HC := Lib.hid hC
  have HCC := Lib.hid hc
  clear hC hc
  have hu24 := Try.underlying24
  have hu36 := Try.underlying36
  go_enter Try.func14, Try.ntmps14
  go_wp2_with fail
  obtain ⟨gb, hgb⟩ : ∃ gb, gb = w.heap.size := ⟨_, rfl⟩
  obtain ⟨w2, hw2⟩ : ∃ w2, w2 = (w.alloc (.cells #[.int .i64 vk, .int .i64 vn, .string vs, .slice A l.length c] 24)).alloc (.cells #[.int .i64 0, .int .i64 0, .string ⟨#[]⟩, .slice none 0 0] 24) := ⟨_, rfl⟩
  rw [← hgb, ← hw2]
  have HB2 := Lib.hid (show Below w.heap.size w w2 by rw [hw2]; exact blw_alloc (blw_alloc (Below.refl _ _) _) _)
  have hz2 : w2.heap.size = gb + 2 := by rw [hw2, hgb]; simp
  have blkA : w2.heap[gb]? = some (.cells #[.int .i64 vk, .int .i64 vn, .string vs, .slice A l.length c] 24 (0, 0)) := by rw [hw2, hgb]; exact (Below.heap_alloc _ _ _ (by simp)).trans (heap_alloc_new w _)
  have blkB : w2.heap[gb + 1]? = some (.cells #[.int .i64 0, .int .i64 0, .string ⟨#[]⟩, .slice none 0 0] 24 (0, 0)) := by
    have := heap_alloc_new (w.alloc (.cells #[.int .i64 vk, .int .i64 vn, .string vs, .slice A l.length c] 24)) (.cells #[.int .i64 0, .int .i64 0, .string ⟨#[]⟩, .slice none 0 0] 24)
    rw [hw2, hgb]; simpa using this
  have HGB := Lib.hid hgb
  clear hw2 hgb
  go_at_call 19
  refine (cloneF_any w A c l _ HC.out HB2.out HCC.out hl).mono ?_
  rintro e w3 ⟨v, cs, rfl, hown, hrep, hb3⟩
  rw [hz2] at hown hb3
  have hM := Mix.start hown hrep
  have blkA3 := (hb3.block gb (by omega)).trans blkA
  have blkB3 := (hb3.block (gb + 1) (by omega)).trans blkB
  have hz3 : gb + 1 < w3.heap.size := by have := hb3.size; omega
  have HB3 := Lib.hid (show Below w.heap.size w w3 from HB2.out.trans (hb3.mono (by rw [HGB.out]; omega)))
  clear blkA blkB hown hrep hb3 hz2
  have c3 := (blk_cell blkA3 3).trans rfl
  have f3 := blk_frozen blkA3 3
  obtain ⟨vA, vc, rfl⟩ := own_slice hM.own
  have HM := Lib.hid hM
  clear hM
  go_wp2_with fail
  obtain ⟨w4, hw4⟩ : ∃ w4, w4 = w3.setCell ⟨gb, 3, none⟩ (.slice vA l.length vc) := ⟨_, rfl⟩
  rw [← hw4]
  have HS : Hid (CSt w gb vk vn vs (.slice vA l.length vc) l 0 w4 cs) := Lib.hid ⟨by rw [hw4]; exact HM.out.low _ (by show gb < gb + 2; omega) _, by
      rw [hw4]; exact (blk_set blkA3 3 _).trans rfl, by rw [hw4]; exact blk_far blkB3 (by show gb + 1 ≠ gb; omega) _, by
      rw [hw4]; exact (HGB.out ▸ HB3.out).setCell (p := ⟨gb, 3, none⟩) (Nat.le_refl _) _, by rw [hw4]; simpa using hz3⟩
  clear hw4 blkA3 blkB3 c3 f3 hz3
  go_loopw [11] (fun i wr => ∃ (j : Nat) (cs : List Value), j ≤ l.length ∧ i = .int .i64 j ∧ CSt w gb vk vn vs (.slice vA l.length vc) l j wr cs) (fun i _ => l.length - (intOf i).toNat)
  case atStart => exact ⟨0, cs, by omega, rfl, HS.out⟩
  case round =>
    obtain ⟨j, cs, hj, rfl, hS⟩ := hrel
    have HS := Lib.hid hS
    clear hS
    by_cases hlt : j < l.length
    · obtain ⟨g, rfl, hgB, hgz⟩ : ∃ g, vA = some ⟨g, 0, none⟩ ∧ gb + 2 ≤ g ∧ g < wr.heap.size := by
        rcases HS.out.mix.own.2 with ⟨_, h0⟩ | ⟨g, cap, cur, hv, hg, hh, _⟩
        · omega
        · injection hv with hv; exact ⟨g, hv, hg, blk_lt hh⟩
      obtain ⟨p, hp⟩ : ∃ p, l[j]? = some p := ⟨_, List.getElem?_eq_getElem hlt⟩
      obtain ⟨A4, c4, hseg, hl4, hC4⟩ := k36_open (HS.out.mix.old j p hp (Nat.le_refl _))
      have cell : ∀ q, q < 5 → wr.cell? ⟨g, j * 5 + q, none⟩ = (seg cs j)[q]? := fun q hq => by rw [seg_get _ _ _ hq]; exact HS.out.mix.own.cellAt _ (by omega)
      have x1 : wr.cell? ⟨g, j * 5 + 1, none⟩ = some (.int .i64 p.f1.f0) := by rw [cell 1 (by decide), hseg]; rfl
      have x2 : wr.cell? ⟨g, j * 5 + 2, none⟩ = some (.int .i64 p.f1.f1) := by rw [cell 2 (by decide), hseg]; rfl
      have x3 : wr.cell? ⟨g, j * 5 + 3, none⟩ = some (.string p.f1.f2) := by rw [cell 3 (by decide), hseg]; rfl
      have x4 : wr.cell? ⟨g, j * 5 + 4, none⟩ = some (.slice A4 p.f1.f3.length c4) := by rw [cell 4 (by decide), hseg]; rfl
      have y1 := HS.out.mix.own.frozenAt (j * 5 + 1)
      have y2 := HS.out.mix.own.frozenAt (j * 5 + 2)
      have y3 := HS.out.mix.own.frozenAt (j * 5 + 3)
      have y4 := HS.out.mix.own.frozenAt (j * 5 + 4)
      have c3 := (blk_cell HS.out.blkA 3).trans rfl
      have hgz1 : gb < wr.heap.size := by omega
      have hj1 : (j : Int) < (l.length : Int) := by omega
      have hj0 : (0 : Int) ≤ (j : Int) := by omega
      have HSEG := Lib.hid hseg
      have HC4 := Lib.hid hC4
      have HL4 := Lib.hid hl4
      have HP := Lib.hid hp
      have IHj := Lib.hid (fun A c w => IH.out p A c w (List.mem_of_getElem? hp))
      clear cell hseg hC4 hl4 hp
      go_wp2_with fail
      go_region_with ((go_at_call 14; refine (IHj.out A4 c4 _ (Kd.C_below HC4.out (HGB.out ▸ (by first | exact HS.out.bel | exact blw_drew HS.out.bel))) HL4.out).mono ?_; rintro e w5 ⟨v3, rfl, hR, hb5⟩; obtain ⟨A3, cc3, rfl⟩ := Kd.R_slice hR; have z1 := (hb5.cell (p := ⟨g, j * 5 + 1, none⟩) hgz).trans x1; have z2 := (hb5.cell (p := ⟨g, j * 5 + 2, none⟩) hgz).trans x2; have z3 := (hb5.cell (p := ⟨g, j * 5 + 3, none⟩) hgz).trans x3; have z4 := (hb5.cell (p := ⟨g, j * 5 + 4, none⟩) hgz).trans x4; have t1 := (hb5.frozen (p := ⟨g, j * 5 + 1, none⟩) hgz).trans y1; have t2 := (hb5.frozen (p := ⟨g, j * 5 + 2, none⟩) hgz).trans y2; have t3 := (hb5.frozen (p := ⟨g, j * 5 + 3, none⟩) hgz).trans y3; have t4 := (hb5.frozen (p := ⟨g, j * 5 + 4, none⟩) hgz).trans y4; have c3' := (hb5.cell (p := ⟨gb, 3, none⟩) hgz1).trans c3; have HR := Lib.hid hR; have HB5 := Lib.hid hb5; clear hR hb5))
      all_goals
        obtain ⟨cs', HN⟩ := HS.out.step hgB hgz HP.out HSEG.out (by first | exact HB5.out | exact (blw_drew (Below.refl _ _)).trans HB5.out) HR.out
        have HN := Lib.hid HN
        clear x1 x2 x3 x4 y1 y2 y3 y4 z1 z2 z3 z4 t1 t2 t3 t4 c3 c3'
        go_wp2_with fail
        go_roundw
        case rel => exact ⟨j + 1, cs', by omega, by go_num, HN.out⟩
        case measure => simp [intOf]; omega
    · obtain rfl : j = l.length := by omega
      have a0 := (blk_cell HS.out.blkA 0).trans rfl
      have a1 := (blk_cell HS.out.blkA 1).trans rfl
      have a2 := (blk_cell HS.out.blkA 2).trans rfl
      have a3 := (blk_cell HS.out.blkA 3).trans rfl
      have f0 := blk_frozen HS.out.blkB 0
      have f1 := blk_frozen HS.out.blkB 1
      have f2 := blk_frozen HS.out.blkB 2
      have f3 := blk_frozen HS.out.blkB 3
      have b0 := (blk_cell HS.out.blkB 0).trans rfl
      have b1 := (blk_cell HS.out.blkB 1).trans rfl
      have b2 := (blk_cell HS.out.blkB 2).trans rfl
      have b3 := (blk_cell HS.out.blkB 3).trans rfl
      have hgz1 := HS.out.sz
      go_wp2_with fail
      obtain ⟨wf, hwf⟩ : ∃ wf, wf = ((((wr.setCell ⟨gb + 1, 0, none⟩ (.int .i64 vk)).setCell ⟨gb + 1, 1, none⟩ (.int .i64 vn)).setCell ⟨gb + 1, 2, none⟩ (.string vs)).setCell ⟨gb + 1, 3, none⟩ (.slice vA l.length vc)) := ⟨_, rfl⟩
      rw [← hwf]
      have hblk : wf.heap[gb + 1]? = some (.cells #[.int .i64 vk, .int .i64 vn, .string vs, .slice vA l.length vc] 24 (0, 0)) := by
        rw [hwf]; exact (blk_set (blk_set (blk_set (blk_set HS.out.blkB 0 _) 1 _) 2 _) 3 _).trans rfl
      have hM := (((HS.out.mix.low ⟨gb + 1, 0, none⟩ (by show gb + 1 < gb + 2; omega) (.int .i64 vk)).low ⟨gb + 1, 1, none⟩ (by show gb + 1 < gb + 2; omega) (.int .i64 vn)).low ⟨gb + 1, 2, none⟩ (by show gb + 1 < gb + 2; omega) (.string vs)).low ⟨gb + 1, 3, none⟩ (by show gb + 1 < gb + 2; omega) (.slice vA l.length vc)
      rw [← hwf] at hM
      have hbel : Below gb w wf := by rw [hwf]; exact ((((HS.out.bel.setCell (p := ⟨gb + 1, 0, none⟩) (by show gb ≤ gb + 1; omega) _).setCell (p := ⟨gb + 1, 1, none⟩) (by show gb ≤ gb + 1; omega) _).setCell (p := ⟨gb + 1, 2, none⟩) (by show gb ≤ gb + 1; omega) _).setCell (p := ⟨gb + 1, 3, none⟩) (by show gb ≤ gb + 1; omega) _)
      have d0 := (blk_cell hblk 0).trans rfl
      have d1 := (blk_cell hblk 1).trans rfl
      have d2 := (blk_cell hblk 2).trans rfl
      have d3 := (blk_cell hblk 3).trans rfl
      exact bodyPost_ret (v := .agg #[.int .i64 vk, .int .i64 vn, .string vs, .slice vA l.length vc]) (by simp [results, Try.results14, go_sem, d0, d1, d2, d3, hu24]) rfl ⟨_, rfl, Kd.R_lower hM.done (by rw [HGB.out]; omega), HGB.out ▸ hbel⟩
theorem copy_any (d : Nat) : ∀ (x : S24g S36) (A : Option Addr) (c : Nat) (w : World), szV x ≤ d → szV x ≤ 1000000000000 → Kd.C k36 w A x.f3.length x.f3 → x.f3.length ≤ c →
    Calls Try.prog 14 #[.agg #[.int .i64 x.f0, .int .i64 x.f1, .string x.f2, .slice A x.f3.length c]] w (CopyPost x w) := by
  induction d with
  | zero => intro x A c w h; rw [szV_eq] at h; omega
  | succ d ih =>
  intro x A c w hd hlen hC hc
  obtain ⟨vk, vn, vs, fs⟩ := x
  rw [szV_eq] at hd hlen
  simp only at hd hlen
  refine copy_step vk vn vs fs A c w hC hc (by have := szFs_len fs; omega) (Lib.hid (fun f A c w hm h1 h2 => ih f.f1 A c w ?_ ?_ h1 h2))
  · have := szFs_mem hm; rw [szF_eq] at this; omega
  · have := szFs_mem hm; rw [szF_eq] at this; omega
def value_Copy.f (a0_0 a0_1 : Int) (a0_2 : ByteArray) (l0_3 : List S36) : Option (Int × Int × ByteArray × List S36) := if szV ⟨a0_0, a0_1, a0_2, l0_3⟩ ≤ 1000000000000 then some (a0_0, a0_1, a0_2, l0_3) else none
theorem value_Copy.calls (a0_0 : Int) (a0_1 : Int) (a0_2 : ByteArray) (A0_3 : Option Addr) (c0_3 : Nat) (l0_3 : List S36) (r1 : Int) (r2 : Int) (r3 : ByteArray) (r4 : List S36) (w : World) (hr0_3 : Kd.C k36 w A0_3 l0_3.length l0_3) (hc0_3 : l0_3.length ≤ c0_3) (h : value_Copy.f a0_0 a0_1 a0_2 l0_3 = some (r1, r2, r3, r4)) :
    Calls Try.prog 14 #[.agg #[.int .i64 a0_0, .int .i64 a0_1, .string a0_2, .slice A0_3 l0_3.length c0_3]] w fun e w' => ∃ v3_ : Value, e = .returned (.agg #[.int .i64 r1, .int .i64 r2, .string r3, v3_]) ∧ Kd.R k36 36 w' w.heap.size (fun _ => True) v3_ r4 ∧ Below w.heap.size w w' := by
  unfold value_Copy.f at h
  by_cases hl : szV ⟨a0_0, a0_1, a0_2, l0_3⟩ ≤ 1000000000000
  · rw [if_pos hl] at h
    injection h with h
    injection h with h1 h
    injection h with h2 h
    injection h with h3 h4
    subst h1 h2 h3 h4
    exact copy_any _ ⟨a0_0, a0_1, a0_2, l0_3⟩ A0_3 c0_3 w (Nat.le_refl _) hl hr0_3 hc0_3
  · rw [if_neg hl] at h; cases h
end Go.Proofs.Yticdlpkjjokbcaa.PVal
