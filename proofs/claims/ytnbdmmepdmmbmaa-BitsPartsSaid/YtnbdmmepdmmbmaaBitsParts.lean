/- The walk of the law BitsParts. -/
import Derived.Test.YtnbdmmepdmmbmaaBitsCat
import Derived.Test.YtnbdmmepdmmbmaaBitsHolds
import Derived.Test.YtnbdmmepdmmbmaaBitsDigits
import Derived.Test.YtnbdmmepdmmbmaaShelf
import Derived.Lib.ConvBytes
import Derived.Laws.BytesArg
import Derived.Deep.DeepCutAuto
import Derived.Deep.CutBlock
namespace Go.Proofs.Ytnbdmmepdmmbmaa
open Go.RowKit
set_option linter.unusedVariables false
set_option linter.unusedSimpArgs false
theorem holds_gen {f h : Int} {l : List Bool} {v : Value} {m : Int} {w : World} (ho : OutOk f l v m w) (e : f = h) (S : ByteArray) (hS : f = 0 → S.data.toList = digs l) : Calls Try.prog 10 #[.agg #[v, .int .i64 m], .int .i64 f, .string S, .int .i64 h] w (Tr w) := by
  subst e
  rcases ho with ⟨h1, rfl, rfl⟩ | ⟨rfl, h2, rfl, h4⟩
  · exact holds_err f h1 S w
  · exact holds_ok l S v w (hS rfl) h2 h4
def AlignR (D : List UInt8) (L tt f : Int) (l : List Bool) : Prop := ∀ v w, RB w v D → Calls Try.prog 8 #[.agg #[v, .int .i64 L], .int .i64 tt] w (PutG f l w)
def CutR (D : List UInt8) (L a b f : Int) (l : List Bool) : Prop := ∀ v w, RB w v D → Calls Try.prog 11 #[.agg #[v, .int .i64 L], .int .i64 a, .int .i64 b] w (PutG f l w)
def CatR (D : List UInt8) (L : Int) (E : List UInt8) (M f : Int) (l : List Bool) : Prop := ∀ v u w, RB w v D → RB w u E → Calls Try.prog 12 #[.agg #[v, .int .i64 L], .agg #[u, .int .i64 M]] w (PutG f l w)
/-- What stands in memory while the law runs: its two parameters. -/
structure LS (w : World) (va : Value) (L : Int) (vb : Value) (M : Int) (W : World) : Prop where
  a0 : W.cell? ⟨w.heap.size, 0, none⟩ = some va
  a1 : W.cell? ⟨w.heap.size, 1, none⟩ = some (.int .i64 L)
  b0 : W.cell? ⟨w.heap.size + 1, 0, none⟩ = some vb
  b1 : W.cell? ⟨w.heap.size + 1, 1, none⟩ = some (.int .i64 M)
  sz : w.heap.size + 1 < W.heap.size
  bel : Below w.heap.size w W
theorem LS.start (w : World) (va : Value) (L : Int) (vb : Value) (M : Int) : LS w va L vb M ((w.alloc (.cells #[va, .int .i64 L] 24)).alloc (.cells #[vb, .int .i64 M] 24)) := by
  refine ⟨?_, ?_, ?_, ?_, by simp, blw_alloc (blw_alloc (Below.refl _ _) _) _⟩ <;> simp [go_sem]
theorem LS.call {w : World} {va : Value} {L : Int} {vb : Value} {M : Int} {W W' : World} (h : LS w va L vb M W) (hb : Below W.heap.size W W') : LS w va L vb M W' := by
  have hs := h.sz
  have c : ∀ b o, b < W.heap.size → W'.cell? ⟨b, o, none⟩ = W.cell? ⟨b, o, none⟩ := fun b o hlt => hb.cell (p := ⟨b, o, none⟩) hlt
  exact ⟨(c _ _ (by omega)).trans h.a0, (c _ _ (by omega)).trans h.a1, (c _ _ (by omega)).trans h.b0, (c _ _ (by omega)).trans h.b1, by have := hb.size; omega, h.bel.trans (hb.mono h.bel.size)⟩
/-- .. and the variable that takes the results. -/
structure LX (w : World) (va : Value) (L : Int) (vb : Value) (M : Int) (xb : Nat) (x y : Value) (W : World) : Prop where
  ls : LS w va L vb M W
  x0 : W.cell? ⟨xb, 0, none⟩ = some x
  x1 : W.cell? ⟨xb, 1, none⟩ = some y
  f0 : W.frozen? ⟨xb, 0, none⟩ = false
  f1 : W.frozen? ⟨xb, 1, none⟩ = false
  ge : w.heap.size + 2 ≤ xb
  lt : xb < W.heap.size
theorem LX.start {w : World} {va : Value} {L : Int} {vb : Value} {M : Int} {W : World} (h : LS w va L vb M W) (x y : Value) : LX w va L vb M W.heap.size x y (W.alloc (.cells #[x, y] 24)) := by
  refine ⟨h.call (blw_alloc (Below.refl _ _) _), ?_, ?_, ?_, ?_, by have := h.sz; omega, by simp⟩ <;> simp [go_sem]
theorem LX.call {w : World} {va : Value} {L : Int} {vb : Value} {M : Int} {xb : Nat} {x y : Value} {W W' : World} (h : LX w va L vb M xb x y W) (hb : Below W.heap.size W W') : LX w va L vb M xb x y W' := by
  have hs := h.lt
  have c : ∀ b o, b < W.heap.size → W'.cell? ⟨b, o, none⟩ = W.cell? ⟨b, o, none⟩ := fun b o hlt => hb.cell (p := ⟨b, o, none⟩) hlt
  have f : ∀ b o, b < W.heap.size → W'.frozen? ⟨b, o, none⟩ = W.frozen? ⟨b, o, none⟩ := fun b o hlt => hb.frozen (p := ⟨b, o, none⟩) hlt
  exact ⟨h.ls.call hb, (c _ _ hs).trans h.x0, (c _ _ hs).trans h.x1, (f _ _ hs).trans h.f0, (f _ _ hs).trans h.f1, h.ge, by have := hb.size; omega⟩
theorem LX.set {w : World} {va : Value} {L : Int} {vb : Value} {M : Int} {xb : Nat} {x y : Value} {W : World} (h : LX w va L vb M xb x y W) (x' y' : Value) : LX w va L vb M xb x' y' ((W.setCell ⟨xb, 0, none⟩ x').setCell ⟨xb, 1, none⟩ y') := by
  have hg := h.ge
  have h0 := h.x0
  have h1 := h.x1
  have o : ∀ (W : World) (b o o' : Nat) (u : Value), b ≠ xb → (W.setCell ⟨xb, o', none⟩ u).cell? ⟨b, o, none⟩ = W.cell? ⟨b, o, none⟩ := fun W b o o' u hne => World.cell?_setCell_other _ _ _ _ (by intro q; injection q with q; exact hne q.symm)
  have e1 : (W.setCell ⟨xb, 0, none⟩ x').cell? ⟨xb, 1, none⟩ = some y := by rw [World.cell?_setCell_other _ _ _ _ (by intro q; injection q with _ q; exact absurd q (by decide))]; exact h1
  have e0 : (W.setCell ⟨xb, 0, none⟩ x').cell? ⟨xb, 0, none⟩ = some x' := World.cell?_setCell_same _ _ _ h0
  refine ⟨⟨?_, ?_, ?_, ?_, by simpa using h.ls.sz, (h.ls.bel.setCell (p := ⟨xb, 0, none⟩) (by show _ ≤ xb; omega) _).setCell (p := ⟨xb, 1, none⟩) (by show _ ≤ xb; omega) _⟩, ?_, World.cell?_setCell_same _ _ _ e1, by simpa using h.f0, by simpa using h.f1, hg, by simpa using h.lt⟩
  · rw [o _ _ _ _ _ (by omega), o _ _ _ _ _ (by omega)]; exact h.ls.a0
  · rw [o _ _ _ _ _ (by omega), o _ _ _ _ _ (by omega)]; exact h.ls.a1
  · rw [o _ _ _ _ _ (by omega), o _ _ _ _ _ (by omega)]; exact h.ls.b0
  · rw [o _ _ _ _ _ (by omega), o _ _ _ _ _ (by omega)]; exact h.ls.b1
  · rw [World.cell?_setCell_other _ _ _ _ (by intro q; injection q with _ q; exact absurd q (by decide))]; exact e0
/-- What digits tells of any bits. -/
def DigG (D : List UInt8) (L : Int) (w : World) (e : Ending) (w' : World) : Prop := ∃ S : ByteArray, e = .returned (.tuple #[.string S, .int .i64 (chk D L)]) ∧ (chk D L = 0 → S.data.toList = digs (unp D L.toNat) ∧ (S.size : Int) = L) ∧ S.size ≤ 64000 ∧ Below w.heap.size w w'
theorem digits_gen (D : List UInt8) (L : Int) (v : Value) (w : World) (hv : RB w v D) (hl : D.length ≤ 140737488351232) : Calls Try.prog 6 #[.agg #[v, .int .i64 L]] w (DigG D L w) := by
  by_cases h : chk D L = 0
  · obtain ⟨n, rfl⟩ : ∃ n : Nat, L = n := ⟨L.toNat, by have := chk_bd h; omega⟩
    refine (digits_ok D n v w hv h).mono ?_
    rintro e w' ⟨S, rfl, hS, hb⟩
    have hsz : S.size = n := by rw [size_of_list hS, digs_length, unp_length]
    exact ⟨S, by rw [h], fun _ => ⟨hS, by rw [hsz]⟩, by have := chk_bd h; omega, hb⟩
  · refine (digits_err D L v w hv hl h).mono ?_
    rintro e w' ⟨rfl, hb⟩
    exact ⟨_, rfl, fun q => absurd q h, by decide, hb⟩
/-- The cells that the last statement loads, and what they come of. -/
def LXO (w : World) (va : Value) (L : Int) (vb : Value) (M : Int) (xb : Nat) (x : Value) (m f : Int) (l : List Bool) (W : World) : Prop := LX w va L vb M xb x (.int .i64 m) W ∧ OutOk f l x m W
theorem LXO.call {w : World} {va : Value} {L : Int} {vb : Value} {M : Int} {xb : Nat} {x : Value} {m f : Int} {l : List Bool} {W W' : World} (h : LXO w va L vb M xb x m f l W) (hb : Below W.heap.size W W') : LXO w va L vb M xb x m f l W' := ⟨h.1.call hb, h.2.below hb⟩
theorem LXO.s {w : World} {va : Value} {L : Int} {vb : Value} {M : Int} {xb : Nat} {x : Value} {m f : Int} {l : List Bool} {W : World} (h : LXO w va L vb M xb x m f l W) :
    W.cell? ⟨w.heap.size, 0, none⟩ = some va ∧ W.cell? ⟨w.heap.size, 1, none⟩ = some (.int .i64 L) ∧ W.cell? ⟨w.heap.size + 1, 0, none⟩ = some vb ∧ W.cell? ⟨w.heap.size + 1, 1, none⟩ = some (.int .i64 M) ∧ W.cell? ⟨xb, 0, none⟩ = some x ∧ W.cell? ⟨xb, 1, none⟩ = some (.int .i64 m) ∧ LXO w va L vb M xb x m f l W :=
  ⟨h.1.ls.a0, h.1.ls.a1, h.1.ls.b0, h.1.ls.b1, h.1.x0, h.1.x1, h⟩
theorem LXO.of {w : World} {va : Value} {L : Int} {vb : Value} {M : Int} {xb : Nat} {x : Value} {m f : Int} {l : List Bool} {W : World}
    (h : W.cell? ⟨w.heap.size, 0, none⟩ = some va ∧ W.cell? ⟨w.heap.size, 1, none⟩ = some (.int .i64 L) ∧ W.cell? ⟨w.heap.size + 1, 0, none⟩ = some vb ∧ W.cell? ⟨w.heap.size + 1, 1, none⟩ = some (.int .i64 M) ∧ W.cell? ⟨xb, 0, none⟩ = some x ∧ W.cell? ⟨xb, 1, none⟩ = some (.int .i64 m) ∧ LXO w va L vb M xb x m f l W) : LXO w va L vb M xb x m f l W := h.2.2.2.2.2.2
theorem LXO.bel {w : World} {va : Value} {L : Int} {vb : Value} {M : Int} {xb : Nat} {x : Value} {m f : Int} {l : List Bool} {W : World} (h : LXO w va L vb M xb x m f l W) : Below w.heap.size w W := h.1.ls.bel
theorem takeY {P : Program} {ops : Array Oper} {Q : Exit → Act → World → Prop} {md : Region.Mode} {S : World → Prop} {i : Nat} {d : Tmp} {oi : Oper} {v : Value} {fuel : Nat} {listed : Array Bool} {a : Act} {w : World} (hi : ops[i]? = some oi) (hd : oi.dst = some d)
    (hs : Region.noSelect ops = true) (hf : Region.free md ops listed i = true) (hr : (Region.ready md ops listed).contains i = true)
    (hQ : ∀ c a w, Q (.panic c) (a.put (some d) v) w → Q (.panic c) a w) (hw : Region.wanted oi (yielded ops a.tmps) = true) (hv : ∀ w, S w → (execOp a.eval oi).run P w = .ok (.value v) w) (hS : S w)
    (h : wpAnyH P md ops Q S fuel (listed.setIfInBounds i true) (a.put (some d) v) w) : wpAnyH P md ops Q S (fuel + 1) listed a w :=
  wpAnyH_take hi hs hf hr (by rw [hd]; exact hQ) (Or.inl ⟨hw, hv⟩) hS (by rw [hd]; exact h)
theorem takeNo {P : Program} {ops : Array Oper} {Q : Exit → Act → World → Prop} {md : Region.Mode} {S : World → Prop} {i : Nat} {d : Tmp} {oi : Oper} {fuel : Nat} {listed : Array Bool} {a : Act} {w : World} (hi : ops[i]? = some oi) (hd : oi.dst = some d)
    (hs : Region.noSelect ops = true) (hf : Region.free md ops listed i = true) (hr : (Region.ready md ops listed).contains i = true)
    (hQ : ∀ c a w, Q (.panic c) (a.put (some d) undef) w → Q (.panic c) a w) (hw : Region.wanted oi (yielded ops a.tmps) = false) (hS : S w)
    (h : wpAnyH P md ops Q S fuel (listed.setIfInBounds i true) (a.put (some d) undef) w) : wpAnyH P md ops Q S (fuel + 1) listed a w :=
  wpAnyH_take hi hs hf hr (by rw [hd]; exact hQ) (Or.inr ⟨hw, rfl⟩) hS (by rw [hd]; exact h)
theorem UInt8.ofNat_toNat' (x : UInt8) : UInt8.ofNat ((x.toNat : Int)).toNat = x := by simp
theorem foldl_push (D : List UInt8) : ∀ s : ByteArray, ((D.map fun x => (x.toNat : Int)).foldl (fun r n => r.push (UInt8.ofNat n.toNat)) s) = ⟨s.data ++ D.toArray⟩ := by
  induction D with
  | nil => intro s; show s = (⟨s.data ++ #[]⟩ : ByteArray); rw [Array.append_empty]
  | cons x D ih =>
    intro s
    rw [List.map_cons, List.foldl_cons, ih]
    rw [UInt8.ofNat_toNat' x]
    show (⟨(s.data.push x) ++ D.toArray⟩ : ByteArray) = _
    congr 1
    rw [← Array.toList_inj]; simp
theorem rb_string {W : World} {A : Option Addr} {c : Nat} {D : List UInt8} (h : RB W (.slice A D.length c) D) : (convert 22 9 (.slice A D.length c)).run Try.prog W = .ok (.string ⟨D.toArray⟩) W := by
  obtain ⟨A', c', e, _, hr⟩ := h
  simp only [Value.slice.injEq] at e
  obtain ⟨rfl, -, rfl⟩ := e
  rcases A with _ | ad
  · rw [run_convert_bytes_nil W 22 5 (by kernel_rfl) (by kernel_rfl) D.length c 9 (by kernel_rfl)]
    rcases D with _ | ⟨x, D⟩
    · rfl
    · obtain ⟨ad, q, _⟩ := hr 0 (by simp)
      cases q
  · rw [run_convert_bytes_string W 22 9 5 _ D.length c (by kernel_rfl) (by kernel_rfl) (by kernel_rfl)]
    have hl : (loadCells ad D.length).run Try.prog W = .ok ((D.map fun x => (x.toNat : Int)).map (Value.int .u8)).toArray W := by
      have := run_loadCells_list (P := Try.prog) W ad ((D.map fun x => (x.toNat : Int)).map (Value.int .u8)) (fun j v hj => by
        have hjl : j < D.length := by
          rcases Nat.lt_or_ge j D.length with h | h
          · exact h
          · simp [List.getElem?_eq_none (show D.length ≤ j by simpa using h)] at hj
        obtain ⟨ad', q, hc⟩ := hr j hjl
        injection q with q; subst q
        rw [hc]
        simp [List.getElem?_eq_getElem hjl] at hj
        rw [hj])
      simpa using this
    rw [run_bytesToString W ad D.length c _ hl, foldl_push]
    simp [ByteArray.empty, ByteArray.emptyWithCapacity]
    try rfl
theorem str_eql (D E : List UInt8) (W : World) : (binOp .eql 9 (.string ⟨D.toArray⟩) (.string ⟨E.toArray⟩)).run Try.prog W = .ok (.bool (eqB D E)) W := by
  have : (D == E) = eqB D E := by unfold eqB; by_cases h : D = E <;> simp [h]
  simp [binOp, Op.stringOp, go_sem, this]
set_option maxRecDepth 100000 in
set_option maxHeartbeats 4000000 in
theorem parts_err (D E : List UInt8) (L M tt a b : Int) (v u : Value) (w : World) (hv : RB w v D) (hu : RB w u E) (hl : D.length ≤ 140737488351232) (hl2 : E.length ≤ 140737488351232) (h : chk D L ≠ 0) (hD : D.length ≤ 140737488351232) :
    Calls Try.prog 3 #[.agg #[v, .int .i64 L], .agg #[u, .int .i64 M], .int .i64 tt, .int .i64 a, .int .i64 b] w (Tr w) := by
  obtain ⟨A, c, rfl⟩ := hv.len
  obtain ⟨B, d, rfl⟩ := hu.len
  have HV := Lib.hid hv
  have HU := Lib.hid hu
  have HH := Lib.hid h
  have h1 : (chk D L != 0) = true := by simpa using h
  have h2 : (chk D L == 0) = false := by simpa using h
  have HAl : Hid (AlignR D L tt (chk D L) []) := Lib.hid (fun v w hv => (align_chk D L tt v w hv h).mono (PutG.of_zeroed h))
  have HCu : Hid (CutR D L a b (chk D L) []) := Lib.hid (fun v w hv => (cut_chk D L a b v w hv h).mono (PutG.of_zeroed h))
  have HCa : Hid (CatR D L E M (chk D L) []) := Lib.hid (fun v u w hv hu => (cat_a D L E M v u w hv hu h).mono (PutG.of_zeroed h))
  have H0 := Lib.hid (LS.start w (.slice A D.length c) L (.slice B E.length d) M)
  clear hv hu h
  go_enter Try.func3, Try.ntmps3
  go_wp2_with fail
  go_at_call 6
  refine (digits_err D L _ _ (HV.out.below H0.out.bel) hl HH.out).mono ?_
  rintro e w1 ⟨rfl, hbel⟩
  have HS := Lib.hid (H0.out.call hbel)
  clear hbel
  have k0 := HS.out.a0; have k1 := HS.out.a1; have k2 := HS.out.b0; have k3 := HS.out.b1
  go_wp2_with fail
  go_at_call 6
  refine (digits_gen E M _ _ (HU.out.below HS.out.bel) hl2).mono ?_
  rintro e w2 ⟨T, rfl, _, hT, hbel⟩
  have HS := Lib.hid (HS.out.call hbel)
  clear hbel
  have k0 := HS.out.a0; have k1 := HS.out.a1; have k2 := HS.out.b0; have k3 := HS.out.b1
  go_wp2_with fail
  go_at_call 7
  refine (strung_any _).mono ?_
  rintro e w3 ⟨rfl, hbel⟩
  have HS := Lib.hid (HS.out.call hbel)
  clear hbel
  have k0 := HS.out.a0; have k1 := HS.out.a1; have k2 := HS.out.b0; have k3 := HS.out.b1
  go_wp2_with fail
  go_at_call 8
  refine (HAl.out _ _ (HV.out.below HS.out.bel)).mono ?_
  rintro e w4 ⟨A1, n1, c1, m1, rfl, hO, hbel, _⟩
  have HO := Lib.hid (hO.below (blw_alloc (Below.refl _ _) (.cells #[.slice A1 n1 c1, .int .i64 m1] 24)))
  have HS := Lib.hid (HS.out.call hbel)
  clear hbel hO
  have k0 := HS.out.a0; have k1 := HS.out.a1; have k2 := HS.out.b0; have k3 := HS.out.b1
  have HS := Lib.hid (LX.start HS.out (.slice A1 n1 c1) (.int .i64 m1))
  go_wp2_with fail
  obtain ⟨xb, hxbe⟩ : ∃ xb, xb = w4.heap.size := ⟨_, rfl⟩
  rw [← hxbe] at HS
  rw [← hxbe]
  clear hxbe k0 k1 k2 k3
  go_at_call 10
  refine (holds_gen HO.out rfl _ (fun q => absurd q HH.out)).mono ?_
  rintro e w5 ⟨rfl, hbel⟩
  have HS := Lib.hid (HS.out.call hbel)
  clear hbel
  have HL := Lib.hid HS.out.ls; have k0 := HL.out.a0; have k1 := HL.out.a1; have k2 := HL.out.b0; have k3 := HL.out.b1; have k4 := HS.out.x0; have k5 := HS.out.x1; have k6 := HS.out.f0; have k7 := HS.out.f1; have hxb := HS.out.lt
  go_wp2_with fail
  go_at_call 11
  refine (HCu.out _ _ (HV.out.below HS.out.ls.bel)).mono ?_
  rintro e w6 ⟨A1, n1, c1, m1, rfl, hO, hbel, hst⟩
  have HO := Lib.hid (hst xb 0 xb 1 (.slice A1 n1 c1) (.int .i64 m1) hxb hxb)
  have HS := Lib.hid (HS.out.call hbel)
  clear hbel hO hst k0 k1 k2 k3 k4 k5 k6 k7 hxb
  have HL := Lib.hid HS.out.ls; have k0 := HL.out.a0; have k1 := HL.out.a1; have k2 := HL.out.b0; have k3 := HL.out.b1; have k4 := HS.out.x0; have k5 := HS.out.x1; have k6 := HS.out.f0; have k7 := HS.out.f1; have hxb := HS.out.lt
  have HS := Lib.hid (HS.out.set (.slice A1 n1 c1) (.int .i64 m1))
  have q0 := HS.out.ls.a0
  have q1 := HS.out.ls.a1
  have q2 := HS.out.ls.b0
  have q3 := HS.out.ls.b1
  go_wp2_with fail
  go_at_call 10
  refine (holds_gen HO.out rfl _ (fun q => absurd q HH.out)).mono ?_
  rintro e w7 ⟨rfl, hbel⟩
  have HS := Lib.hid (HS.out.call hbel)
  clear hbel
  have HL := Lib.hid HS.out.ls; have k0 := HL.out.a0; have k1 := HL.out.a1; have k2 := HL.out.b0; have k3 := HL.out.b1; have k4 := HS.out.x0; have k5 := HS.out.x1; have k6 := HS.out.f0; have k7 := HS.out.f1; have hxb := HS.out.lt
  go_wp2_with fail
  go_at_call 12
  refine (HCa.out _ _ _ (HV.out.below HS.out.ls.bel) (HU.out.below HS.out.ls.bel)).mono ?_
  rintro e w8 ⟨A1, n1, c1, m1, rfl, hO, hbel, hst⟩
  have HO := Lib.hid (hst xb 0 xb 1 (.slice A1 n1 c1) (.int .i64 m1) hxb hxb)
  have HS := Lib.hid (HS.out.call hbel)
  clear hbel hO hst k0 k1 k2 k3 k4 k5 k6 k7 hxb
  have HL := Lib.hid HS.out.ls; have k0 := HL.out.a0; have k1 := HL.out.a1; have k2 := HL.out.b0; have k3 := HL.out.b1; have k4 := HS.out.x0; have k5 := HS.out.x1; have k6 := HS.out.f0; have k7 := HS.out.f1; have hxb := HS.out.lt
  have HS := Lib.hid (HS.out.set (.slice A1 n1 c1) (.int .i64 m1))
  have q0 := HS.out.ls.a0
  have q1 := HS.out.ls.a1
  have q2 := HS.out.ls.b0
  have q3 := HS.out.ls.b1
  go_wp2_with fail
  go_at_call 13
  refine (text_chk D L _ _ (HV.out.below HS.out.ls.bel) HH.out).mono ?_
  rintro e w9 ⟨rfl, hbel⟩
  have HO := Lib.hid (HO.out.below hbel)
  have HS := Lib.hid (HS.out.call hbel)
  clear hbel
  have HL := Lib.hid HS.out.ls; have k0 := HL.out.a0; have k1 := HL.out.a1; have k2 := HL.out.b0; have k3 := HL.out.b1; have k4 := HS.out.x0; have k5 := HS.out.x1; have k6 := HS.out.f0; have k7 := HS.out.f1; have hxb := HS.out.lt
  go_wp2_with fail
  have HZ := Lib.hid (show LXO w (.slice A D.length c) L (.slice B E.length d) M xb (.slice A1 n1 c1) m1 (chk D L) [] w9 from ⟨HS.out, HO.out⟩)
  have hT0 : (⟨#[]⟩ : ByteArray).size = 0 := rfl
  have hcat : ¬ ((((⟨#[]⟩ : ByteArray).size + T.size : Nat) : Int) > 9223372036854775807) := by rw [hT0]; omega
  have hcat2 : (T.size : Int) ≤ 9223372036854775807 := by omega
  have hadd : ∀ W : World, (binOp .add 9 (.string ⟨#[]⟩) (.string T)).run Try.prog W = .ok (.string (⟨#[]⟩ ++ T)) W := fun W => by simp [binOp, Op.stringOp, go_sem]; omega
  have heq : ((⟨#[]⟩ : ByteArray).size : Int) + (T.size : Int) ≤ 9223372036854775807 := by rw [hT0]; omega
  clear k0 k1 k2 k3 k4 k5 k6 k7 hxb q0 q1 q2 q3 hT0
  by_cases hLM : L = M
  · have e1 : (L == M) = true := by simpa using hLM
    have e2 : decide (L = M) = true := decide_eq_true hLM
    have HX := Lib.hid hLM
    clear hLM
    refine wp_region_held_drew (S := (fun W' => W'.cell? ⟨w.heap.size, 0, none⟩ = some (.slice A D.length c) ∧ W'.cell? ⟨w.heap.size, 1, none⟩ = some (.int .i64 L) ∧ W'.cell? ⟨w.heap.size + 1, 0, none⟩ = some (.slice B E.length d) ∧ W'.cell? ⟨w.heap.size + 1, 1, none⟩ = some (.int .i64 M) ∧ W'.cell? ⟨xb, 0, none⟩ = some (.slice A1 n1 c1) ∧ W'.cell? ⟨xb, 1, none⟩ = some (.int .i64 m1) ∧ LXO w (.slice A D.length c) L (.slice B E.length d) M xb (.slice A1 n1 c1) m1 (chk D L) [] W')) (by kernel_rfl) (LXO.s (LXO.call HZ.out (blw_drew (Below.refl _ _)))) (fun hHeld => ?_)
    refine takeY (i := 0) (v := ?_) rfl rfl (by kernel_rfl) (by kernel_rfl) (by kernel_rfl) (fun _ _ _ h => h) (by rfl) (fun W hW => ?_) (by assumption) ?_
    rotate_left 1
    · (simp only [List.getElem_toArray, List.getElem_cons_zero, List.getElem_cons_succ]; go_simp; try with_reducible rfl)
    try simp only [Act.put, List.setIfInBounds_toArray, List.set_cons_zero, List.set_cons_succ]
    refine takeY (i := 1) (v := ?_) rfl rfl (by kernel_rfl) (by kernel_rfl) (by kernel_rfl) (fun _ _ _ h => h) (by rfl) (fun W hW => ?_) (by assumption) ?_
    rotate_left 1
    · (simp only [List.getElem_toArray, List.getElem_cons_zero, List.getElem_cons_succ]; go_simp; try with_reducible rfl)
    try simp only [Act.put, List.setIfInBounds_toArray, List.set_cons_zero, List.set_cons_succ]
    refine takeY (i := 2) (v := ?_) rfl rfl (by kernel_rfl) (by kernel_rfl) (by kernel_rfl) (fun _ _ _ h => h) (by rfl) (fun W hW => ?_) (by assumption) ?_
    rotate_left 1
    · (simp only [List.getElem_toArray, List.getElem_cons_zero, List.getElem_cons_succ]; go_simp; try with_reducible rfl)
    try simp only [Act.put, List.setIfInBounds_toArray, List.set_cons_zero, List.set_cons_succ]
    refine takeY (i := 3) (v := ?_) rfl rfl (by kernel_rfl) (by kernel_rfl) (by kernel_rfl) (fun _ _ _ h => h) (by rfl) (fun W hW => ?_) (by assumption) ?_
    rotate_left 1
    · (simp only [List.getElem_toArray, List.getElem_cons_zero, List.getElem_cons_succ]; go_simp; try with_reducible rfl)
    try simp only [Act.put, List.setIfInBounds_toArray, List.set_cons_zero, List.set_cons_succ]
    refine takeY (i := 4) (v := ?_) rfl rfl (by kernel_rfl) (by kernel_rfl) (by kernel_rfl) (fun _ _ _ h => h) (by rfl) (fun W hW => ?_) (by assumption) ?_
    rotate_left 1
    · (simp only [List.getElem_toArray, List.getElem_cons_zero, List.getElem_cons_succ]; go_simp; rw [if_neg (by omega)]; try with_reducible rfl)
    try simp only [Act.put, List.setIfInBounds_toArray, List.set_cons_zero, List.set_cons_succ]
    refine takeY (i := 5) (v := ?_) rfl rfl (by kernel_rfl) (by kernel_rfl) (by kernel_rfl) (fun _ _ _ h => h) (by rfl) (fun W hW => ?_) (by assumption) ?_
    rotate_left 1
    · (simp only [List.getElem_toArray, List.getElem_cons_zero, List.getElem_cons_succ]; go_simp; try with_reducible rfl)
    try simp only [Act.put, List.setIfInBounds_toArray, List.set_cons_zero, List.set_cons_succ]
    refine wpAnyH_ready (rs := [6]) (by kernel_rfl) (by simp) ?_
    refine AllReadyH.cons rfl (fun K hK => ?_) AllReadyH.nil
    go_simp
    go_at_call 10
    refine (holds_gen (And.right (LXO.of hHeld : LXO w (.slice A D.length c) L (.slice B E.length d) M xb (.slice A1 n1 c1) m1 (chk D L) [] _)) rfl _ (fun q => absurd q HH.out)).mono ?_
    rintro e w10 ⟨rfl, hbel⟩
    have HZ1 := LXO.call (LXO.of hHeld : LXO w (.slice A D.length c) L (.slice B E.length d) M xb (.slice A1 n1 c1) m1 (chk D L) [] _) hbel
    clear hbel hHeld
    go_wp2_with fail
    refine hK.out _ _ (LXO.s HZ1) (fun hHeld => ?_)
    clear hK K
    try simp only [Act.put, List.setIfInBounds_toArray, List.set_cons_zero, List.set_cons_succ]
    refine takeY (i := 7) (v := ?_) rfl rfl (by kernel_rfl) (by kernel_rfl) (by kernel_rfl) (fun _ _ _ h => h) (by rfl) (fun W hW => ?_) (by assumption) ?_
    rotate_left 1
    · (simp only [List.getElem_toArray, List.getElem_cons_zero, List.getElem_cons_succ]; go_simp; try with_reducible rfl)
    try simp only [Act.put, List.setIfInBounds_toArray, List.set_cons_zero, List.set_cons_succ]
    refine takeY (i := 8) (v := ?_) rfl rfl (by kernel_rfl) (by kernel_rfl) (by kernel_rfl) (fun _ _ _ h => h) (by rfl) (fun W hW => ?_) (by assumption) ?_
    rotate_left 1
    · (simp only [List.getElem_toArray, List.getElem_cons_zero, List.getElem_cons_succ]; go_simp; try with_reducible rfl)
    try simp only [Act.put, List.setIfInBounds_toArray, List.set_cons_zero, List.set_cons_succ]
    refine takeY (i := 9) (v := ?_) rfl rfl (by kernel_rfl) (by kernel_rfl) (by kernel_rfl) (fun _ _ _ h => h) (by rfl) (fun W hW => ?_) (by assumption) ?_
    rotate_left 1
    · (simp only [List.getElem_toArray, List.getElem_cons_zero, List.getElem_cons_succ]; go_simp; try with_reducible rfl)
    try simp only [Act.put, List.setIfInBounds_toArray, List.set_cons_zero, List.set_cons_succ]
    refine takeY (i := 10) (v := ?_) rfl rfl (by kernel_rfl) (by kernel_rfl) (by kernel_rfl) (fun _ _ _ h => h) (by rfl) (fun W hW => ?_) (by assumption) ?_
    rotate_left 1
    · (simp only [List.getElem_toArray, List.getElem_cons_zero, List.getElem_cons_succ]; go_simp; try with_reducible rfl)
    try simp only [Act.put, List.setIfInBounds_toArray, List.set_cons_zero, List.set_cons_succ]
    refine takeY (i := 11) (v := ?_) rfl rfl (by kernel_rfl) (by kernel_rfl) (by kernel_rfl) (fun _ _ _ h => h) (by rfl) (fun W hW => ?_) (by assumption) ?_
    rotate_left 1
    · (simp only [List.getElem_toArray, List.getElem_cons_zero, List.getElem_cons_succ]; go_simp; try with_reducible rfl)
    try simp only [Act.put, List.setIfInBounds_toArray, List.set_cons_zero, List.set_cons_succ]
    refine takeY (i := 12) (v := ?_) rfl rfl (by kernel_rfl) (by kernel_rfl) (by kernel_rfl) (fun _ _ _ h => h) (by rfl) (fun W hW => ?_) (by assumption) ?_
    rotate_left 1
    · (simp only [List.getElem_toArray, List.getElem_cons_zero, List.getElem_cons_succ]; go_simp; try with_reducible rfl)
    try simp only [Act.put, List.setIfInBounds_toArray, List.set_cons_zero, List.set_cons_succ]
    refine takeY (i := 13) (v := ?_) rfl rfl (by kernel_rfl) (by kernel_rfl) (by kernel_rfl) (fun _ _ _ h => h) (by rfl) (fun W hW => ?_) (by assumption) ?_
    rotate_left 1
    · (simp only [List.getElem_toArray, List.getElem_cons_zero, List.getElem_cons_succ]; go_simp; try with_reducible rfl)
    try simp only [Act.put, List.setIfInBounds_toArray, List.set_cons_zero, List.set_cons_succ]
    refine takeY (i := 14) (v := ?_) rfl rfl (by kernel_rfl) (by kernel_rfl) (by kernel_rfl) (fun _ _ _ h => h) (by rfl) (fun W hW => ?_) (by assumption) ?_
    rotate_left 1
    · (simp only [List.getElem_toArray, List.getElem_cons_zero, List.getElem_cons_succ]; go_simp; try with_reducible rfl)
    try simp only [Act.put, List.setIfInBounds_toArray, List.set_cons_zero, List.set_cons_succ]
    refine takeY (i := 15) (v := ?_) rfl rfl (by kernel_rfl) (by kernel_rfl) (by kernel_rfl) (fun _ _ _ h => h) (by rfl) (fun W hW => ?_) (by assumption) ?_
    rotate_left 1
    · (simp only [List.getElem_toArray, List.getElem_cons_zero, List.getElem_cons_succ]; go_simp; try with_reducible rfl)
    try simp only [Act.put, List.setIfInBounds_toArray, List.set_cons_zero, List.set_cons_succ]
    refine takeY (i := 16) (v := ?_) rfl rfl (by kernel_rfl) (by kernel_rfl) (by kernel_rfl) (fun _ _ _ h => h) (by rfl) (fun W hW => ?_) (by assumption) ?_
    rotate_left 1
    · (simp only [List.getElem_toArray, List.getElem_cons_zero, List.getElem_cons_succ]; go_simp; try with_reducible rfl)
    try simp only [Act.put, List.setIfInBounds_toArray, List.set_cons_zero, List.set_cons_succ]
    refine takeY (i := 17) (v := ?_) rfl rfl (by kernel_rfl) (by kernel_rfl) (by kernel_rfl) (fun _ _ _ h => h) (by rfl) (fun W hW => ?_) (by assumption) ?_
    rotate_left 1
    · (simp only [List.getElem_toArray, List.getElem_cons_zero, List.getElem_cons_succ]; go_simp; try with_reducible rfl)
    try simp only [Act.put, List.setIfInBounds_toArray, List.set_cons_zero, List.set_cons_succ]
    refine takeY (i := 18) (v := ?_) rfl rfl (by kernel_rfl) (by kernel_rfl) (by kernel_rfl) (fun _ _ _ h => h) (by rfl) (fun W hW => ?_) (by assumption) ?_
    rotate_left 1
    · (simp only [List.getElem_toArray, List.getElem_cons_zero, List.getElem_cons_succ]; go_simp; try with_reducible rfl)
    try simp only [Act.put, List.setIfInBounds_toArray, List.set_cons_zero, List.set_cons_succ]
    refine takeY (i := 19) (v := ?_) rfl rfl (by kernel_rfl) (by kernel_rfl) (by kernel_rfl) (fun _ _ _ h => h) (by rfl) (fun W hW => ?_) (by assumption) ?_
    rotate_left 1
    · (simp only [List.getElem_toArray, List.getElem_cons_zero, List.getElem_cons_succ]; go_simp; try with_reducible rfl)
    try simp only [Act.put, List.setIfInBounds_toArray, List.set_cons_zero, List.set_cons_succ]
    refine takeY (i := 21) (v := ?_) rfl rfl (by kernel_rfl) (by kernel_rfl) (by kernel_rfl) (fun _ _ _ h => h) (by rfl) (fun W hW => ?_) (by assumption) ?_
    rotate_left 1
    · (simp only [List.getElem_toArray, List.getElem_cons_zero, List.getElem_cons_succ]; go_simp; try with_reducible rfl)
    try simp only [Act.put, List.setIfInBounds_toArray, List.set_cons_zero, List.set_cons_succ]
    refine takeY (i := 22) (v := ?_) rfl rfl (by kernel_rfl) (by kernel_rfl) (by kernel_rfl) (fun _ _ _ h => h) (by rfl) (fun W hW => ?_) (by assumption) ?_
    rotate_left 1
    · (simp only [List.getElem_toArray, List.getElem_cons_zero, List.getElem_cons_succ]; go_simp; try with_reducible rfl)
    try simp only [Act.put, List.setIfInBounds_toArray, List.set_cons_zero, List.set_cons_succ]
    refine takeY (i := 23) (v := ?_) rfl rfl (by kernel_rfl) (by kernel_rfl) (by kernel_rfl) (fun _ _ _ h => h) (by rfl) (fun W hW => ?_) (by assumption) ?_
    rotate_left 1
    · (simp only [List.getElem_toArray, List.getElem_cons_zero, List.getElem_cons_succ]; go_simp; try with_reducible rfl)
    try simp only [Act.put, List.setIfInBounds_toArray, List.set_cons_zero, List.set_cons_succ]
    refine takeY (i := 24) (v := ?_) rfl rfl (by kernel_rfl) (by kernel_rfl) (by kernel_rfl) (fun _ _ _ h => h) (by rfl) (fun W hW => ?_) (by assumption) ?_
    rotate_left 1
    · (simp only [List.getElem_toArray, List.getElem_cons_zero, List.getElem_cons_succ]; go_simp; try with_reducible rfl)
    try simp only [Act.put, List.setIfInBounds_toArray, List.set_cons_zero, List.set_cons_succ]
    refine takeY (i := 25) (v := ?_) rfl rfl (by kernel_rfl) (by kernel_rfl) (by kernel_rfl) (fun _ _ _ h => h) (by rfl) (fun W hW => ?_) (by assumption) ?_
    rotate_left 1
    · (simp only [List.getElem_toArray, List.getElem_cons_zero, List.getElem_cons_succ]; go_simp; try with_reducible rfl)
    try simp only [Act.put, List.setIfInBounds_toArray, List.set_cons_zero, List.set_cons_succ]
    refine wpAnyH_ready (rs := [20]) (by kernel_rfl) (by simp) ?_
    refine AllReadyH.cons rfl (fun K hK => ?_) AllReadyH.nil
    go_simp
    go_at_call 14
    refine (same_any D E L M _ _ _ (HV.out.below (LXO.bel (LXO.of hHeld : LXO w (.slice A D.length c) L (.slice B E.length d) M xb (.slice A1 n1 c1) m1 (chk D L) [] _))) (HU.out.below (LXO.bel (LXO.of hHeld : LXO w (.slice A D.length c) L (.slice B E.length d) M xb (.slice A1 n1 c1) m1 (chk D L) [] _))) hD hl2).mono ?_
    rintro e w11 ⟨rfl, hbel⟩
    have HZ2 := LXO.call (LXO.of hHeld : LXO w (.slice A D.length c) L (.slice B E.length d) M xb (.slice A1 n1 c1) m1 (chk D L) [] _) hbel
    clear hbel hHeld
    go_wp2_with fail
    refine hK.out _ _ (LXO.s HZ2) (fun hHeld => ?_)
    clear hK K
    try simp only [Act.put, List.setIfInBounds_toArray, List.set_cons_zero, List.set_cons_succ]
    refine takeY (i := 26) (v := ?_) rfl rfl (by kernel_rfl) (by kernel_rfl) (by kernel_rfl) (fun _ _ _ h => h) (by rfl) (fun W hW => ?_) (by assumption) ?_
    rotate_left 1
    · (simp only [List.getElem_toArray, List.getElem_cons_zero, List.getElem_cons_succ]; go_simp; try with_reducible rfl)
    try simp only [Act.put, List.setIfInBounds_toArray, List.set_cons_zero, List.set_cons_succ]
    refine takeY (i := 27) (v := ?_) rfl rfl (by kernel_rfl) (by kernel_rfl) (by kernel_rfl) (fun _ _ _ h => h) (by rfl) (fun W hW => ?_) (by assumption) ?_
    rotate_left 1
    · (simp only [List.getElem_toArray, List.getElem_cons_zero, List.getElem_cons_succ]; go_simp; try with_reducible rfl)
    try simp only [Act.put, List.setIfInBounds_toArray, List.set_cons_zero, List.set_cons_succ]
    refine takeY (i := 28) (v := ?_) rfl rfl (by kernel_rfl) (by kernel_rfl) (by kernel_rfl) (fun _ _ _ h => h) (by rfl) (fun W hW => ?_) (by assumption) ?_
    rotate_left 1
    · (simp only [List.getElem_toArray, List.getElem_cons_zero, List.getElem_cons_succ]; go_simp; try with_reducible rfl)
    try simp only [Act.put, List.setIfInBounds_toArray, List.set_cons_zero, List.set_cons_succ]
    refine takeY (i := 29) (v := ?_) rfl rfl (by kernel_rfl) (by kernel_rfl) (by kernel_rfl) (fun _ _ _ h => h) (by rfl) (fun W hW => ?_) (by assumption) ?_
    rotate_left 1
    · (simp only [List.getElem_toArray, List.getElem_cons_zero, List.getElem_cons_succ]; have hc := rb_string (HV.out.below (LXO.bel (LXO.of hW : LXO w (.slice A D.length c) L (.slice B E.length d) M xb (.slice A1 n1 c1) m1 (chk D L) [] _))); go_simp; try with_reducible rfl)
    try simp only [Act.put, List.setIfInBounds_toArray, List.set_cons_zero, List.set_cons_succ]
    refine takeY (i := 30) (v := ?_) rfl rfl (by kernel_rfl) (by kernel_rfl) (by kernel_rfl) (fun _ _ _ h => h) (by rfl) (fun W hW => ?_) (by assumption) ?_
    rotate_left 1
    · (simp only [List.getElem_toArray, List.getElem_cons_zero, List.getElem_cons_succ]; go_simp; try with_reducible rfl)
    try simp only [Act.put, List.setIfInBounds_toArray, List.set_cons_zero, List.set_cons_succ]
    refine takeY (i := 31) (v := ?_) rfl rfl (by kernel_rfl) (by kernel_rfl) (by kernel_rfl) (fun _ _ _ h => h) (by rfl) (fun W hW => ?_) (by assumption) ?_
    rotate_left 1
    · (simp only [List.getElem_toArray, List.getElem_cons_zero, List.getElem_cons_succ]; go_simp; try with_reducible rfl)
    try simp only [Act.put, List.setIfInBounds_toArray, List.set_cons_zero, List.set_cons_succ]
    refine takeY (i := 32) (v := ?_) rfl rfl (by kernel_rfl) (by kernel_rfl) (by kernel_rfl) (fun _ _ _ h => h) (by rfl) (fun W hW => ?_) (by assumption) ?_
    rotate_left 1
    · (simp only [List.getElem_toArray, List.getElem_cons_zero, List.getElem_cons_succ]; have hc := rb_string (HU.out.below (LXO.bel (LXO.of hW : LXO w (.slice A D.length c) L (.slice B E.length d) M xb (.slice A1 n1 c1) m1 (chk D L) [] _))); go_simp; try with_reducible rfl)
    try simp only [Act.put, List.setIfInBounds_toArray, List.set_cons_zero, List.set_cons_succ]
    refine takeY (i := 33) (v := ?_) rfl rfl (by kernel_rfl) (by kernel_rfl) (by kernel_rfl) (fun _ _ _ h => h) (by rfl) (fun W hW => ?_) (by assumption) ?_
    rotate_left 1
    · (simp only [List.getElem_toArray, List.getElem_cons_zero, List.getElem_cons_succ]; go_simp; try with_reducible rfl)
    try simp only [Act.put, List.setIfInBounds_toArray, List.set_cons_zero, List.set_cons_succ]
    refine takeY (i := 34) (v := ?_) rfl rfl (by kernel_rfl) (by kernel_rfl) (by kernel_rfl) (fun _ _ _ h => h) (by rfl) (fun W hW => ?_) (by assumption) ?_
    rotate_left 1
    · (simp only [List.getElem_toArray, List.getElem_cons_zero, List.getElem_cons_succ]; go_simp; try with_reducible rfl)
    try simp only [Act.put, List.setIfInBounds_toArray, List.set_cons_zero, List.set_cons_succ]
    refine takeY (i := 35) (v := ?_) rfl rfl (by kernel_rfl) (by kernel_rfl) (by kernel_rfl) (fun _ _ _ h => h) (by rfl) (fun W hW => ?_) (by assumption) ?_
    rotate_left 1
    · (simp only [List.getElem_toArray, List.getElem_cons_zero, List.getElem_cons_succ]; go_simp; try with_reducible rfl)
    try simp only [Act.put, List.setIfInBounds_toArray, List.set_cons_zero, List.set_cons_succ]
    refine takeY (i := 36) (v := ?_) rfl rfl (by kernel_rfl) (by kernel_rfl) (by kernel_rfl) (fun _ _ _ h => h) (by rfl) (fun W hW => ?_) (by assumption) ?_
    rotate_left 1
    · (simp only [List.getElem_toArray, List.getElem_cons_zero, List.getElem_cons_succ]; go_simp; try with_reducible rfl)
    try simp only [Act.put, List.setIfInBounds_toArray, List.set_cons_zero, List.set_cons_succ]
    refine takeY (i := 37) (v := ?_) rfl rfl (by kernel_rfl) (by kernel_rfl) (by kernel_rfl) (fun _ _ _ h => h) (by rfl) (fun W hW => ?_) (by assumption) ?_
    rotate_left 1
    · (simp only [List.getElem_toArray, List.getElem_cons_zero, List.getElem_cons_succ]; go_simp; try with_reducible rfl)
    try simp only [Act.put, List.setIfInBounds_toArray, List.set_cons_zero, List.set_cons_succ]
    refine wpAnyH_done (by kernel_rfl) ?_ _
    go_wp2
    go_ret
    have hq : (eqB D E == (D == E)) = true := by unfold eqB; by_cases h : D = E <;> simp [h]
    exact ⟨congrArg (fun b => Ending.returned (.bool b)) hq, LXO.bel (LXO.of hHeld : LXO w (.slice A D.length c) L (.slice B E.length d) M xb (.slice A1 n1 c1) m1 (chk D L) [] _)⟩
  · have e1 : (L == M) = false := by simpa using hLM
    have e2 : decide (L = M) = false := decide_eq_false hLM
    have HX := Lib.hid hLM
    clear hLM
    refine wp_region_held_drew (S := (fun W' => W'.cell? ⟨w.heap.size, 0, none⟩ = some (.slice A D.length c) ∧ W'.cell? ⟨w.heap.size, 1, none⟩ = some (.int .i64 L) ∧ W'.cell? ⟨w.heap.size + 1, 0, none⟩ = some (.slice B E.length d) ∧ W'.cell? ⟨w.heap.size + 1, 1, none⟩ = some (.int .i64 M) ∧ W'.cell? ⟨xb, 0, none⟩ = some (.slice A1 n1 c1) ∧ W'.cell? ⟨xb, 1, none⟩ = some (.int .i64 m1) ∧ LXO w (.slice A D.length c) L (.slice B E.length d) M xb (.slice A1 n1 c1) m1 (chk D L) [] W')) (by kernel_rfl) (LXO.s (LXO.call HZ.out (blw_drew (Below.refl _ _)))) (fun hHeld => ?_)
    refine takeY (i := 0) (v := ?_) rfl rfl (by kernel_rfl) (by kernel_rfl) (by kernel_rfl) (fun _ _ _ h => h) (by rfl) (fun W hW => ?_) (by assumption) ?_
    rotate_left 1
    · (simp only [List.getElem_toArray, List.getElem_cons_zero, List.getElem_cons_succ]; go_simp; try with_reducible rfl)
    try simp only [Act.put, List.setIfInBounds_toArray, List.set_cons_zero, List.set_cons_succ]
    refine takeY (i := 1) (v := ?_) rfl rfl (by kernel_rfl) (by kernel_rfl) (by kernel_rfl) (fun _ _ _ h => h) (by rfl) (fun W hW => ?_) (by assumption) ?_
    rotate_left 1
    · (simp only [List.getElem_toArray, List.getElem_cons_zero, List.getElem_cons_succ]; go_simp; try with_reducible rfl)
    try simp only [Act.put, List.setIfInBounds_toArray, List.set_cons_zero, List.set_cons_succ]
    refine takeY (i := 2) (v := ?_) rfl rfl (by kernel_rfl) (by kernel_rfl) (by kernel_rfl) (fun _ _ _ h => h) (by rfl) (fun W hW => ?_) (by assumption) ?_
    rotate_left 1
    · (simp only [List.getElem_toArray, List.getElem_cons_zero, List.getElem_cons_succ]; go_simp; try with_reducible rfl)
    try simp only [Act.put, List.setIfInBounds_toArray, List.set_cons_zero, List.set_cons_succ]
    refine takeY (i := 3) (v := ?_) rfl rfl (by kernel_rfl) (by kernel_rfl) (by kernel_rfl) (fun _ _ _ h => h) (by rfl) (fun W hW => ?_) (by assumption) ?_
    rotate_left 1
    · (simp only [List.getElem_toArray, List.getElem_cons_zero, List.getElem_cons_succ]; go_simp; try with_reducible rfl)
    try simp only [Act.put, List.setIfInBounds_toArray, List.set_cons_zero, List.set_cons_succ]
    refine takeY (i := 4) (v := ?_) rfl rfl (by kernel_rfl) (by kernel_rfl) (by kernel_rfl) (fun _ _ _ h => h) (by rfl) (fun W hW => ?_) (by assumption) ?_
    rotate_left 1
    · (simp only [List.getElem_toArray, List.getElem_cons_zero, List.getElem_cons_succ]; go_simp; rw [if_neg (by omega)]; try with_reducible rfl)
    try simp only [Act.put, List.setIfInBounds_toArray, List.set_cons_zero, List.set_cons_succ]
    refine takeY (i := 5) (v := ?_) rfl rfl (by kernel_rfl) (by kernel_rfl) (by kernel_rfl) (fun _ _ _ h => h) (by rfl) (fun W hW => ?_) (by assumption) ?_
    rotate_left 1
    · (simp only [List.getElem_toArray, List.getElem_cons_zero, List.getElem_cons_succ]; go_simp; try with_reducible rfl)
    try simp only [Act.put, List.setIfInBounds_toArray, List.set_cons_zero, List.set_cons_succ]
    refine wpAnyH_ready (rs := [6]) (by kernel_rfl) (by simp) ?_
    refine AllReadyH.cons rfl (fun K hK => ?_) AllReadyH.nil
    go_simp
    go_at_call 10
    refine (holds_gen (And.right (LXO.of hHeld : LXO w (.slice A D.length c) L (.slice B E.length d) M xb (.slice A1 n1 c1) m1 (chk D L) [] _)) rfl _ (fun q => absurd q HH.out)).mono ?_
    rintro e w10 ⟨rfl, hbel⟩
    have HZ1 := LXO.call (LXO.of hHeld : LXO w (.slice A D.length c) L (.slice B E.length d) M xb (.slice A1 n1 c1) m1 (chk D L) [] _) hbel
    clear hbel hHeld
    go_wp2_with fail
    refine hK.out _ _ (LXO.s HZ1) (fun hHeld => ?_)
    clear hK K
    try simp only [Act.put, List.setIfInBounds_toArray, List.set_cons_zero, List.set_cons_succ]
    refine takeY (i := 7) (v := ?_) rfl rfl (by kernel_rfl) (by kernel_rfl) (by kernel_rfl) (fun _ _ _ h => h) (by rfl) (fun W hW => ?_) (by assumption) ?_
    rotate_left 1
    · (simp only [List.getElem_toArray, List.getElem_cons_zero, List.getElem_cons_succ]; go_simp; try with_reducible rfl)
    try simp only [Act.put, List.setIfInBounds_toArray, List.set_cons_zero, List.set_cons_succ]
    refine takeY (i := 8) (v := ?_) rfl rfl (by kernel_rfl) (by kernel_rfl) (by kernel_rfl) (fun _ _ _ h => h) (by rfl) (fun W hW => ?_) (by assumption) ?_
    rotate_left 1
    · (simp only [List.getElem_toArray, List.getElem_cons_zero, List.getElem_cons_succ]; go_simp; try with_reducible rfl)
    try simp only [Act.put, List.setIfInBounds_toArray, List.set_cons_zero, List.set_cons_succ]
    refine takeY (i := 9) (v := ?_) rfl rfl (by kernel_rfl) (by kernel_rfl) (by kernel_rfl) (fun _ _ _ h => h) (by rfl) (fun W hW => ?_) (by assumption) ?_
    rotate_left 1
    · (simp only [List.getElem_toArray, List.getElem_cons_zero, List.getElem_cons_succ]; go_simp; try with_reducible rfl)
    try simp only [Act.put, List.setIfInBounds_toArray, List.set_cons_zero, List.set_cons_succ]
    refine takeY (i := 10) (v := ?_) rfl rfl (by kernel_rfl) (by kernel_rfl) (by kernel_rfl) (fun _ _ _ h => h) (by rfl) (fun W hW => ?_) (by assumption) ?_
    rotate_left 1
    · (simp only [List.getElem_toArray, List.getElem_cons_zero, List.getElem_cons_succ]; go_simp; try with_reducible rfl)
    try simp only [Act.put, List.setIfInBounds_toArray, List.set_cons_zero, List.set_cons_succ]
    refine takeY (i := 11) (v := ?_) rfl rfl (by kernel_rfl) (by kernel_rfl) (by kernel_rfl) (fun _ _ _ h => h) (by rfl) (fun W hW => ?_) (by assumption) ?_
    rotate_left 1
    · (simp only [List.getElem_toArray, List.getElem_cons_zero, List.getElem_cons_succ]; go_simp; try with_reducible rfl)
    try simp only [Act.put, List.setIfInBounds_toArray, List.set_cons_zero, List.set_cons_succ]
    refine takeY (i := 12) (v := ?_) rfl rfl (by kernel_rfl) (by kernel_rfl) (by kernel_rfl) (fun _ _ _ h => h) (by rfl) (fun W hW => ?_) (by assumption) ?_
    rotate_left 1
    · (simp only [List.getElem_toArray, List.getElem_cons_zero, List.getElem_cons_succ]; go_simp; try with_reducible rfl)
    try simp only [Act.put, List.setIfInBounds_toArray, List.set_cons_zero, List.set_cons_succ]
    refine takeY (i := 13) (v := ?_) rfl rfl (by kernel_rfl) (by kernel_rfl) (by kernel_rfl) (fun _ _ _ h => h) (by rfl) (fun W hW => ?_) (by assumption) ?_
    rotate_left 1
    · (simp only [List.getElem_toArray, List.getElem_cons_zero, List.getElem_cons_succ]; go_simp; try with_reducible rfl)
    try simp only [Act.put, List.setIfInBounds_toArray, List.set_cons_zero, List.set_cons_succ]
    refine takeY (i := 14) (v := ?_) rfl rfl (by kernel_rfl) (by kernel_rfl) (by kernel_rfl) (fun _ _ _ h => h) (by rfl) (fun W hW => ?_) (by assumption) ?_
    rotate_left 1
    · (simp only [List.getElem_toArray, List.getElem_cons_zero, List.getElem_cons_succ]; go_simp; try with_reducible rfl)
    try simp only [Act.put, List.setIfInBounds_toArray, List.set_cons_zero, List.set_cons_succ]
    refine takeY (i := 15) (v := ?_) rfl rfl (by kernel_rfl) (by kernel_rfl) (by kernel_rfl) (fun _ _ _ h => h) (by rfl) (fun W hW => ?_) (by assumption) ?_
    rotate_left 1
    · (simp only [List.getElem_toArray, List.getElem_cons_zero, List.getElem_cons_succ]; go_simp; try with_reducible rfl)
    try simp only [Act.put, List.setIfInBounds_toArray, List.set_cons_zero, List.set_cons_succ]
    refine takeY (i := 16) (v := ?_) rfl rfl (by kernel_rfl) (by kernel_rfl) (by kernel_rfl) (fun _ _ _ h => h) (by rfl) (fun W hW => ?_) (by assumption) ?_
    rotate_left 1
    · (simp only [List.getElem_toArray, List.getElem_cons_zero, List.getElem_cons_succ]; go_simp; try with_reducible rfl)
    try simp only [Act.put, List.setIfInBounds_toArray, List.set_cons_zero, List.set_cons_succ]
    refine takeY (i := 17) (v := ?_) rfl rfl (by kernel_rfl) (by kernel_rfl) (by kernel_rfl) (fun _ _ _ h => h) (by rfl) (fun W hW => ?_) (by assumption) ?_
    rotate_left 1
    · (simp only [List.getElem_toArray, List.getElem_cons_zero, List.getElem_cons_succ]; go_simp; try with_reducible rfl)
    try simp only [Act.put, List.setIfInBounds_toArray, List.set_cons_zero, List.set_cons_succ]
    refine takeY (i := 18) (v := ?_) rfl rfl (by kernel_rfl) (by kernel_rfl) (by kernel_rfl) (fun _ _ _ h => h) (by rfl) (fun W hW => ?_) (by assumption) ?_
    rotate_left 1
    · (simp only [List.getElem_toArray, List.getElem_cons_zero, List.getElem_cons_succ]; go_simp; try with_reducible rfl)
    try simp only [Act.put, List.setIfInBounds_toArray, List.set_cons_zero, List.set_cons_succ]
    refine takeY (i := 19) (v := ?_) rfl rfl (by kernel_rfl) (by kernel_rfl) (by kernel_rfl) (fun _ _ _ h => h) (by rfl) (fun W hW => ?_) (by assumption) ?_
    rotate_left 1
    · (simp only [List.getElem_toArray, List.getElem_cons_zero, List.getElem_cons_succ]; go_simp; try with_reducible rfl)
    try simp only [Act.put, List.setIfInBounds_toArray, List.set_cons_zero, List.set_cons_succ]
    refine takeY (i := 21) (v := ?_) rfl rfl (by kernel_rfl) (by kernel_rfl) (by kernel_rfl) (fun _ _ _ h => h) (by rfl) (fun W hW => ?_) (by assumption) ?_
    rotate_left 1
    · (simp only [List.getElem_toArray, List.getElem_cons_zero, List.getElem_cons_succ]; go_simp; try with_reducible rfl)
    try simp only [Act.put, List.setIfInBounds_toArray, List.set_cons_zero, List.set_cons_succ]
    refine takeY (i := 22) (v := ?_) rfl rfl (by kernel_rfl) (by kernel_rfl) (by kernel_rfl) (fun _ _ _ h => h) (by rfl) (fun W hW => ?_) (by assumption) ?_
    rotate_left 1
    · (simp only [List.getElem_toArray, List.getElem_cons_zero, List.getElem_cons_succ]; go_simp; try with_reducible rfl)
    try simp only [Act.put, List.setIfInBounds_toArray, List.set_cons_zero, List.set_cons_succ]
    refine takeY (i := 23) (v := ?_) rfl rfl (by kernel_rfl) (by kernel_rfl) (by kernel_rfl) (fun _ _ _ h => h) (by rfl) (fun W hW => ?_) (by assumption) ?_
    rotate_left 1
    · (simp only [List.getElem_toArray, List.getElem_cons_zero, List.getElem_cons_succ]; go_simp; try with_reducible rfl)
    try simp only [Act.put, List.setIfInBounds_toArray, List.set_cons_zero, List.set_cons_succ]
    refine takeY (i := 24) (v := ?_) rfl rfl (by kernel_rfl) (by kernel_rfl) (by kernel_rfl) (fun _ _ _ h => h) (by rfl) (fun W hW => ?_) (by assumption) ?_
    rotate_left 1
    · (simp only [List.getElem_toArray, List.getElem_cons_zero, List.getElem_cons_succ]; go_simp; try with_reducible rfl)
    try simp only [Act.put, List.setIfInBounds_toArray, List.set_cons_zero, List.set_cons_succ]
    refine takeY (i := 25) (v := ?_) rfl rfl (by kernel_rfl) (by kernel_rfl) (by kernel_rfl) (fun _ _ _ h => h) (by rfl) (fun W hW => ?_) (by assumption) ?_
    rotate_left 1
    · (simp only [List.getElem_toArray, List.getElem_cons_zero, List.getElem_cons_succ]; go_simp; try with_reducible rfl)
    try simp only [Act.put, List.setIfInBounds_toArray, List.set_cons_zero, List.set_cons_succ]
    refine wpAnyH_ready (rs := [20]) (by kernel_rfl) (by simp) ?_
    refine AllReadyH.cons rfl (fun K hK => ?_) AllReadyH.nil
    go_simp
    go_at_call 14
    refine (same_any D E L M _ _ _ (HV.out.below (LXO.bel (LXO.of hHeld : LXO w (.slice A D.length c) L (.slice B E.length d) M xb (.slice A1 n1 c1) m1 (chk D L) [] _))) (HU.out.below (LXO.bel (LXO.of hHeld : LXO w (.slice A D.length c) L (.slice B E.length d) M xb (.slice A1 n1 c1) m1 (chk D L) [] _))) hD hl2).mono ?_
    rintro e w11 ⟨rfl, hbel⟩
    have HZ2 := LXO.call (LXO.of hHeld : LXO w (.slice A D.length c) L (.slice B E.length d) M xb (.slice A1 n1 c1) m1 (chk D L) [] _) hbel
    clear hbel hHeld
    go_wp2_with fail
    refine hK.out _ _ (LXO.s HZ2) (fun hHeld => ?_)
    clear hK K
    try simp only [Act.put, List.setIfInBounds_toArray, List.set_cons_zero, List.set_cons_succ]
    refine takeY (i := 26) (v := ?_) rfl rfl (by kernel_rfl) (by kernel_rfl) (by kernel_rfl) (fun _ _ _ h => h) (by rfl) (fun W hW => ?_) (by assumption) ?_
    rotate_left 1
    · (simp only [List.getElem_toArray, List.getElem_cons_zero, List.getElem_cons_succ]; go_simp; try with_reducible rfl)
    try simp only [Act.put, List.setIfInBounds_toArray, List.set_cons_zero, List.set_cons_succ]
    refine takeNo (i := 27) rfl rfl (by kernel_rfl) (by kernel_rfl) (by kernel_rfl) (fun _ _ _ h => h) (by rfl) (by assumption) ?_
    try simp only [Act.put, List.setIfInBounds_toArray, List.set_cons_zero, List.set_cons_succ]
    refine takeNo (i := 28) rfl rfl (by kernel_rfl) (by kernel_rfl) (by kernel_rfl) (fun _ _ _ h => h) (by rfl) (by assumption) ?_
    try simp only [Act.put, List.setIfInBounds_toArray, List.set_cons_zero, List.set_cons_succ]
    refine takeNo (i := 29) rfl rfl (by kernel_rfl) (by kernel_rfl) (by kernel_rfl) (fun _ _ _ h => h) (by rfl) (by assumption) ?_
    try simp only [Act.put, List.setIfInBounds_toArray, List.set_cons_zero, List.set_cons_succ]
    refine takeNo (i := 30) rfl rfl (by kernel_rfl) (by kernel_rfl) (by kernel_rfl) (fun _ _ _ h => h) (by rfl) (by assumption) ?_
    try simp only [Act.put, List.setIfInBounds_toArray, List.set_cons_zero, List.set_cons_succ]
    refine takeNo (i := 31) rfl rfl (by kernel_rfl) (by kernel_rfl) (by kernel_rfl) (fun _ _ _ h => h) (by rfl) (by assumption) ?_
    try simp only [Act.put, List.setIfInBounds_toArray, List.set_cons_zero, List.set_cons_succ]
    refine takeNo (i := 32) rfl rfl (by kernel_rfl) (by kernel_rfl) (by kernel_rfl) (fun _ _ _ h => h) (by rfl) (by assumption) ?_
    try simp only [Act.put, List.setIfInBounds_toArray, List.set_cons_zero, List.set_cons_succ]
    refine takeNo (i := 33) rfl rfl (by kernel_rfl) (by kernel_rfl) (by kernel_rfl) (fun _ _ _ h => h) (by rfl) (by assumption) ?_
    try simp only [Act.put, List.setIfInBounds_toArray, List.set_cons_zero, List.set_cons_succ]
    refine takeY (i := 34) (v := ?_) rfl rfl (by kernel_rfl) (by kernel_rfl) (by kernel_rfl) (fun _ _ _ h => h) (by rfl) (fun W hW => ?_) (by assumption) ?_
    rotate_left 1
    · (simp only [List.getElem_toArray, List.getElem_cons_zero, List.getElem_cons_succ]; go_simp; try with_reducible rfl)
    try simp only [Act.put, List.setIfInBounds_toArray, List.set_cons_zero, List.set_cons_succ]
    refine takeY (i := 35) (v := ?_) rfl rfl (by kernel_rfl) (by kernel_rfl) (by kernel_rfl) (fun _ _ _ h => h) (by rfl) (fun W hW => ?_) (by assumption) ?_
    rotate_left 1
    · (simp only [List.getElem_toArray, List.getElem_cons_zero, List.getElem_cons_succ]; go_simp; try with_reducible rfl)
    try simp only [Act.put, List.setIfInBounds_toArray, List.set_cons_zero, List.set_cons_succ]
    refine takeY (i := 36) (v := ?_) rfl rfl (by kernel_rfl) (by kernel_rfl) (by kernel_rfl) (fun _ _ _ h => h) (by rfl) (fun W hW => ?_) (by assumption) ?_
    rotate_left 1
    · (simp only [List.getElem_toArray, List.getElem_cons_zero, List.getElem_cons_succ]; go_simp; try with_reducible rfl)
    try simp only [Act.put, List.setIfInBounds_toArray, List.set_cons_zero, List.set_cons_succ]
    refine takeY (i := 37) (v := ?_) rfl rfl (by kernel_rfl) (by kernel_rfl) (by kernel_rfl) (fun _ _ _ h => h) (by rfl) (fun W hW => ?_) (by assumption) ?_
    rotate_left 1
    · (simp only [List.getElem_toArray, List.getElem_cons_zero, List.getElem_cons_succ]; go_simp; try with_reducible rfl)
    try simp only [Act.put, List.setIfInBounds_toArray, List.set_cons_zero, List.set_cons_succ]
    refine wpAnyH_done (by kernel_rfl) ?_ _
    go_wp2
    go_ret
    exact ⟨rfl, LXO.bel (LXO.of hHeld : LXO w (.slice A D.length c) L (.slice B E.length d) M xb (.slice A1 n1 c1) m1 (chk D L) [] _)⟩
end Go.Proofs.Ytnbdmmepdmmbmaa
