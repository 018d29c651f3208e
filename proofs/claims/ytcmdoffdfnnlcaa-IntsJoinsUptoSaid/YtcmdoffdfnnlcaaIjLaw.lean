/- The walk of IntsJoins: the law's call returns true, if the plain law holds. No statement is proved here. -/
import Derived.Test.YtcmdoffdfnnlcaaIjWords
import Derived.Test.YtcmdoffdfnnlcaaPIjx5
import Derived.Test.YtcmdoffdfnnlcaaPIjx7
import Derived.Test.YtcmdoffdfnnlcaaPIjx7
import Derived.Test.YtcmdoffdfnnlcaaPIjx8
import Derived.Test.YtcmdoffdfnnlcaaPIjx8
import Derived.Test.YtcmdoffdfnnlcaaPIjx3
import Derived.Test.YtcmdoffdfnnlcaaPIjx4
import Derived.OwnWalk
import Derived.Deep.AppendLies
namespace Go.Proofs.Ytcmdoffdfnnlcaa.PIj
open Go.RowKit Go.Proofs.Ytcmdoffdfnnlcaa Go.Proofs.Ytcmdoffdfnnlcaa.Plug Go.Proofs.YtcmdoffdfnnlcaaW.PrintWords Go.Proofs.YtcmdoffdfnnlcaaW.PrintLast Go.Proofs.YtcmdoffdfnnlcaaW.PrintMore
set_option linter.unusedVariables false
set_option linter.unusedSimpArgs false
theorem right_any (n : Int) (w : World) : Calls Try.prog 7 #[.int .i64 n] w fun e w' => e = .returned (.bool (rt n)) ∧ Drawn0 w w' := by
  refine claplaw1_right.calls n _ w ?_
  unfold claplaw1_right.f rt
  by_cases h : n ≥ -9007199254740992
  · rw [if_pos h, show decide (-9007199254740992 ≤ n) = true from decide_eq_true h, Bool.true_and]
  · rw [if_neg h, show decide (-9007199254740992 ≤ n) = false from decide_eq_false h, Bool.false_and]
theorem int_info : (Try.prog.info? 3).map (fun i => (i.zero, i.size, i.bytes)) = some (some (.int .i64 0), 1, 8) := by kernel_rfl
theorem int_parts : ∃ i0, Try.prog.info? 3 = some i0 ∧ i0.zero = some (.int .i64 0) ∧ i0.size = 1 ∧ i0.bytes = 8 := by
  have h := int_info
  cases q : Try.prog.info? 3 with
  | none => rw [q] at h; cases h
  | some i0 =>
    rw [q] at h
    simp only [Option.map_some, Option.some.injEq, Prod.mk.injEq] at h
    exact ⟨i0, rfl, h.1, h.2.1, h.2.2⟩
abbrev en (xs : List Int) : List Value := xs.map (Value.int .i64)
theorem own_low {w w1 : World} {base e size n : Nat} {v : Value} {xs : List Value} (h : w.ownsRow base e size v n xs) (hb : Below w.heap.size w w1) : w1.ownsRow base e size v n xs := own_move h (fun k hk => hb.block k (own_lt h k hk))
theorem made_any (is_ : Int → Bool) (g : Nat) (cb : Array Value) (E : List Int) (m : List S36) (hm : ∃ k, claplaw1_made.f is_ k E 0 = some m) (w W : World) (gb : Nat) (va vb vl vlo vhi v : Value) (hX : Bx w gb va vb vl vlo vhi W) (hg : gb = w.heap.size) (hO : W.ownsRow (gb + 5) 3 1 v E.length (en E))
    (eg : ∀ args w, (callFunc g args).run Try.prog w = .ok (.enter g args) w) (hclo : ∀ (n : Int) (W' : World), Bx w gb va vb vl vlo vhi W' → Calls Try.prog g (#[.int .i64 n] ++ cb) W' fun e w' => e = .returned (.bool (is_ n)) ∧ Below W'.heap.size W' w') :
    Calls Try.prog 10 #[v, .func (.func g) #[] cb] W fun e w' => ∃ (A : Option Addr) (c : Nat), e = .returned (.slice A m.length c) ∧ m.length ≤ c ∧ Kd.C k36 w' A m.length m ∧ Bx w gb va vb vl vlo vhi w' ∧ Kept W w' (fun k_ => some k_ = v.ownBlock) := by
  obtain ⟨k, hk⟩ := hm
  have hR : Kd.R (Kd.int .i64) 3 W w.heap.size (fun k_ => some k_ = v.ownBlock) v E := Kd.R_lower (Kd.R_of_own (enc := Value.int .i64) (h1 := fun _ => rfl) hO (fun k hk => hk.symm)) (by omega)
  have hlow : ∀ k, some k = v.ownBlock → gb + 5 ≤ k := fun k hk => own_base hO k hk.symm
  refine (claplaw1_made.calls is_ g cb k (fun k_ => some k_ = v.ownBlock) v E 0 m w W (hg ▸ hX.bel) hR eg (fun n r W' hf hb hk => ?_) hk).mono ?_
  · obtain rfl := Option.some.inj hf
    exact hclo n W' (hX.kept (hg ▸ hb) hk hlow)
  · rintro e w' ⟨u, rfl, hr, hb, hk⟩
    obtain ⟨A, c, rfl, hc, hC⟩ := Kd.R_reads hr
    exact ⟨A, c, rfl, hc, hC, hX.kept (hg ▸ hb) hk hlow, hk⟩
/-- A row of the call's own, read behind a world in which only another block was written. -/
theorem R_kept {W W' : World} {base : Nat} {ok : Nat → Prop} {v u : Value} {xs : List S36} (h : Kd.R k36 36 W base ok v xs) (hk : Kept W W' (fun k_ => some k_ = u.ownBlock)) (hu : ∀ k, u.ownBlock = some k → k < base) : Kd.R k36 36 W' base ok v xs :=
  Kd.R_mono (Kd.R_step (Kd.R_bound h) (fun k hk' hlt => hk.2 k hlt (fun hp => by have := hu k hp.symm; have := hk'.2.1; omega))) (fun _ hk' => hk'.1)
/-- Two slices side by side in a new block, as a row of rows. -/
theorem pair_C {w W : World} {x y : List S36} {A B : Option Addr} {a b g : Nat} (hA : Kd.C k36 W A x.length x) (ha : x.length ≤ a) (hB : Kd.C k36 W B y.length y) (hb : y.length ≤ b) (hg : W.heap[g]? = some (.cells #[.slice A x.length a, .slice B y.length b] 23 (0, 0))) : Kd.C (Kd.slice 36 k36) W (some ⟨g, 0, none⟩) 2 [x, y] := by
  refine ⟨rfl, by omega, fun _ => ⟨_, rfl, fun j p hj => ?_⟩⟩
  have c := fun i => blk_cell hg i
  match j, hj with
  | 0, hj =>
    obtain rfl := Option.some.inj hj
    refine ⟨[.slice A x.length a], rfl, ⟨A, a, rfl, ha, hA⟩, fun i u hu => ?_⟩
    match i, hu with
    | 0, hu =>
      obtain rfl := Option.some.inj hu
      rw [add_plain]; exact c 0
  | 1, hj =>
    obtain rfl := Option.some.inj hj
    refine ⟨[.slice B y.length b], rfl, ⟨B, b, rfl, hb, hB⟩, fun i u hu => ?_⟩
    match i, hu with
    | 0, hu =>
      obtain rfl := Option.some.inj hu
      rw [add_plain]; exact c 1
theorem heap_R : Kd.Heap k36 := Kd.heap_iso _ (Kd.heap_pair (Kd.heap_int _) (Kd.heap_int _))
theorem clone_any (E : List Int) (v : Value) (W : World) (base : Nat) (hO : W.ownsRow base 3 1 v E.length (en E)) (h0 : 0 < E.length) (hb : E.length ≤ 1000000000) :
    Calls Try.prog 21 #[v] W fun e w' => ∃ v', e = .returned v' ∧ w'.ownsRow W.heap.size 3 1 v' E.length (en E) ∧ Below W.heap.size W w' := by
  have hR : Kd.R (Kd.int .i64) 3 W base (fun _ => True) v E := Kd.R_of_own (enc := Value.int .i64) (h1 := fun _ => rfl) hO (fun _ _ => trivial)
  obtain ⟨g, cap, rfl, _⟩ := Kd.R_form hR h0
  refine (Try.slices_Clone_int g 0 E.length cap E W (Nat.le_refl _) (by omega) (fun j hj => ?_)).mono ?_
  · have := (Kd.R_cell (0 : Int) hR (j : Int) (by omega) (by omega)).1
    rw [Nat.zero_add]
    simpa [rdOf] using this
  · rintro e w' ⟨v', rfl, ho, _, hbl⟩
    rw [List.take_length] at ho
    exact ⟨v', rfl, ho, hbl⟩
/-- Union, Common, Minus in one form. -/
def OpAt (n : Nat) (w : World) (gb : Nat) (va vb vl vlo vhi : Value) (s : List S36) (h : Int) : Prop :=
  ∀ W : World, Bx w gb va vb vl vlo vhi W → Calls Try.prog n #[va, vb] W fun e w' => ∃ (A : Option Addr) (c : Nat), e = .returned (.tuple #[.slice A s.length c, .int .i64 h]) ∧ s.length ≤ c ∧ Kd.R k36 36 w' W.heap.size (fun _ => True) (.slice A s.length c) s ∧ Below W.heap.size W w'
theorem own_kept {W W' : World} {base e size n : Nat} {v u : Value} {xs : List Value} (h : W.ownsRow base e size v n xs) (hk : Kept W W' (fun k_ => some k_ = u.ownBlock)) (hne : ∀ k, v.ownBlock = some k → u.ownBlock ≠ some k) : W'.ownsRow base e size v n xs :=
  own_move h (fun k hk' => hk.2 k (own_lt h k hk') (fun hp => hne k hk' hp.symm))
theorem takeY {P : Program} {ops : Array Oper} {Q : Exit → Act → World → Prop} {md : Region.Mode} {S : World → Prop} {i : Nat} {d : Tmp} {oi : Oper} {v : Value} {fuel : Nat} {listed : Array Bool} {a : Act} {w : World} (hi : ops[i]? = some oi) (hd : oi.dst = some d)
    (hs : Region.noSelect ops = true) (hf : Region.free md ops listed i = true) (hr : (Region.ready md ops listed).contains i = true)
    (hQ : ∀ c a w, Q (.panic c) (a.put (some d) v) w → Q (.panic c) a w) (hw : Region.wanted oi (yielded ops a.tmps) = true) (hv : ∀ w, S w → (execOp a.eval oi).run P w = .ok (.value v) w) (hS : S w)
    (h : wpAnyH P md ops Q S fuel (listed.setIfInBounds i true) (a.put (some d) v) w) : wpAnyH P md ops Q S (fuel + 1) listed a w :=
  wpAnyH_take hi hs hf hr (by rw [hd]; exact hQ) (Or.inl ⟨hw, hv⟩) hS (by rw [hd]; exact h)
theorem R_kept2 {W0 W W' : World} {base : Nat} {ok : Nat → Prop} {v u : Value} {xs : List S36} (h : Kd.R k36 36 W0 base ok v xs) (hb : Below W0.heap.size W0 W) (hk : Kept W W' (fun k_ => some k_ = u.ownBlock)) (hu : ∀ k, u.ownBlock = some k → W0.heap.size ≤ k) : Kd.R k36 36 W' base ok v xs :=
  Kd.R_mono (Kd.R_step (Kd.R_below (Kd.R_bound h) hb) (fun k hk' hlt => hk.2 k hlt (fun hp => by have := hu k hp.symm; have := hk'.2.2.1; omega))) (fun _ hk' => hk'.1)
theorem s1_keep {w wi wj : World} {gb : Nat} {va vb vl vlo vhi : Value} (h : wi.cell? ⟨gb, 0, none⟩ = some va ∧ wi.cell? ⟨gb + 1, 0, none⟩ = some vb ∧ Hid (Bx w gb va vb vl vlo vhi wi)) (hb : Below wi.heap.size wi wj) : wj.cell? ⟨gb, 0, none⟩ = some va ∧ wj.cell? ⟨gb + 1, 0, none⟩ = some vb ∧ Hid (Bx w gb va vb vl vlo vhi wj) :=
  have H := h.2.2.out.low hb
  ⟨H.c0, H.c1, Lib.hid H⟩
theorem s1_bx {w wi : World} {gb : Nat} {va vb vl vlo vhi : Value} (h : wi.cell? ⟨gb, 0, none⟩ = some va ∧ wi.cell? ⟨gb + 1, 0, none⟩ = some vb ∧ Hid (Bx w gb va vb vl vlo vhi wi)) : Bx w gb va vb vl vlo vhi wi := h.2.2.out
set_option maxHeartbeats 16000000 in
set_option maxRecDepth 1000000 in
theorem law_walk (x y : List S36) (l : List Int) (lo hi e f : Int) (s1 s2 s3 s4 s5 m1 m2 m3 m4 m5 : List S36) (h1 h2 h3 h4 h5 : Int) (Z : LawIn x y l lo hi e f s1 s2 s3 s4 s5 m1 m2 m3 m4 m5 h1 h2 h3 h4 h5)
    (A B L : Option Addr) (a b c : Nat) (w : World) (hA : Kd.C k36 w A x.length x) (ha : x.length ≤ a) (hB : Kd.C k36 w B y.length y) (hb : y.length ≤ b) (hL : Kd.C (Kd.int .i64) w L l.length l) (hc : l.length ≤ c)
    (lx : x.length ≤ 1048576) (ly : y.length ≤ 1048576) (ll : l.length ≤ 1048576) (wl : ∀ n ∈ l, (Lit.int .i64 n).wf = true) (wlo : (Lit.int .i64 lo).wf = true) (whi : (Lit.int .i64 hi).wf = true) :
    Calls Try.prog 3 #[.slice A x.length a, .slice B y.length b, .slice L l.length c, .int .i64 lo, .int .i64 hi] w (Tr w) := by
  have hu23 := Try.underlying23
  have hu24 := Try.underlying24
  have hu36 := Try.underlying36
  have ZZ := Lib.hid Z
  have HA := Lib.hid hA
  have HB := Lib.hid hB
  have HL := Lib.hid hL
  have LX := Lib.hid lx
  have LY := Lib.hid ly
  have LL := Lib.hid ll
  have HAA := Lib.hid ha
  have HBB := Lib.hid hb
  have HCC := Lib.hid hc
  have WL := Lib.hid wl
  clear Z hA hB hL ha hb hc ly wl
  go_enter Try.func3, Try.ntmps3
  go_upto_region 1 with (fail)
  have HX0 := Bx.start w (.slice A x.length a) (.slice B y.length b) (.slice L l.length c) (.int .i64 lo) (.int .i64 hi)
  rw [show w.heap.size + 1 + 1 + 1 + 1 = w.heap.size + 4 from rfl, show w.heap.size + 1 + 1 + 1 = w.heap.size + 3 from rfl, show w.heap.size + 1 + 1 = w.heap.size + 2 from rfl]
  generalize (((((w.alloc (.cells #[.slice A x.length a] 23)).alloc (.cells #[.slice B y.length b] 23)).alloc (.cells #[.slice L l.length c] 24)).alloc (.cells #[.int .i64 lo] 3)).alloc (.cells #[.int .i64 hi] 3)) = w2 at HX0 ⊢
  obtain ⟨gb, hgb⟩ : ∃ gb, gb = w.heap.size := ⟨_, rfl⟩
  rw [← hgb] at HX0 ⊢
  have HG := Lib.hid hgb
  clear hgb
  obtain ⟨ke, hke⟩ := ZZ.out.ee
  obtain ⟨kf, hkf⟩ := ZZ.out.ff
  have EA := Lib.hid (fun (W : World) (h : Bx w gb (.slice A x.length a) (.slice B y.length b) (.slice L l.length c) (.int .i64 lo) (.int .i64 hi) W) => claplaw1_setErr.calls ke A a x e W (Kd.C_below HA.out (HG.out ▸ h.bel)) HAA.out hke)
  have EB := Lib.hid (fun (W : World) (h : Bx w gb (.slice A x.length a) (.slice B y.length b) (.slice L l.length c) (.int .i64 lo) (.int .i64 hi) W) => claplaw1_setErr.calls kf B b y f W (Kd.C_below HB.out (HG.out ▸ h.bel)) HBB.out hkf)
  clear hke hkf
  have HXD := HX0.drew
  have HSD : w2.drew.cell? ⟨gb, 0, none⟩ = some (.slice A x.length a) ∧ w2.drew.cell? ⟨gb + 1, 0, none⟩ = some (.slice B y.length b) ∧ Hid (Bx w gb (.slice A x.length a) (.slice B y.length b) (.slice L l.length c) (.int .i64 lo) (.int .i64 hi) w2.drew) := ⟨HXD.c0, HXD.c1, Lib.hid HXD⟩
  clear HX0 HXD
  go_region_held3 (fun W => W.cell? ⟨gb, 0, none⟩ = some (.slice A x.length a) ∧ W.cell? ⟨gb + 1, 0, none⟩ = some (.slice B y.length b) ∧ Hid (Bx w gb (.slice A x.length a) (.slice B y.length b) (.slice L l.length c) (.int .i64 lo) (.int .i64 hi) W)) (first | assumption | exact s1_keep (by assumption) (by assumption)) (first | (go_at_call_of 4 (Value.slice A x.length a); refine (EA.out _ (s1_bx (by assumption))).mono ?_; rintro e1 w1 ⟨rfl, hb⟩) | (go_at_call_of 4 (Value.slice B y.length b); refine (EB.out _ (s1_bx (by assumption))).mono ?_; rintro e1 w1 ⟨rfl, hb⟩))
  rename_i hh
  obtain ⟨-, -, HX1⟩ := hh
  clear hb HSD
  have CA := Lib.hid (fun (W : World) (h : Bx w gb (.slice A x.length a) (.slice B y.length b) (.slice L l.length c) (.int .i64 lo) (.int .i64 hi) W) => ZZ.out.ce.elim fun k hk => ints_Check.calls k A a x e W (Kd.C_below HA.out (HG.out ▸ h.bel)) HAA.out hk)
  have CB := Lib.hid (fun (W : World) (h : Bx w gb (.slice A x.length a) (.slice B y.length b) (.slice L l.length c) (.int .i64 lo) (.int .i64 hi) W) => ZZ.out.cf.elim fun k hk => ints_Check.calls k B b y f W (Kd.C_below HB.out (HG.out ▸ h.bel)) HBB.out hk)
  have CR := Lib.hid (fun (W : World) => ZZ.out.rg.elim fun k hk => claplaw1_ranged.calls k true W hk)
  go_upto_region 6 with (first | (go_at_call 5; refine (CR.out _).mono ?_; rintro e1 w3 ⟨rfl, hb3⟩; have HX3 := Lib.hid (HX1.out.low hb3); have k0 := HX3.out.c0; clear hb3) | (go_at_call_of 6 (Value.slice A x.length a); refine (CA.out _ HX3.out).mono ?_; rintro e1 w4 ⟨rfl, hb4⟩; have HX4 := Lib.hid (HX3.out.low hb4); have k1 := HX4.out.c1; clear hb4 k0) | (go_at_call_of 6 (Value.slice B y.length b); refine (CB.out _ HX4.out).mono ?_; rintro e1 w5 ⟨rfl, hb5⟩; have HX5 := Lib.hid (HX4.out.low hb5); clear hb5 k1))
  have HX6 := HX5.out.alloc (.cells #[.int .i64 (-9007199254740992)] 3)
  have HO6 : (w5.alloc (.cells #[.int .i64 (-9007199254740992)] 3)).ownsRow (gb + 5) 3 1 (.slice (some ⟨w5.heap.size, 0, none⟩) 1 1) 1 (en [-9007199254740992]) :=
    ⟨rfl, .inr ⟨w5.heap.size, 1, _, rfl, HX5.out.lt, heap_alloc_new w5 _, Nat.le_refl _, by unfold maxLen; omega, rfl, rfl⟩⟩
  generalize w5.alloc (.cells #[.int .i64 (-9007199254740992)] 3) = w6 at HX6 HO6 ⊢
  generalize w5.heap.size = g6 at HO6 ⊢
  have k2 := HX6.c2
  obtain ⟨i0, hi0, hz0, hz1, hz2⟩ := int_parts
  have HX6' := Lib.hid HX6
  have HO6' := Lib.hid HO6
  clear HX6 HO6 CA CB CR EA EB HX1 HX3 HX4 HX5
  go_wp2_with fail
  go_loopw [13, 14, 48] (fun v g i W => ∃ j : Nat, j ≤ l.length ∧ g = .int .i64 (errL (l.take j)) ∧ i = .int .i64 j ∧ Hid (W.ownsRow (gb + 5) 3 1 v (-9007199254740992 :: edL (l.take j)).length (en (-9007199254740992 :: edL (l.take j)))) ∧ Hid (Bx w gb (.slice A x.length a) (.slice B y.length b) (.slice L l.length c) (.int .i64 lo) (.int .i64 hi) W)) (fun v g i _ => l.length - (intOf i).toNat)
  case atStart => exact ⟨0, by omega, rfl, rfl, HO6', HX6'⟩
  case round =>
    obtain ⟨j, hj, rfl, rfl, HO, HX⟩ := hrel
    by_cases hlt : j < l.length
    · obtain ⟨ad, hLe, x0⟩ := Kd.at_int HL.out (j : Int) (by omega) (by omega)
      subst hLe
      have x1 := pw_cell_below (HG.out ▸ HX.out.bel : Below w.heap.size w wr) x0
      have hrd : rd l (j : Int) = l[j] := by simp [rd, List.getD_eq_getElem?_getD, List.getElem?_eq_getElem hlt]
      rw [hrd] at x1
      simp only [Int.toNat_natCast] at x1
      have HT1 := Lib.hid (edL_take l j hlt)
      have HT2 := Lib.hid (errL_take l j hlt)
      clear x0 hrd
      generalize l[j] = n at *
      have hg5 := HX.out.lt
      by_cases hr : rt n = true
      · have HR := Lib.hid hr
        have hw : wrap64 (n + 1) = n + 1 := by
          unfold rt at hr
          rw [Bool.and_eq_true, decide_eq_true_eq, decide_eq_true_eq] at hr
          exact wrap_in (by omega) (by omega)
        rw [if_pos hr] at HT1 HT2
        clear hr
        have hz5 := HX.out.lt
        clear hg5
        go_wp2_with (first | (go_at_call 7; refine (right_any _ _).mono ?_; rw [HR.out]; rintro e1 w7 ⟨rfl, ⟨nd, rfl⟩⟩) | (at_builtin; refine wpList_append_own _ rfl _ _ 24 rfl (gb + 5) 3 i0 (.int .i64 0) 1 8 Try.underlying24 hi0 hz0 hz1 hz2 rfl (by decide) _ _ _ rfl ((show (wr.drewN nd).ownsRow (gb + 5) 3 1 _ _ _ from HO.out).alloc _) ⟨wr.heap.size, 0, none⟩ 2 2 [.int .i64 n, .int .i64 (n + 1)] rfl rfl ?c1 ?c2 ?c3 ?c4 ?c5 ?_))
        case c1 =>
          intro j u hj
          have hn := blk_cell (heap_alloc_new (wr.drewN nd) (.cells #[.int .i64 n, .int .i64 (n + 1)] 3)) j
          rw [add_plain]
          exact hn.trans (by simpa using hj)
        case c2 => intro u hu; simp at hu; rcases hu with rfl | rfl <;> rfl
        case c3 =>
          have := edL_len (l.take j)
          rw [List.length_take] at this
          rw [List.length_cons]; unfold maxLen; omega
        case c4 =>
          have := edL_len (l.take j)
          rw [List.length_take] at this
          rw [List.length_cons]; omega
        case c5 => simp; omega
        intro v' w8 hown' hgrow hnil
        have HX8 := ((HX.out.drewN nd).alloc (.cells #[.int .i64 n, .int .i64 (n + 1)] 3)).grown hgrow (fun k hk => own_base HO.out k hk)
        have HO8 : w8.ownsRow (gb + 5) 3 1 v' (-9007199254740992 :: edL (l.take (j + 1))).length (en (-9007199254740992 :: edL (l.take (j + 1)))) := by
          rw [HT1.out]
          rw [show (-9007199254740992 :: (edL (l.take j) ++ [n, n + 1])).length = (edL (l.take j)).length + 1 + 2 by first | (simp; done) | (simp; omega)]
          rw [show en (-9007199254740992 :: (edL (l.take j) ++ [n, n + 1])) = Value.int IntKind.i64 (-9007199254740992) :: (List.map (Value.int IntKind.i64) (edL (l.take j)) ++ [Value.int IntKind.i64 n, Value.int IntKind.i64 (n + 1)]) by simp [en]]
          exact hown'
        have HX8' := Lib.hid HX8
        have HO8' := Lib.hid HO8
        clear HX8 HO8 hown' hgrow
        go_wp2_with fail
        go_roundw
        case rel => exact ⟨j + 1, by omega, by rw [HT2.out], by go_num, HO8', HX8'⟩
        case measure => simp [intOf]; omega
      · have HR := Lib.hid (by simpa using hr : rt n = false)
        rw [if_neg hr] at HT1 HT2
        clear hr
        go_wp2_with (go_at_call 7; refine (right_any _ _).mono ?_; rw [HR.out]; rintro e1 w7 ⟨rfl, ⟨nd, rfl⟩⟩)
        go_roundw
        case rel => exact ⟨j + 1, by omega, by rw [HT2.out], by go_num, Lib.hid (by rw [HT1.out, List.append_nil]; exact HO.out), Lib.hid (HX.out.drewN nd)⟩
        case measure => simp [intOf]; omega
    · obtain rfl : j = l.length := by omega
      rw [List.take_length] at *
      go_upto_region 13 with (fail)
      have k2 := HX.out.c2
      have CO := Lib.hid (fun (W : World) (h : Bx w gb (.slice A x.length a) (.slice B y.length b) (.slice L l.length c) (.int .i64 lo) (.int .i64 hi) W) => ZZ.out.of.elim fun k hk => ints_Of.calls k L c l s1 h1 W (Kd.C_below HL.out (HG.out ▸ h.bel)) HCC.out hk)
      have CLO1 := Lib.hid (fun (n : Int) (W : World) (h : Bx w gb (.slice A x.length a) (.slice B y.length b) (.slice L l.length c) (.int .i64 lo) (.int .i64 hi) W) => clo1_any (l := l) n _ _ _ _ W h (Kd.C_below HL.out (HG.out ▸ h.bel)) HCC.out (by have := LL.out; omega))
      go_upto_region 14 with (go_at_call 8; refine (CO.out _ HX.out).mono ?_; rintro e1 w9 ⟨v1, rfl, hR9, hb9⟩)
      obtain ⟨A1, c1, rfl, hc1, -⟩ := Kd.R_reads hR9
      have HX9 := Lib.hid (HX.out.low hb9)
      have HO9 := Lib.hid (own_low HO.out hb9)
      have hu9 := fun k hk => own_lt HO.out k hk
      have HR9 := Lib.hid hR9
      have HU9 := Lib.hid hu9
      clear hb9 hR9 hu9 k2 CO
      go_upto_region 16 with (first | (go_at_call 10; refine (made_any (fun n => decide (n ∈ l)) 11 #[.pointer (some ⟨gb + 2, 0, none⟩)] _ m1 ZZ.out.mm1 w _ gb _ _ _ _ _ _ HX9.out HG.out HO9.out (enters_of Try.func11 (by kernel_rfl) rfl) CLO1.out).mono ?_; rintro e1 w10 ⟨A2, c2, rfl, hc2, hC2, hX10, hk10⟩; have HX10 := Lib.hid hX10; have HC2 := Lib.hid hC2; have HR10 := Lib.hid (R_kept HR9.out hk10 HU9.out); have HO10 := Lib.hid hk10; clear hX10 hC2 hk10) | (go_at_call 9; refine (ZZ.out.r1.elim fun k hk => claplaw1_result.calls k A1 c1 s1 h1 A2 c2 m1 (errL l) true _ (Kd.R_reads' HR10.out).2.2 hc1 HC2.out hc2 hk).mono ?_; rintro e1 w11 ⟨rfl, ⟨nd11, rfl⟩⟩))
      have HX11 := Lib.hid (HX10.out.drewN nd11)
      clear HX HX9 HO HO9 HR9 HU9 HR10 HC2 HO10 HX10 CLO1
      generalize w10.drewN nd11 = w11 at HX11 ⊢
      go_upto_if 76 with (fail)
      go_cut [14] (fun v wc => v = .int .i64 (g2E e f) ∧ wc = w11)
      case first =>
        by_cases he : e = 0
        · have heb : (e == 0) = true := by simp [he]
          rw [heb]
          clear heb
          go_wp2_with fail
          go_meet
          case rel => exact ⟨by unfold g2E; rw [if_pos he], rfl⟩
        · have heb : (e == 0) = false := by simp [he]
          rw [heb]
          clear heb
          go_wp2_with fail
          go_meet
          case rel => exact ⟨by unfold g2E; rw [if_neg he], rfl⟩
      case rest =>
        obtain ⟨rfl, rfl⟩ := hcut
        obtain ⟨g2, hg2⟩ : ∃ g2, g2 = g2E e f := ⟨_, rfl⟩
        rw [← hg2]
        have HG2 := Lib.hid hg2
        clear hg2
        go_upto_region 20 with (fail)
        have HX12 := HX11.out.alloc (.cells #[.int .i64 (-9007199254740992)] 3)
        have HO12 : (wc.alloc (.cells #[.int .i64 (-9007199254740992)] 3)).ownsRow (gb + 5) 3 1 (.slice (some ⟨wc.heap.size, 0, none⟩) 1 1) 1 (en [-9007199254740992]) :=
          ⟨rfl, .inr ⟨wc.heap.size, 1, _, rfl, HX11.out.lt, heap_alloc_new wc _, Nat.le_refl _, by unfold maxLen; omega, rfl, rfl⟩⟩
        generalize wc.alloc (.cells #[.int .i64 (-9007199254740992)] 3) = w12 at HX12 HO12 ⊢
        generalize wc.heap.size = g12 at HO12 ⊢
        have k0 := HX12.c0
        have k1 := HX12.c1
        have HX12' := Lib.hid HX12
        have HO12' := Lib.hid HO12
        have CC := Lib.hid (fun (W : World) (g : Nat) (h : Bx w gb (.slice A x.length a) (.slice B y.length b) (.slice L l.length c) (.int .i64 lo) (.int .i64 hi) W) (hg : W.heap[g]? = some (.cells #[.slice A x.length a, .slice B y.length b] 23 (0, 0))) => ZZ.out.ab.elim fun k hk => ints_Range_13.calls k (some ⟨g, 0, none⟩) 2 [x, y] (x ++ y) W (pair_C (w := w) (Kd.C_below HA.out (HG.out ▸ h.bel)) HAA.out (Kd.C_below HB.out (HG.out ▸ h.bel)) HBB.out hg) (Nat.le_refl 2) hk)
        clear HX12 HO12 HX11
        go_wp2_with (go_at_call 13; refine (CC.out _ _ (HX12'.out.alloc _) (heap_alloc_new w12 _)).mono ?_; rintro e1 w13 ⟨v13, rfl, hR13, hb13⟩; generalize hab : x ++ y = ab at hR13; have HAB := Lib.hid hab; clear hab; have HX13 := Lib.hid ((HX12'.out.alloc _).low hb13); have HO13 := Lib.hid (own_low (HO12'.out.alloc _) hb13); obtain ⟨A13, c13, rfl, hc13, -⟩ := Kd.R_reads hR13; have HR13 := Lib.hid (Kd.R_lower hR13 (base' := gb) (by have := HX12'.out.lt; simp; omega)); clear hR13 hb13)
        have hxl : ab.length ≤ 2097152 := by rw [← HAB.out, List.length_append]; have := LY.out; omega
        go_loopw [13, 84] (fun v i W => ∃ j : Nat, j ≤ ab.length ∧ i = .int .i64 j ∧ Hid (W.ownsRow (gb + 5) 3 1 v (-9007199254740992 :: (if g2 = 0 then edR (ab.take j) else [])).length (en (-9007199254740992 :: (if g2 = 0 then edR (ab.take j) else [])))) ∧ Hid (Bx w gb (.slice A x.length a) (.slice B y.length b) (.slice L l.length c) (.int .i64 lo) (.int .i64 hi) W) ∧ Hid (Kd.R k36 36 W gb (fun _ => True) (.slice A13 ab.length c13) ab)) (fun v i _ => ab.length - (intOf i).toNat)
        case atStart => exact ⟨0, by omega, rfl, Lib.hid (by rw [List.take_zero]; cases hd : decide (g2 = 0) <;> simp at hd <;> simp only [hd, if_true, if_false] <;> exact HO13.out), HX13, HR13⟩
        case round =>
          obtain ⟨j, hj, rfl, HO, HX, HR⟩ := hrel
          by_cases hlt : j < ab.length
          · obtain ⟨ad, e0, x0, x1⟩ := at_T36 (Kd.R_reads' HR.out).2.2 (j : Int) (by omega) (by omega)
            cases e0
            have hrd : rd_T36 ab (j : Int) = ab[j] := by simp only [rd_T36, Int.toNat_natCast, List.getD_eq_getElem?_getD, List.getElem?_eq_getElem hlt, Option.getD_some]
            have hok := Lib.hid (fun h0 : g2 = 0 => ZZ.out.ok (HG2.out ▸ h0) _ (by rw [HAB.out]; exact List.getElem_mem hlt))
            rw [hrd] at x0 x1
            simp only [Int.toNat_natCast] at x0 x1
            have HT := Lib.hid (edR_take ab j hlt)
            clear hrd
            generalize ab[j] = r at *
            have hz5 := HX.out.lt
            by_cases hg : g2 = 0
            · have hgb : (g2 == 0) = true := by simp [hg]
              rw [if_pos hg] at HO
              have hw : wrap64 (r.f1 + 1) = r.f1 + 1 := by have := hok.out hg; exact wrap_in (by omega) (by omega)
              clear hg
              have hst := HX.out.alloc (.cells #[.int .i64 r.f0, .int .i64 r.f1] 36)
              have HOA := Lib.hid (HO.out.alloc (.cells #[.int .i64 r.f0, .int .i64 r.f1] 36))
              have y0 : (wr.alloc (.cells #[.int .i64 r.f0, .int .i64 r.f1] 36)).cell? ⟨wr.heap.size, 0, none⟩ = some (.int .i64 r.f0) := (blk_cell (heap_alloc_new wr _) 0).trans rfl
              have y1 : (wr.alloc (.cells #[.int .i64 r.f0, .int .i64 r.f1] 36)).cell? ⟨wr.heap.size, 1, none⟩ = some (.int .i64 r.f1) := (blk_cell (heap_alloc_new wr _) 1).trans rfl
              have HXA := Lib.hid hst
              have hszA : (wr.alloc (.cells #[.int .i64 r.f0, .int .i64 r.f1] 36)).heap.size = wr.heap.size + 1 := by simp
              have HZA := Lib.hid hszA
              clear hst hszA
              go_wp2_with (at_builtin; refine wpList_append_own _ rfl _ _ 24 rfl (gb + 5) 3 i0 (.int .i64 0) 1 8 Try.underlying24 hi0 hz0 hz1 hz2 rfl (by decide) _ _ _ rfl (HOA.out.alloc _) ⟨wr.heap.size + 1, 0, none⟩ 2 2 [.int .i64 r.f0, .int .i64 (r.f1 + 1)] rfl rfl ?c1 ?c2 ?c3 ?c4 ?c5 ?_)
              case c1 =>
                intro j u hj
                have hn := blk_cell (heap_alloc_new (wr.alloc (.cells #[.int .i64 r.f0, .int .i64 r.f1] 36)) (.cells #[.int .i64 r.f0, .int .i64 (r.f1 + 1)] 3)) j
                rw [HZA.out] at hn
                rw [add_plain]
                exact hn.trans (by simpa using hj)
              case c2 => intro u hu; simp at hu; rcases hu with rfl | rfl <;> rfl
              case c3 =>
                rw [List.length_cons, edR_len, List.length_take]; unfold maxLen; omega
              case c4 =>
                rw [List.length_cons, edR_len, List.length_take]; omega
              case c5 => simp; omega
              intro v' w8 hown' hgrow hnil
              have HX8 := Lib.hid ((HXA.out.alloc (.cells #[.int .i64 r.f0, .int .i64 (r.f1 + 1)] 3)).grown hgrow (fun k hk => own_base HO.out k hk))
              have HR8 := Lib.hid (Kd.R_over (Kd.R_alloc (Kd.R_alloc HR.out _) _) (Kd.R_of_own (enc := Value.int .i64) (h1 := fun _ => rfl) (xs := -9007199254740992 :: edR (ab.take j)) (ok := fun _ => True) (HOA.out.alloc (.cells #[.int .i64 r.f0, .int .i64 (r.f1 + 1)] 3)) (fun _ _ => trivial)) (by decide) hgrow)
              have HO8 : Hid (w8.ownsRow (gb + 5) 3 1 v' (-9007199254740992 :: (if g2 = 0 then edR (ab.take (j + 1)) else [])).length (en (-9007199254740992 :: (if g2 = 0 then edR (ab.take (j + 1)) else [])))) := Lib.hid (by
                rw [if_pos (by simpa using hgb), HT.out]
                rw [show (-9007199254740992 :: (edR (ab.take j) ++ [r.f0, r.f1 + 1])).length = (edR (ab.take j)).length + 1 + 2 by first | (simp; done) | (simp; omega)]
                rw [show en (-9007199254740992 :: (edR (ab.take j) ++ [r.f0, r.f1 + 1])) = Value.int IntKind.i64 (-9007199254740992) :: (List.map (Value.int IntKind.i64) (edR (ab.take j)) ++ [Value.int IntKind.i64 r.f0, Value.int IntKind.i64 (r.f1 + 1)]) by simp [en]]
                exact hown')
              clear hown' hgrow
              go_wp2_with fail
              go_roundw
              case rel => exact ⟨j + 1, by omega, by go_num, HO8, HX8, HR8⟩
              case measure => simp [intOf]; omega
            · have hgb : (g2 == 0) = false := by simp [hg]
              rw [if_neg hg] at HO
              have HXA := Lib.hid (HX.out.alloc (.cells #[.int .i64 r.f0, .int .i64 r.f1] 36))
              have HOA := Lib.hid (HO.out.alloc (.cells #[.int .i64 r.f0, .int .i64 r.f1] 36))
              have HRA := Lib.hid (Kd.R_alloc HR.out (.cells #[.int .i64 r.f0, .int .i64 r.f1] 36))
              go_wp2_with fail
              go_roundw
              case rel => exact ⟨j + 1, by omega, by go_num, Lib.hid (by rw [if_neg hg]; exact HOA.out), HXA, HRA⟩
              case measure => simp [intOf]; omega
          · obtain rfl : j = ab.length := by omega
            rw [List.take_length] at *
            go_upto_region 26 with (fail)
            obtain ⟨E2, hE2⟩ : ∃ E2, E2 = -9007199254740992 :: (if g2 = 0 then edR ab else []) := ⟨_, rfl⟩
            rw [← hE2] at HO
            have HE2 := Lib.hid hE2
            have hE2n : 0 < E2.length := by rw [hE2]; simp
            have hE2m : E2.length ≤ 1000000000 := by
              rw [hE2, List.length_cons]
              split
              · rw [edR_len]; omega
              · simp
            have HE2n := Lib.hid hE2n
            have HE2m := Lib.hid hE2m
            have hE2e : E2 = ed2E x y e f := by rw [hE2]; unfold ed2E; rw [HAB.out, HG2.out]
            have HE2e := Lib.hid hE2e
            clear hE2 hE2n hE2m hE2e k0 k1
            have OU : Hid (OpAt 18 w gb (.slice A x.length a) (.slice B y.length b) (.slice L l.length c) (.int .i64 lo) (.int .i64 hi) s2 h2) := Lib.hid (fun W h => ZZ.out.un.elim fun k hk => (ints_Union.calls k (fun k => k < W.heap.size) A a x (fun k => k < W.heap.size) B b y s2 h2 W (Kd.V_mk HAA.out (Kd.C_F heap_R (Kd.C_below HA.out (HG.out ▸ h.bel)))) (Kd.V_mk HBB.out (Kd.C_F heap_R (Kd.C_below HB.out (HG.out ▸ h.bel)))) hk).mono (by
              rintro e1 w1 ⟨v, rfl, hR, hb⟩
              obtain ⟨A', c', rfl, hc', -⟩ := Kd.R_reads hR
              exact ⟨A', c', rfl, hc', Kd.R_mono hR (fun _ _ => trivial), hb⟩))
            have OC : Hid (OpAt 19 w gb (.slice A x.length a) (.slice B y.length b) (.slice L l.length c) (.int .i64 lo) (.int .i64 hi) s3 h3) := Lib.hid (fun W h => ZZ.out.co.elim fun k hk => (ints_Common.calls k A a x B b y s3 h3 W (Kd.C_below HA.out (HG.out ▸ h.bel)) HAA.out (Kd.C_below HB.out (HG.out ▸ h.bel)) HBB.out hk).mono (by
              rintro e1 w1 ⟨v, rfl, hR, hb⟩
              obtain ⟨A', c', rfl, hc', -⟩ := Kd.R_reads hR
              exact ⟨A', c', rfl, hc', hR, hb⟩))
            have OM : Hid (OpAt 20 w gb (.slice A x.length a) (.slice B y.length b) (.slice L l.length c) (.int .i64 lo) (.int .i64 hi) s4 h4) := Lib.hid (fun W h => ZZ.out.mi.elim fun k hk => (ints_Minus.calls k A a x B b y s4 h4 W (Kd.C_below HA.out (HG.out ▸ h.bel)) HAA.out (Kd.C_below HB.out (HG.out ▸ h.bel)) HBB.out hk).mono (by
              rintro e1 w1 ⟨v, rfl, hR, hb⟩
              obtain ⟨A', c', rfl, hc', -⟩ := Kd.R_reads hR
              exact ⟨A', c', rfl, hc', hR, hb⟩))
            have P2 := Lib.hid (fun (n : Int) (W : World) (h : Bx w gb (.slice A x.length a) (.slice B y.length b) (.slice L l.length c) (.int .i64 lo) (.int .i64 hi) W) => clo2_any n _ _ _ W h HA.out HAA.out HB.out HBB.out (by omega) (by have := LY.out; omega) HG.out)
            have P3 := Lib.hid (fun (n : Int) (W : World) (h : Bx w gb (.slice A x.length a) (.slice B y.length b) (.slice L l.length c) (.int .i64 lo) (.int .i64 hi) W) => clo3_any n _ _ _ W h HA.out HAA.out HB.out HBB.out (by omega) (by have := LY.out; omega) HG.out)
            have P4 := Lib.hid (fun (n : Int) (W : World) (h : Bx w gb (.slice A x.length a) (.slice B y.length b) (.slice L l.length c) (.int .i64 lo) (.int .i64 hi) W) => clo4_any n _ _ _ W h HA.out HAA.out HB.out HBB.out (by omega) (by have := LY.out; omega) HG.out)
            go_wp2_with fail
            have HX26 := HX.out.alloc (.cells #[.func (.func 14) #[] #[.pointer (some ⟨gb, 0, none⟩), .pointer (some ⟨gb + 1, 0, none⟩)], .func (.func 16) #[] #[.pointer (some ⟨gb, 0, none⟩), .pointer (some ⟨gb + 1, 0, none⟩)], .func (.func 17) #[] #[.pointer (some ⟨gb, 0, none⟩), .pointer (some ⟨gb + 1, 0, none⟩)]] 28)
            have HO26 := HO.out.alloc (.cells #[.func (.func 14) #[] #[.pointer (some ⟨gb, 0, none⟩), .pointer (some ⟨gb + 1, 0, none⟩)], .func (.func 16) #[] #[.pointer (some ⟨gb, 0, none⟩), .pointer (some ⟨gb + 1, 0, none⟩)], .func (.func 17) #[] #[.pointer (some ⟨gb, 0, none⟩), .pointer (some ⟨gb + 1, 0, none⟩)]] 28)
            have HF26 := heap_alloc_new wr (.cells #[.func (.func 14) #[] #[.pointer (some ⟨gb, 0, none⟩), .pointer (some ⟨gb + 1, 0, none⟩)], .func (.func 16) #[] #[.pointer (some ⟨gb, 0, none⟩), .pointer (some ⟨gb + 1, 0, none⟩)], .func (.func 17) #[] #[.pointer (some ⟨gb, 0, none⟩), .pointer (some ⟨gb + 1, 0, none⟩)]] 28)
            generalize wr.alloc (.cells #[.func (.func 14) #[] #[.pointer (some ⟨gb, 0, none⟩), .pointer (some ⟨gb + 1, 0, none⟩)], .func (.func 16) #[] #[.pointer (some ⟨gb, 0, none⟩), .pointer (some ⟨gb + 1, 0, none⟩)], .func (.func 17) #[] #[.pointer (some ⟨gb, 0, none⟩), .pointer (some ⟨gb + 1, 0, none⟩)]] 28) = w26 at HX26 HO26 HF26 ⊢
            obtain ⟨fb, hfb⟩ : ∃ fb, fb = wr.heap.size := ⟨_, rfl⟩
            rw [← hfb] at HF26 ⊢
            have HF26' : Hid (w26.heap[fb]? = some (.cells #[.func (.func 14) #[] #[.pointer (some ⟨gb, 0, none⟩), .pointer (some ⟨gb + 1, 0, none⟩)], .func (.func 16) #[] #[.pointer (some ⟨gb, 0, none⟩), .pointer (some ⟨gb + 1, 0, none⟩)], .func (.func 17) #[] #[.pointer (some ⟨gb, 0, none⟩), .pointer (some ⟨gb + 1, 0, none⟩)]] 28 (0, 0))) := Lib.hid HF26
            have HX26' := Lib.hid HX26
            have HO26' := Lib.hid HO26
            clear HX26 HO26 HF26 hfb HX HO HR HR13 HX13 HO13 CC HX12' HO12'
            go_loopw [104] (fun i W => ∃ j : Nat, j ≤ 3 ∧ i = .int .i64 j ∧ Hid (W.ownsRow (gb + 5) 3 1 u13 E2.length (en E2)) ∧ Hid (Bx w gb (.slice A x.length a) (.slice B y.length b) (.slice L l.length c) (.int .i64 lo) (.int .i64 hi) W) ∧ Hid (W.heap[fb]? = some (.cells #[.func (.func 14) #[] #[.pointer (some ⟨gb, 0, none⟩), .pointer (some ⟨gb + 1, 0, none⟩)], .func (.func 16) #[] #[.pointer (some ⟨gb, 0, none⟩), .pointer (some ⟨gb + 1, 0, none⟩)], .func (.func 17) #[] #[.pointer (some ⟨gb, 0, none⟩), .pointer (some ⟨gb + 1, 0, none⟩)]] 28 (0, 0)))) (fun i _ => 3 - (intOf i).toNat)
            case atStart => exact ⟨0, by omega, rfl, HO26', HX26', HF26'⟩
            case round =>
              obtain ⟨j, hj, rfl, HO, HX, HF⟩ := hrel
              have hj3 : j = 0 ∨ j = 1 ∨ j = 2 ∨ j = 3 := by omega
              rcases hj3 with rfl | rfl | rfl | rfl
              · have f0 := (blk_cell HF.out 0).trans rfl
                go_upto_region 29 with (fail)
                have HXD := HX.out.drew
                have HSD : wr.drew.cell? ⟨gb, 0, none⟩ = some (.slice A x.length a) ∧ wr.drew.cell? ⟨gb + 1, 0, none⟩ = some (.slice B y.length b) ∧ Hid (Bx w gb (.slice A x.length a) (.slice B y.length b) (.slice L l.length c) (.int .i64 lo) (.int .i64 hi) wr.drew) := ⟨HXD.c0, HXD.c1, Lib.hid HXD⟩
                clear HXD f0
                refine wp_region_held_drew (S := fun W => W.cell? ⟨gb, 0, none⟩ = some (.slice A x.length a) ∧ W.cell? ⟨gb + 1, 0, none⟩ = some (.slice B y.length b) ∧ Hid (Bx w gb (.slice A x.length a) (.slice B y.length b) (.slice L l.length c) (.int .i64 lo) (.int .i64 hi) W)) (by kernel_rfl) HSD (fun hHeld => ?_)
                refine takeY (i := 1) (v := ?_) rfl rfl (by kernel_rfl) (by kernel_rfl) (by kernel_rfl) (fun _ _ _ h => h) (by rfl) (fun W hW => ?_) (by assumption) ?_
                rotate_left 1
                · (simp only [List.getElem_toArray, List.getElem_cons_zero, List.getElem_cons_succ]; first | (obtain ⟨q0, q1, -⟩ := hW; go_simp; try with_reducible rfl) | (go_simp; try with_reducible rfl))
                try simp only [Act.put, List.setIfInBounds_toArray, List.set_cons_zero, List.set_cons_succ]
                refine takeY (i := 4) (v := ?_) rfl rfl (by kernel_rfl) (by kernel_rfl) (by kernel_rfl) (fun _ _ _ h => h) (by rfl) (fun W hW => ?_) (by assumption) ?_
                rotate_left 1
                · (simp only [List.getElem_toArray, List.getElem_cons_zero, List.getElem_cons_succ]; first | (obtain ⟨q0, q1, -⟩ := hW; go_simp; try with_reducible rfl) | (go_simp; try with_reducible rfl))
                try simp only [Act.put, List.setIfInBounds_toArray, List.set_cons_zero, List.set_cons_succ]
                refine takeY (i := 5) (v := ?_) rfl rfl (by kernel_rfl) (by kernel_rfl) (by kernel_rfl) (fun _ _ _ h => h) (by rfl) (fun W hW => ?_) (by assumption) ?_
                rotate_left 1
                · (simp only [List.getElem_toArray, List.getElem_cons_zero, List.getElem_cons_succ]; first | (obtain ⟨q0, q1, -⟩ := hW; go_simp; try with_reducible rfl) | (go_simp; try with_reducible rfl))
                try simp only [Act.put, List.setIfInBounds_toArray, List.set_cons_zero, List.set_cons_succ]
                refine wpAnyH_ready (rs := [0]) (by kernel_rfl) (by simp) ?_
                refine AllReadyH.cons rfl (fun K hK => ?_) AllReadyH.nil
                go_simp
                refine hK.out _ _ (s1_keep HSD (blw_alloc (Below.refl _ _) _)) (fun hHeld => ?_)
                clear hK K
                try simp only [Act.put, List.setIfInBounds_toArray, List.set_cons_zero, List.set_cons_succ]
                refine takeY (i := 2) (v := ?_) rfl rfl (by kernel_rfl) (by kernel_rfl) (by kernel_rfl) (fun _ _ _ h => h) (by rfl) (fun W hW => ?_) (by assumption) ?_
                rotate_left 1
                · (simp only [List.getElem_toArray, List.getElem_cons_zero, List.getElem_cons_succ]; first | (obtain ⟨q0, q1, -⟩ := hW; go_simp; try with_reducible rfl) | (go_simp; try with_reducible rfl))
                try simp only [Act.put, List.setIfInBounds_toArray, List.set_cons_zero, List.set_cons_succ]
                refine wpAnyH_ready (rs := [3]) (by kernel_rfl) (by simp) ?_
                refine AllReadyH.cons rfl (fun K hK => ?_) AllReadyH.nil
                go_simp
                refine hK.out _ _ (s1_keep HSD (blw_alloc (Below.refl _ _) _)) (fun hHeld => ?_)
                clear hK K
                try simp only [Act.put, List.setIfInBounds_toArray, List.set_cons_zero, List.set_cons_succ]
                refine wpAnyH_ready (rs := [6]) (by kernel_rfl) (by simp) ?_
                refine AllReadyH.cons rfl (fun K hK => ?_) AllReadyH.nil
                (go_simp; go_at_call 18; refine (OU.out _ (s1_keep HSD (blw_alloc (Below.refl _ _) _)).2.2.out).mono ?_; rintro e1 w30 ⟨A30, c30, rfl, hc30, hR30, hb30⟩)
                refine hK.out _ _ (s1_keep (s1_keep HSD (blw_alloc (Below.refl _ _) _)) hb30) (fun hHeld => ?_)
                clear hK K
                try simp only [Act.put, List.setIfInBounds_toArray, List.set_cons_zero, List.set_cons_succ]
                refine takeY (i := 7) (v := ?_) rfl rfl (by kernel_rfl) (by kernel_rfl) (by kernel_rfl) (fun _ _ _ h => h) (by rfl) (fun W hW => ?_) (by assumption) ?_
                rotate_left 1
                · (simp only [List.getElem_toArray, List.getElem_cons_zero, List.getElem_cons_succ]; first | (obtain ⟨q0, q1, -⟩ := hW; go_simp; try with_reducible rfl) | (go_simp; try with_reducible rfl))
                try simp only [Act.put, List.setIfInBounds_toArray, List.set_cons_zero, List.set_cons_succ]
                refine takeY (i := 8) (v := ?_) rfl rfl (by kernel_rfl) (by kernel_rfl) (by kernel_rfl) (fun _ _ _ h => h) (by rfl) (fun W hW => ?_) (by assumption) ?_
                rotate_left 1
                · (simp only [List.getElem_toArray, List.getElem_cons_zero, List.getElem_cons_succ]; first | (obtain ⟨q0, q1, -⟩ := hW; go_simp; try with_reducible rfl) | (go_simp; try with_reducible rfl))
                try simp only [Act.put, List.setIfInBounds_toArray, List.set_cons_zero, List.set_cons_succ]
                refine takeY (i := 9) (v := ?_) rfl rfl (by kernel_rfl) (by kernel_rfl) (by kernel_rfl) (fun _ _ _ h => h) (by rfl) (fun W hW => ?_) (by assumption) ?_
                rotate_left 1
                · (simp only [List.getElem_toArray, List.getElem_cons_zero, List.getElem_cons_succ]; first | (obtain ⟨q0, q1, -⟩ := hW; go_simp; try with_reducible rfl) | (go_simp; try with_reducible rfl))
                try simp only [Act.put, List.setIfInBounds_toArray, List.set_cons_zero, List.set_cons_succ]
                refine takeY (i := 10) (v := ?_) rfl rfl (by kernel_rfl) (by kernel_rfl) (by kernel_rfl) (fun _ _ _ h => h) (by rfl) (fun W hW => ?_) (by assumption) ?_
                rotate_left 1
                · (simp only [List.getElem_toArray, List.getElem_cons_zero, List.getElem_cons_succ]; first | (obtain ⟨q0, q1, -⟩ := hW; go_simp; try with_reducible rfl) | (go_simp; try with_reducible rfl))
                try simp only [Act.put, List.setIfInBounds_toArray, List.set_cons_zero, List.set_cons_succ]
                refine takeY (i := 11) (v := ?_) rfl rfl (by kernel_rfl) (by kernel_rfl) (by kernel_rfl) (fun _ _ _ h => h) (by rfl) (fun W hW => ?_) (by assumption) ?_
                rotate_left 1
                · (simp only [List.getElem_toArray, List.getElem_cons_zero, List.getElem_cons_succ]; first | (obtain ⟨q0, q1, -⟩ := hW; go_simp; try with_reducible rfl) | (go_simp; try with_reducible rfl))
                try simp only [Act.put, List.setIfInBounds_toArray, List.set_cons_zero, List.set_cons_succ]
                refine wpAnyH_done (by kernel_rfl) ?_ _
                have HX30 := Lib.hid (s1_keep (s1_keep HSD (blw_alloc (Below.refl _ _) _)) hb30).2.2.out
                have hbr : Below wr.heap.size wr w30 := blw_then (blw_alloc (blw_drew (Below.refl _ _)) _) hb30
                have HO30 := Lib.hid (own_low HO.out hbr)
                have HF30 := Lib.hid ((hbr.block fb (blk_lt HF.out)).trans HF.out)
                have HL30 := Lib.hid (Nat.lt_of_lt_of_le (blk_lt HF.out) hbr.size)
                have HR30 := Lib.hid hR30
                clear hbr hb30 hR30 HSD hHeld
                go_wp2_with (first | (go_at_call 21; refine (clone_any E2 u13 _ (gb + 5) HO30.out HE2n.out HE2m.out).mono ?_; rintro e1 w31 ⟨v31, rfl, ho31, hb31⟩; have HX31 := Lib.hid (HX30.out.low hb31); have HO31 := Lib.hid (own_low HO30.out hb31); have HF31 := Lib.hid ((hb31.block fb (blk_lt HF30.out)).trans HF30.out); have HV31 := Lib.hid ho31; have HB31 := Lib.hid hb31; clear ho31 hb31) | (go_at_call 10; refine (made_any (fun n => memB x n || memB y n) 14 #[.pointer (some ⟨gb, 0, none⟩), .pointer (some ⟨gb + 1, 0, none⟩)] E2 m2 (HE2e.out ▸ ZZ.out.mm2) w _ gb _ _ _ _ _ v31 HX31.out HG.out (own_weaken HV31.out HX30.out.lt) (enters_of Try.func14 (by kernel_rfl) rfl) P2.out).mono ?_; rintro e1 w32 ⟨A32, c32, rfl, hc32, hC32, hX32, hk32⟩; have HX32 := Lib.hid hX32; have HC32 := Lib.hid hC32; have HR32 := Lib.hid (R_kept2 HR30.out HB31.out hk32 (fun k hk => own_base HV31.out k hk)); have HO32 := Lib.hid (own_kept HO31.out hk32 (fun k hk he => by have := own_lt HO30.out k hk; have := own_base HV31.out k he; omega)); have HF32 := Lib.hid ((hk32.2 fb (blk_lt HF31.out) (fun hp => by have := own_base HV31.out fb hp.symm; have := HL30.out; omega)).trans HF31.out); clear hX32 hC32 hk32) | (go_at_call 9; refine (ZZ.out.r2.elim fun k hk => claplaw1_result.calls k A30 c30 s2 h2 A32 c32 m2 g2 true _ (Kd.R_reads' HR32.out).2.2 hc30 HC32.out hc32 (by rw [HG2.out]; exact hk)).mono ?_; rintro e1 w33 ⟨rfl, ⟨nd33, rfl⟩⟩))
                go_roundw
                case rel => exact ⟨1, by omega, rfl, Lib.hid (show (w32.drewN nd33).ownsRow (gb + 5) 3 1 u13 E2.length (en E2) from HO32.out), Lib.hid (HX32.out.drewN nd33), Lib.hid (show (w32.drewN nd33).heap[fb]? = _ from HF32.out)⟩
                case measure => simp [intOf]
              · have f0 := (blk_cell HF.out 1).trans rfl
                go_upto_region 29 with (fail)
                have HXD := HX.out.drew
                have HSD : wr.drew.cell? ⟨gb, 0, none⟩ = some (.slice A x.length a) ∧ wr.drew.cell? ⟨gb + 1, 0, none⟩ = some (.slice B y.length b) ∧ Hid (Bx w gb (.slice A x.length a) (.slice B y.length b) (.slice L l.length c) (.int .i64 lo) (.int .i64 hi) wr.drew) := ⟨HXD.c0, HXD.c1, Lib.hid HXD⟩
                clear HXD f0
                refine wp_region_held_drew (S := fun W => W.cell? ⟨gb, 0, none⟩ = some (.slice A x.length a) ∧ W.cell? ⟨gb + 1, 0, none⟩ = some (.slice B y.length b) ∧ Hid (Bx w gb (.slice A x.length a) (.slice B y.length b) (.slice L l.length c) (.int .i64 lo) (.int .i64 hi) W)) (by kernel_rfl) HSD (fun hHeld => ?_)
                refine takeY (i := 1) (v := ?_) rfl rfl (by kernel_rfl) (by kernel_rfl) (by kernel_rfl) (fun _ _ _ h => h) (by rfl) (fun W hW => ?_) (by assumption) ?_
                rotate_left 1
                · (simp only [List.getElem_toArray, List.getElem_cons_zero, List.getElem_cons_succ]; first | (obtain ⟨q0, q1, -⟩ := hW; go_simp; try with_reducible rfl) | (go_simp; try with_reducible rfl))
                try simp only [Act.put, List.setIfInBounds_toArray, List.set_cons_zero, List.set_cons_succ]
                refine takeY (i := 4) (v := ?_) rfl rfl (by kernel_rfl) (by kernel_rfl) (by kernel_rfl) (fun _ _ _ h => h) (by rfl) (fun W hW => ?_) (by assumption) ?_
                rotate_left 1
                · (simp only [List.getElem_toArray, List.getElem_cons_zero, List.getElem_cons_succ]; first | (obtain ⟨q0, q1, -⟩ := hW; go_simp; try with_reducible rfl) | (go_simp; try with_reducible rfl))
                try simp only [Act.put, List.setIfInBounds_toArray, List.set_cons_zero, List.set_cons_succ]
                refine takeY (i := 5) (v := ?_) rfl rfl (by kernel_rfl) (by kernel_rfl) (by kernel_rfl) (fun _ _ _ h => h) (by rfl) (fun W hW => ?_) (by assumption) ?_
                rotate_left 1
                · (simp only [List.getElem_toArray, List.getElem_cons_zero, List.getElem_cons_succ]; first | (obtain ⟨q0, q1, -⟩ := hW; go_simp; try with_reducible rfl) | (go_simp; try with_reducible rfl))
                try simp only [Act.put, List.setIfInBounds_toArray, List.set_cons_zero, List.set_cons_succ]
                refine wpAnyH_ready (rs := [0]) (by kernel_rfl) (by simp) ?_
                refine AllReadyH.cons rfl (fun K hK => ?_) AllReadyH.nil
                go_simp
                refine hK.out _ _ (s1_keep HSD (blw_alloc (Below.refl _ _) _)) (fun hHeld => ?_)
                clear hK K
                try simp only [Act.put, List.setIfInBounds_toArray, List.set_cons_zero, List.set_cons_succ]
                refine takeY (i := 2) (v := ?_) rfl rfl (by kernel_rfl) (by kernel_rfl) (by kernel_rfl) (fun _ _ _ h => h) (by rfl) (fun W hW => ?_) (by assumption) ?_
                rotate_left 1
                · (simp only [List.getElem_toArray, List.getElem_cons_zero, List.getElem_cons_succ]; first | (obtain ⟨q0, q1, -⟩ := hW; go_simp; try with_reducible rfl) | (go_simp; try with_reducible rfl))
                try simp only [Act.put, List.setIfInBounds_toArray, List.set_cons_zero, List.set_cons_succ]
                refine wpAnyH_ready (rs := [3]) (by kernel_rfl) (by simp) ?_
                refine AllReadyH.cons rfl (fun K hK => ?_) AllReadyH.nil
                go_simp
                refine hK.out _ _ (s1_keep HSD (blw_alloc (Below.refl _ _) _)) (fun hHeld => ?_)
                clear hK K
                try simp only [Act.put, List.setIfInBounds_toArray, List.set_cons_zero, List.set_cons_succ]
                refine wpAnyH_ready (rs := [6]) (by kernel_rfl) (by simp) ?_
                refine AllReadyH.cons rfl (fun K hK => ?_) AllReadyH.nil
                (go_simp; go_at_call 19; refine (OC.out _ (s1_keep HSD (blw_alloc (Below.refl _ _) _)).2.2.out).mono ?_; rintro e1 w30 ⟨A30, c30, rfl, hc30, hR30, hb30⟩)
                refine hK.out _ _ (s1_keep (s1_keep HSD (blw_alloc (Below.refl _ _) _)) hb30) (fun hHeld => ?_)
                clear hK K
                try simp only [Act.put, List.setIfInBounds_toArray, List.set_cons_zero, List.set_cons_succ]
                refine takeY (i := 7) (v := ?_) rfl rfl (by kernel_rfl) (by kernel_rfl) (by kernel_rfl) (fun _ _ _ h => h) (by rfl) (fun W hW => ?_) (by assumption) ?_
                rotate_left 1
                · (simp only [List.getElem_toArray, List.getElem_cons_zero, List.getElem_cons_succ]; first | (obtain ⟨q0, q1, -⟩ := hW; go_simp; try with_reducible rfl) | (go_simp; try with_reducible rfl))
                try simp only [Act.put, List.setIfInBounds_toArray, List.set_cons_zero, List.set_cons_succ]
                refine takeY (i := 8) (v := ?_) rfl rfl (by kernel_rfl) (by kernel_rfl) (by kernel_rfl) (fun _ _ _ h => h) (by rfl) (fun W hW => ?_) (by assumption) ?_
                rotate_left 1
                · (simp only [List.getElem_toArray, List.getElem_cons_zero, List.getElem_cons_succ]; first | (obtain ⟨q0, q1, -⟩ := hW; go_simp; try with_reducible rfl) | (go_simp; try with_reducible rfl))
                try simp only [Act.put, List.setIfInBounds_toArray, List.set_cons_zero, List.set_cons_succ]
                refine takeY (i := 9) (v := ?_) rfl rfl (by kernel_rfl) (by kernel_rfl) (by kernel_rfl) (fun _ _ _ h => h) (by rfl) (fun W hW => ?_) (by assumption) ?_
                rotate_left 1
                · (simp only [List.getElem_toArray, List.getElem_cons_zero, List.getElem_cons_succ]; first | (obtain ⟨q0, q1, -⟩ := hW; go_simp; try with_reducible rfl) | (go_simp; try with_reducible rfl))
                try simp only [Act.put, List.setIfInBounds_toArray, List.set_cons_zero, List.set_cons_succ]
                refine takeY (i := 10) (v := ?_) rfl rfl (by kernel_rfl) (by kernel_rfl) (by kernel_rfl) (fun _ _ _ h => h) (by rfl) (fun W hW => ?_) (by assumption) ?_
                rotate_left 1
                · (simp only [List.getElem_toArray, List.getElem_cons_zero, List.getElem_cons_succ]; first | (obtain ⟨q0, q1, -⟩ := hW; go_simp; try with_reducible rfl) | (go_simp; try with_reducible rfl))
                try simp only [Act.put, List.setIfInBounds_toArray, List.set_cons_zero, List.set_cons_succ]
                refine takeY (i := 11) (v := ?_) rfl rfl (by kernel_rfl) (by kernel_rfl) (by kernel_rfl) (fun _ _ _ h => h) (by rfl) (fun W hW => ?_) (by assumption) ?_
                rotate_left 1
                · (simp only [List.getElem_toArray, List.getElem_cons_zero, List.getElem_cons_succ]; first | (obtain ⟨q0, q1, -⟩ := hW; go_simp; try with_reducible rfl) | (go_simp; try with_reducible rfl))
                try simp only [Act.put, List.setIfInBounds_toArray, List.set_cons_zero, List.set_cons_succ]
                refine wpAnyH_done (by kernel_rfl) ?_ _
                have HX30 := Lib.hid (s1_keep (s1_keep HSD (blw_alloc (Below.refl _ _) _)) hb30).2.2.out
                have hbr : Below wr.heap.size wr w30 := blw_then (blw_alloc (blw_drew (Below.refl _ _)) _) hb30
                have HO30 := Lib.hid (own_low HO.out hbr)
                have HF30 := Lib.hid ((hbr.block fb (blk_lt HF.out)).trans HF.out)
                have HL30 := Lib.hid (Nat.lt_of_lt_of_le (blk_lt HF.out) hbr.size)
                have HR30 := Lib.hid hR30
                clear hbr hb30 hR30 HSD hHeld
                go_wp2_with (first | (go_at_call 21; refine (clone_any E2 u13 _ (gb + 5) HO30.out HE2n.out HE2m.out).mono ?_; rintro e1 w31 ⟨v31, rfl, ho31, hb31⟩; have HX31 := Lib.hid (HX30.out.low hb31); have HO31 := Lib.hid (own_low HO30.out hb31); have HF31 := Lib.hid ((hb31.block fb (blk_lt HF30.out)).trans HF30.out); have HV31 := Lib.hid ho31; have HB31 := Lib.hid hb31; clear ho31 hb31) | (go_at_call 10; refine (made_any (fun n => memB x n && memB y n) 16 #[.pointer (some ⟨gb, 0, none⟩), .pointer (some ⟨gb + 1, 0, none⟩)] E2 m3 (HE2e.out ▸ ZZ.out.mm3) w _ gb _ _ _ _ _ v31 HX31.out HG.out (own_weaken HV31.out HX30.out.lt) (enters_of Try.func16 (by kernel_rfl) rfl) P3.out).mono ?_; rintro e1 w32 ⟨A32, c32, rfl, hc32, hC32, hX32, hk32⟩; have HX32 := Lib.hid hX32; have HC32 := Lib.hid hC32; have HR32 := Lib.hid (R_kept2 HR30.out HB31.out hk32 (fun k hk => own_base HV31.out k hk)); have HO32 := Lib.hid (own_kept HO31.out hk32 (fun k hk he => by have := own_lt HO30.out k hk; have := own_base HV31.out k he; omega)); have HF32 := Lib.hid ((hk32.2 fb (blk_lt HF31.out) (fun hp => by have := own_base HV31.out fb hp.symm; have := HL30.out; omega)).trans HF31.out); clear hX32 hC32 hk32) | (go_at_call 9; refine (ZZ.out.r3.elim fun k hk => claplaw1_result.calls k A30 c30 s3 h3 A32 c32 m3 g2 true _ (Kd.R_reads' HR32.out).2.2 hc30 HC32.out hc32 (by rw [HG2.out]; exact hk)).mono ?_; rintro e1 w33 ⟨rfl, ⟨nd33, rfl⟩⟩))
                go_roundw
                case rel => exact ⟨2, by omega, rfl, Lib.hid (show (w32.drewN nd33).ownsRow (gb + 5) 3 1 u13 E2.length (en E2) from HO32.out), Lib.hid (HX32.out.drewN nd33), Lib.hid (show (w32.drewN nd33).heap[fb]? = _ from HF32.out)⟩
                case measure => simp [intOf]
              · have f0 := (blk_cell HF.out 2).trans rfl
                go_upto_region 29 with (fail)
                have HXD := HX.out.drew
                have HSD : wr.drew.cell? ⟨gb, 0, none⟩ = some (.slice A x.length a) ∧ wr.drew.cell? ⟨gb + 1, 0, none⟩ = some (.slice B y.length b) ∧ Hid (Bx w gb (.slice A x.length a) (.slice B y.length b) (.slice L l.length c) (.int .i64 lo) (.int .i64 hi) wr.drew) := ⟨HXD.c0, HXD.c1, Lib.hid HXD⟩
                clear HXD f0
                refine wp_region_held_drew (S := fun W => W.cell? ⟨gb, 0, none⟩ = some (.slice A x.length a) ∧ W.cell? ⟨gb + 1, 0, none⟩ = some (.slice B y.length b) ∧ Hid (Bx w gb (.slice A x.length a) (.slice B y.length b) (.slice L l.length c) (.int .i64 lo) (.int .i64 hi) W)) (by kernel_rfl) HSD (fun hHeld => ?_)
                refine takeY (i := 1) (v := ?_) rfl rfl (by kernel_rfl) (by kernel_rfl) (by kernel_rfl) (fun _ _ _ h => h) (by rfl) (fun W hW => ?_) (by assumption) ?_
                rotate_left 1
                · (simp only [List.getElem_toArray, List.getElem_cons_zero, List.getElem_cons_succ]; first | (obtain ⟨q0, q1, -⟩ := hW; go_simp; try with_reducible rfl) | (go_simp; try with_reducible rfl))
                try simp only [Act.put, List.setIfInBounds_toArray, List.set_cons_zero, List.set_cons_succ]
                refine takeY (i := 4) (v := ?_) rfl rfl (by kernel_rfl) (by kernel_rfl) (by kernel_rfl) (fun _ _ _ h => h) (by rfl) (fun W hW => ?_) (by assumption) ?_
                rotate_left 1
                · (simp only [List.getElem_toArray, List.getElem_cons_zero, List.getElem_cons_succ]; first | (obtain ⟨q0, q1, -⟩ := hW; go_simp; try with_reducible rfl) | (go_simp; try with_reducible rfl))
                try simp only [Act.put, List.setIfInBounds_toArray, List.set_cons_zero, List.set_cons_succ]
                refine takeY (i := 5) (v := ?_) rfl rfl (by kernel_rfl) (by kernel_rfl) (by kernel_rfl) (fun _ _ _ h => h) (by rfl) (fun W hW => ?_) (by assumption) ?_
                rotate_left 1
                · (simp only [List.getElem_toArray, List.getElem_cons_zero, List.getElem_cons_succ]; first | (obtain ⟨q0, q1, -⟩ := hW; go_simp; try with_reducible rfl) | (go_simp; try with_reducible rfl))
                try simp only [Act.put, List.setIfInBounds_toArray, List.set_cons_zero, List.set_cons_succ]
                refine wpAnyH_ready (rs := [0]) (by kernel_rfl) (by simp) ?_
                refine AllReadyH.cons rfl (fun K hK => ?_) AllReadyH.nil
                go_simp
                refine hK.out _ _ (s1_keep HSD (blw_alloc (Below.refl _ _) _)) (fun hHeld => ?_)
                clear hK K
                try simp only [Act.put, List.setIfInBounds_toArray, List.set_cons_zero, List.set_cons_succ]
                refine takeY (i := 2) (v := ?_) rfl rfl (by kernel_rfl) (by kernel_rfl) (by kernel_rfl) (fun _ _ _ h => h) (by rfl) (fun W hW => ?_) (by assumption) ?_
                rotate_left 1
                · (simp only [List.getElem_toArray, List.getElem_cons_zero, List.getElem_cons_succ]; first | (obtain ⟨q0, q1, -⟩ := hW; go_simp; try with_reducible rfl) | (go_simp; try with_reducible rfl))
                try simp only [Act.put, List.setIfInBounds_toArray, List.set_cons_zero, List.set_cons_succ]
                refine wpAnyH_ready (rs := [3]) (by kernel_rfl) (by simp) ?_
                refine AllReadyH.cons rfl (fun K hK => ?_) AllReadyH.nil
                go_simp
                refine hK.out _ _ (s1_keep HSD (blw_alloc (Below.refl _ _) _)) (fun hHeld => ?_)
                clear hK K
                try simp only [Act.put, List.setIfInBounds_toArray, List.set_cons_zero, List.set_cons_succ]
                refine wpAnyH_ready (rs := [6]) (by kernel_rfl) (by simp) ?_
                refine AllReadyH.cons rfl (fun K hK => ?_) AllReadyH.nil
                (go_simp; go_at_call 20; refine (OM.out _ (s1_keep HSD (blw_alloc (Below.refl _ _) _)).2.2.out).mono ?_; rintro e1 w30 ⟨A30, c30, rfl, hc30, hR30, hb30⟩)
                refine hK.out _ _ (s1_keep (s1_keep HSD (blw_alloc (Below.refl _ _) _)) hb30) (fun hHeld => ?_)
                clear hK K
                try simp only [Act.put, List.setIfInBounds_toArray, List.set_cons_zero, List.set_cons_succ]
                refine takeY (i := 7) (v := ?_) rfl rfl (by kernel_rfl) (by kernel_rfl) (by kernel_rfl) (fun _ _ _ h => h) (by rfl) (fun W hW => ?_) (by assumption) ?_
                rotate_left 1
                · (simp only [List.getElem_toArray, List.getElem_cons_zero, List.getElem_cons_succ]; first | (obtain ⟨q0, q1, -⟩ := hW; go_simp; try with_reducible rfl) | (go_simp; try with_reducible rfl))
                try simp only [Act.put, List.setIfInBounds_toArray, List.set_cons_zero, List.set_cons_succ]
                refine takeY (i := 8) (v := ?_) rfl rfl (by kernel_rfl) (by kernel_rfl) (by kernel_rfl) (fun _ _ _ h => h) (by rfl) (fun W hW => ?_) (by assumption) ?_
                rotate_left 1
                · (simp only [List.getElem_toArray, List.getElem_cons_zero, List.getElem_cons_succ]; first | (obtain ⟨q0, q1, -⟩ := hW; go_simp; try with_reducible rfl) | (go_simp; try with_reducible rfl))
                try simp only [Act.put, List.setIfInBounds_toArray, List.set_cons_zero, List.set_cons_succ]
                refine takeY (i := 9) (v := ?_) rfl rfl (by kernel_rfl) (by kernel_rfl) (by kernel_rfl) (fun _ _ _ h => h) (by rfl) (fun W hW => ?_) (by assumption) ?_
                rotate_left 1
                · (simp only [List.getElem_toArray, List.getElem_cons_zero, List.getElem_cons_succ]; first | (obtain ⟨q0, q1, -⟩ := hW; go_simp; try with_reducible rfl) | (go_simp; try with_reducible rfl))
                try simp only [Act.put, List.setIfInBounds_toArray, List.set_cons_zero, List.set_cons_succ]
                refine takeY (i := 10) (v := ?_) rfl rfl (by kernel_rfl) (by kernel_rfl) (by kernel_rfl) (fun _ _ _ h => h) (by rfl) (fun W hW => ?_) (by assumption) ?_
                rotate_left 1
                · (simp only [List.getElem_toArray, List.getElem_cons_zero, List.getElem_cons_succ]; first | (obtain ⟨q0, q1, -⟩ := hW; go_simp; try with_reducible rfl) | (go_simp; try with_reducible rfl))
                try simp only [Act.put, List.setIfInBounds_toArray, List.set_cons_zero, List.set_cons_succ]
                refine takeY (i := 11) (v := ?_) rfl rfl (by kernel_rfl) (by kernel_rfl) (by kernel_rfl) (fun _ _ _ h => h) (by rfl) (fun W hW => ?_) (by assumption) ?_
                rotate_left 1
                · (simp only [List.getElem_toArray, List.getElem_cons_zero, List.getElem_cons_succ]; first | (obtain ⟨q0, q1, -⟩ := hW; go_simp; try with_reducible rfl) | (go_simp; try with_reducible rfl))
                try simp only [Act.put, List.setIfInBounds_toArray, List.set_cons_zero, List.set_cons_succ]
                refine wpAnyH_done (by kernel_rfl) ?_ _
                have HX30 := Lib.hid (s1_keep (s1_keep HSD (blw_alloc (Below.refl _ _) _)) hb30).2.2.out
                have hbr : Below wr.heap.size wr w30 := blw_then (blw_alloc (blw_drew (Below.refl _ _)) _) hb30
                have HO30 := Lib.hid (own_low HO.out hbr)
                have HF30 := Lib.hid ((hbr.block fb (blk_lt HF.out)).trans HF.out)
                have HL30 := Lib.hid (Nat.lt_of_lt_of_le (blk_lt HF.out) hbr.size)
                have HR30 := Lib.hid hR30
                clear hbr hb30 hR30 HSD hHeld
                go_wp2_with (first | (go_at_call 21; refine (clone_any E2 u13 _ (gb + 5) HO30.out HE2n.out HE2m.out).mono ?_; rintro e1 w31 ⟨v31, rfl, ho31, hb31⟩; have HX31 := Lib.hid (HX30.out.low hb31); have HO31 := Lib.hid (own_low HO30.out hb31); have HF31 := Lib.hid ((hb31.block fb (blk_lt HF30.out)).trans HF30.out); have HV31 := Lib.hid ho31; have HB31 := Lib.hid hb31; clear ho31 hb31) | (go_at_call 10; refine (made_any (fun n => memB x n && !memB y n) 17 #[.pointer (some ⟨gb, 0, none⟩), .pointer (some ⟨gb + 1, 0, none⟩)] E2 m4 (HE2e.out ▸ ZZ.out.mm4) w _ gb _ _ _ _ _ v31 HX31.out HG.out (own_weaken HV31.out HX30.out.lt) (enters_of Try.func17 (by kernel_rfl) rfl) P4.out).mono ?_; rintro e1 w32 ⟨A32, c32, rfl, hc32, hC32, hX32, hk32⟩; have HX32 := Lib.hid hX32; have HC32 := Lib.hid hC32; have HR32 := Lib.hid (R_kept2 HR30.out HB31.out hk32 (fun k hk => own_base HV31.out k hk)); have HO32 := Lib.hid (own_kept HO31.out hk32 (fun k hk he => by have := own_lt HO30.out k hk; have := own_base HV31.out k he; omega)); have HF32 := Lib.hid ((hk32.2 fb (blk_lt HF31.out) (fun hp => by have := own_base HV31.out fb hp.symm; have := HL30.out; omega)).trans HF31.out); clear hX32 hC32 hk32) | (go_at_call 9; refine (ZZ.out.r4.elim fun k hk => claplaw1_result.calls k A30 c30 s4 h4 A32 c32 m4 g2 true _ (Kd.R_reads' HR32.out).2.2 hc30 HC32.out hc32 (by rw [HG2.out]; exact hk)).mono ?_; rintro e1 w33 ⟨rfl, ⟨nd33, rfl⟩⟩))
                go_roundw
                case rel => exact ⟨3, by omega, rfl, Lib.hid (show (w32.drewN nd33).ownsRow (gb + 5) 3 1 u13 E2.length (en E2) from HO32.out), Lib.hid (HX32.out.drewN nd33), Lib.hid (show (w32.drewN nd33).heap[fb]? = _ from HF32.out)⟩
                case measure => simp [intOf]
              · have k0 := HX.out.c0
                have k3 := HX.out.c3
                have k4 := HX.out.c4
                have P5 := Lib.hid (fun (n : Int) (W : World) (h : Bx w gb (.slice A x.length a) (.slice B y.length b) (.slice L l.length c) (.int .i64 lo) (.int .i64 hi) W) => clo5_any (lo := lo) (hi := hi) n _ _ W h HA.out HAA.out (by omega) HG.out)
                clear OU OC OM P2 P3 P4 HF HF26' HX26' HO26' HE2n
                by_cases he : e = 0
                · have heb : (e == 0) = true := by simp [he]
                  by_cases hl : rt lo = true
                  · have RLO := Lib.hid hl
                    by_cases hh : rt hi = true
                    · have RHI := Lib.hid hh
                      by_cases hlh : lo > hi
                      · have hlb : decide (lo > hi) = true := decide_eq_true hlh
                        have hlh' : decide (lo ≤ hi) = false := decide_eq_false (by omega)
                        clear hl hh hlh
                        have HG3 : Hid (g3E e lo hi = 11) := Lib.hid (by unfold g3E; rw [if_pos ⟨he, by first | (rw [RLO.out]; rfl) | (rw [RLO.out, RHI.out]; rfl) | (rw [RLO.out, RHI.out, hlh']; rfl)⟩])
                        obtain ⟨E3, hE3⟩ : ∃ E3, E3 = E2 := ⟨_, rfl⟩
                        rw [← hE3] at HO
                        have HE3 : Hid (ed3E x y e f lo hi = E3) := Lib.hid (by unfold ed3E; rw [HG3.out, if_neg (by decide), hE3, HE2e.out])
                        clear hE3 he
                        go_wp2_with (first | (go_at_call_of 7 (Value.int .i64 lo); refine (right_any lo _).mono ?_; rw [RLO.out]; rintro e1 w40 ⟨rfl, ⟨nd40, rfl⟩⟩) | (go_at_call_of 7 (Value.int .i64 hi); refine (right_any hi _).mono ?_; rw [RHI.out]; rintro e1 w41 ⟨rfl, ⟨nd41, rfl⟩⟩) | (go_at_call 22; refine (ZZ.out.wi.elim fun k hk => ints_Without.calls k A a x lo hi s5 h5 _ (Kd.C_below HA.out (HG.out ▸ (by first | exact HX.out.bel | exact (HX.out.drewN _).bel | exact ((HX.out.drewN _).drewN _).bel))) HAA.out hk).mono ?_; rintro e1 w42 ⟨v42, rfl, hR42, hb42⟩; have HX42 := Lib.hid (Bx.low (by first | exact HX.out | exact HX.out.drewN _ | exact (HX.out.drewN _).drewN _) hb42); have HO42 := Lib.hid (own_low HO.out (by first | exact hb42 | exact blw_then (blw_drewN (Below.refl _ _) _) hb42 | exact blw_then (blw_drewN (blw_drewN (Below.refl _ _) _) _) hb42)); obtain ⟨A42, c42, rfl, hc42, -⟩ := Kd.R_reads hR42; have HR42 := Lib.hid hR42; have HU42 := Lib.hid (fun k hk => own_lt HO.out k hk); clear hR42 hb42) | (go_at_call 10; refine (made_any (fun n => decide (lo ≤ n) && decide (n ≤ hi) && !memB x n) 23 #[.pointer (some ⟨gb + 3, 0, none⟩), .pointer (some ⟨gb + 4, 0, none⟩), .pointer (some ⟨gb, 0, none⟩)] E3 m5 (HE3.out ▸ ZZ.out.mm5) w _ gb _ _ _ _ _ _ HX42.out HG.out HO42.out (enters_of Try.func23 (by kernel_rfl) rfl) P5.out).mono ?_; rintro e1 w43 ⟨A43, c43, rfl, hc43, hC43, hX43, hk43⟩; have HX43 := Lib.hid hX43; have HC43 := Lib.hid hC43; have HR43 := Lib.hid (R_kept HR42.out hk43 HU42.out); clear hX43 hC43 hk43) | (go_at_call 9; refine (ZZ.out.r5.elim fun k hk => claplaw1_result.calls k A42 c42 s5 h5 A43 c43 m5 11 true _ (Kd.R_reads' HR43.out).2.2 hc42 HC43.out hc43 (by have hk2 := hk; rw [HG3.out] at hk2; exact hk2)).mono ?_; rintro e1 w44 ⟨rfl, ⟨nd44, rfl⟩⟩))
                        go_ret
                        exact tr_of rfl (HG.out ▸ (HX43.out.drewN nd44).bel)
                      · have hlb : decide (lo > hi) = false := decide_eq_false hlh
                        have hlh' : decide (lo ≤ hi) = true := decide_eq_true (by omega)
                        clear hlh
                        have hw : wrap64 (hi + 1) = hi + 1 := by
                          unfold rt at hh
                          rw [Bool.and_eq_true, decide_eq_true_eq, decide_eq_true_eq] at hh
                          exact wrap_in (by omega) (by omega)
                        have HG3 : Hid (g3E e lo hi = e) := Lib.hid (by unfold g3E; rw [if_neg (fun q => by rw [RLO.out, RHI.out, hlh'] at q; exact absurd q.2 (by decide))])
                        have HE0 := Lib.hid he
                        have hz5 := HX.out.lt
                        have hm2 := HE2m.out
                        clear hl hh he
                        go_wp2_with (first | (go_at_call_of 7 (Value.int .i64 lo); refine (right_any lo _).mono ?_; rw [RLO.out]; rintro e1 w40 ⟨rfl, ⟨nd40, rfl⟩⟩) | (go_at_call_of 7 (Value.int .i64 hi); refine (right_any hi _).mono ?_; rw [RHI.out]; rintro e1 w41 ⟨rfl, ⟨nd41, rfl⟩⟩) | (at_builtin; refine wpList_append_own _ rfl _ _ 24 rfl (gb + 5) 3 i0 (.int .i64 0) 1 8 Try.underlying24 hi0 hz0 hz1 hz2 rfl (by decide) _ _ _ rfl ((show ((wr.drewN nd40).drewN nd41).ownsRow (gb + 5) 3 1 _ _ _ from HO.out).alloc _) ⟨wr.heap.size, 0, none⟩ 2 2 [.int .i64 lo, .int .i64 (hi + 1)] rfl rfl ?c1 ?c2 ?c3 ?c4 ?c5 ?_))
                        case c1 =>
                          intro j u hj
                          have hn := blk_cell (heap_alloc_new (wr.drewN (nd40 + nd41)) (.cells #[.int .i64 lo, .int .i64 (hi + 1)] 3)) j
                          rw [add_plain]
                          exact hn.trans (by simpa using hj)
                        case c2 => intro u hu; simp at hu; rcases hu with rfl | rfl <;> rfl
                        case c3 => unfold maxLen; omega
                        case c4 => omega
                        case c5 => simp; omega
                        intro v' w50 hown' hgrow hnil
                        have HX50 := ((HX.out.drewN (nd40 + nd41)).alloc (.cells #[.int .i64 lo, .int .i64 (hi + 1)] 3)).grown hgrow (fun k hk => own_base HO.out k hk)
                        have HO50 : w50.ownsRow (gb + 5) 3 1 v' (E2 ++ [lo, hi + 1]).length (en (E2 ++ [lo, hi + 1])) := by
                          rw [show (E2 ++ [lo, hi + 1]).length = E2.length + 2 by simp, show en (E2 ++ [lo, hi + 1]) = en E2 ++ [.int .i64 lo, .int .i64 (hi + 1)] by simp [en]]
                          exact hown'
                        have k50 := HX50.c0
                        have HX50' := Lib.hid HX50
                        have HO50' := Lib.hid HO50
                        clear HX50 HO50 hown' hgrow HX HO k0 k3 k4 hm2 hz5 hw
                        go_wp2_with fail
                        go_loopw [13, 157] (fun v i W => ∃ j : Nat, j ≤ x.length ∧ i = .int .i64 j ∧ Hid (W.ownsRow (gb + 5) 3 1 v (E2 ++ [lo, hi + 1] ++ edR (x.take j)).length (en (E2 ++ [lo, hi + 1] ++ edR (x.take j)))) ∧ Hid (Bx w gb (.slice A x.length a) (.slice B y.length b) (.slice L l.length c) (.int .i64 lo) (.int .i64 hi) W)) (fun v i _ => x.length - (intOf i).toNat)
                        case atStart => exact ⟨0, by omega, rfl, Lib.hid (by rw [List.take_zero]; show w50.ownsRow _ _ _ _ (E2 ++ [lo, hi + 1] ++ []).length (en (E2 ++ [lo, hi + 1] ++ [])); rw [List.append_nil]; exact HO50'.out), HX50'⟩
                        case round =>
                          obtain ⟨j, hj, rfl, HO, HX⟩ := hrel
                          by_cases hlt : j < x.length
                          · obtain ⟨ad, e0, x0, x1⟩ := at_T36 (Kd.C_below HA.out (HG.out ▸ HX.out.bel : Below w.heap.size w wr)) (j : Int) (by omega) (by omega)
                            cases e0
                            have hrd : rd_T36 x (j : Int) = x[j] := by simp only [rd_T36, Int.toNat_natCast, List.getD_eq_getElem?_getD, List.getElem?_eq_getElem hlt, Option.getD_some]
                            have hok := ZZ.out.okx HE0.out _ (List.getElem_mem hlt)
                            rw [hrd] at x0 x1
                            simp only [Int.toNat_natCast] at x0 x1
                            have HT := Lib.hid (edR_take x j hlt)
                            clear hrd
                            generalize x[j] = r at *
                            have hz5 := HX.out.lt
                            have hm2 := HE2m.out
                            have hw : wrap64 (r.f1 + 1) = r.f1 + 1 := wrap_in (by omega) (by omega)
                            have HOA := Lib.hid (HO.out.alloc (.cells #[.int .i64 r.f0, .int .i64 r.f1] 36))
                            have y0 : (wr.alloc (.cells #[.int .i64 r.f0, .int .i64 r.f1] 36)).cell? ⟨wr.heap.size, 0, none⟩ = some (.int .i64 r.f0) := (blk_cell (heap_alloc_new wr _) 0).trans rfl
                            have y1 : (wr.alloc (.cells #[.int .i64 r.f0, .int .i64 r.f1] 36)).cell? ⟨wr.heap.size, 1, none⟩ = some (.int .i64 r.f1) := (blk_cell (heap_alloc_new wr _) 1).trans rfl
                            have HXA := Lib.hid (HX.out.alloc (.cells #[.int .i64 r.f0, .int .i64 r.f1] 36))
                            have hszA : (wr.alloc (.cells #[.int .i64 r.f0, .int .i64 r.f1] 36)).heap.size = wr.heap.size + 1 := by simp
                            have HZA := Lib.hid hszA
                            clear hszA hok
                            go_wp2_with (at_builtin; refine wpList_append_own _ rfl _ _ 24 rfl (gb + 5) 3 i0 (.int .i64 0) 1 8 Try.underlying24 hi0 hz0 hz1 hz2 rfl (by decide) _ _ _ rfl (HOA.out.alloc _) ⟨wr.heap.size + 1, 0, none⟩ 2 2 [.int .i64 r.f0, .int .i64 (r.f1 + 1)] rfl rfl ?d1 ?d2 ?d3 ?d4 ?d5 ?_)
                            case d1 =>
                              intro j u hj
                              have hn := blk_cell (heap_alloc_new (wr.alloc (.cells #[.int .i64 r.f0, .int .i64 r.f1] 36)) (.cells #[.int .i64 r.f0, .int .i64 (r.f1 + 1)] 3)) j
                              rw [HZA.out] at hn
                              rw [add_plain]
                              exact hn.trans (by simpa using hj)
                            case d2 => intro u hu; simp at hu; rcases hu with rfl | rfl <;> rfl
                            case d3 =>
                              rw [List.length_append, List.length_append, edR_len, List.length_take]; simp only [List.length_cons, List.length_nil]; unfold maxLen; omega
                            case d4 =>
                              rw [List.length_append, List.length_append, edR_len, List.length_take]; simp only [List.length_cons, List.length_nil]; omega
                            case d5 => simp; omega
                            intro v' w8 hown' hgrow hnil
                            have HX8 := Lib.hid ((HXA.out.alloc (.cells #[.int .i64 r.f0, .int .i64 (r.f1 + 1)] 3)).grown hgrow (fun k hk => own_base HO.out k hk))
                            have HO8 : Hid (w8.ownsRow (gb + 5) 3 1 v' (E2 ++ [lo, hi + 1] ++ edR (x.take (j + 1))).length (en (E2 ++ [lo, hi + 1] ++ edR (x.take (j + 1))))) := Lib.hid (by
                              rw [HT.out, ← List.append_assoc]
                              rw [show (E2 ++ [lo, hi + 1] ++ edR (x.take j) ++ [r.f0, r.f1 + 1]).length = E2.length + ((edR (x.take j)).length + 1 + 1) + 2 by simp only [List.length_append, List.length_cons, List.length_nil]; omega]
                              rw [show en (E2 ++ [lo, hi + 1] ++ edR (x.take j) ++ [r.f0, r.f1 + 1]) = List.map (Value.int IntKind.i64) E2 ++ Value.int IntKind.i64 lo :: Value.int IntKind.i64 (hi + 1) :: (List.map (Value.int IntKind.i64) (edR (x.take j)) ++ [Value.int IntKind.i64 r.f0, Value.int IntKind.i64 (r.f1 + 1)]) by simp [en]]
                              exact hown')
                            clear hown' hgrow
                            go_wp2_with fail
                            go_roundw
                            case rel => exact ⟨j + 1, by omega, by go_num, HO8, HX8⟩
                            case measure => simp [intOf]; omega
                          · obtain rfl : j = x.length := by omega
                            rw [List.take_length] at *
                            obtain ⟨E3, hE3⟩ : ∃ E3, E3 = E2 ++ [lo, hi + 1] ++ edR x := ⟨_, rfl⟩
                            rw [← hE3] at HO
                            have HE3 : Hid (ed3E x y e f lo hi = E3) := Lib.hid (by unfold ed3E; rw [HG3.out, if_pos HE0.out, hE3, HE2e.out])
                            have k0 := HX.out.c0
                            have k3 := HX.out.c3
                            have k4 := HX.out.c4
                            clear hE3
                            go_wp2_with (first | (go_at_call_of 7 (Value.int .i64 lo); refine (right_any lo _).mono ?_; rw [RLO.out]; rintro e1 w40 ⟨rfl, ⟨nd40, rfl⟩⟩) | (go_at_call_of 7 (Value.int .i64 hi); refine (right_any hi _).mono ?_; rw [RHI.out]; rintro e1 w41 ⟨rfl, ⟨nd41, rfl⟩⟩) | (go_at_call 22; refine (ZZ.out.wi.elim fun k hk => ints_Without.calls k A a x lo hi s5 h5 _ (Kd.C_below HA.out (HG.out ▸ (by first | exact HX.out.bel | exact (HX.out.drewN _).bel | exact ((HX.out.drewN _).drewN _).bel))) HAA.out hk).mono ?_; rintro e1 w42 ⟨v42, rfl, hR42, hb42⟩; have HX42 := Lib.hid (Bx.low (by first | exact HX.out | exact HX.out.drewN _ | exact (HX.out.drewN _).drewN _) hb42); have HO42 := Lib.hid (own_low HO.out (by first | exact hb42 | exact blw_then (blw_drewN (Below.refl _ _) _) hb42 | exact blw_then (blw_drewN (blw_drewN (Below.refl _ _) _) _) hb42)); obtain ⟨A42, c42, rfl, hc42, -⟩ := Kd.R_reads hR42; have HR42 := Lib.hid hR42; have HU42 := Lib.hid (fun k hk => own_lt HO.out k hk); clear hR42 hb42) | (go_at_call 10; refine (made_any (fun n => decide (lo ≤ n) && decide (n ≤ hi) && !memB x n) 23 #[.pointer (some ⟨gb + 3, 0, none⟩), .pointer (some ⟨gb + 4, 0, none⟩), .pointer (some ⟨gb, 0, none⟩)] E3 m5 (HE3.out ▸ ZZ.out.mm5) w _ gb _ _ _ _ _ _ HX42.out HG.out HO42.out (enters_of Try.func23 (by kernel_rfl) rfl) P5.out).mono ?_; rintro e1 w43 ⟨A43, c43, rfl, hc43, hC43, hX43, hk43⟩; have HX43 := Lib.hid hX43; have HC43 := Lib.hid hC43; have HR43 := Lib.hid (R_kept HR42.out hk43 HU42.out); clear hX43 hC43 hk43) | (go_at_call 9; refine (ZZ.out.r5.elim fun k hk => claplaw1_result.calls k A42 c42 s5 h5 A43 c43 m5 e true _ (Kd.R_reads' HR43.out).2.2 hc42 HC43.out hc43 (by have hk2 := hk; rw [HG3.out] at hk2; exact hk2)).mono ?_; rintro e1 w44 ⟨rfl, ⟨nd44, rfl⟩⟩))
                            go_ret
                            exact tr_of rfl (HG.out ▸ (HX43.out.drewN nd44).bel)
                    · have RHI := Lib.hid (by simpa using hh : rt hi = false)
                      clear hl hh
                      have HG3 : Hid (g3E e lo hi = 11) := Lib.hid (by unfold g3E; rw [if_pos ⟨he, by first | (rw [RLO.out]; rfl) | (rw [RLO.out, RHI.out]; rfl) | (rw [RLO.out, RHI.out, hlh']; rfl)⟩])
                      obtain ⟨E3, hE3⟩ : ∃ E3, E3 = E2 := ⟨_, rfl⟩
                      rw [← hE3] at HO
                      have HE3 : Hid (ed3E x y e f lo hi = E3) := Lib.hid (by unfold ed3E; rw [HG3.out, if_neg (by decide), hE3, HE2e.out])
                      clear hE3 he
                      go_wp2_with (first | (go_at_call_of 7 (Value.int .i64 lo); refine (right_any lo _).mono ?_; rw [RLO.out]; rintro e1 w40 ⟨rfl, ⟨nd40, rfl⟩⟩) | (go_at_call_of 7 (Value.int .i64 hi); refine (right_any hi _).mono ?_; rw [RHI.out]; rintro e1 w41 ⟨rfl, ⟨nd41, rfl⟩⟩) | (go_at_call 22; refine (ZZ.out.wi.elim fun k hk => ints_Without.calls k A a x lo hi s5 h5 _ (Kd.C_below HA.out (HG.out ▸ (by first | exact HX.out.bel | exact (HX.out.drewN _).bel | exact ((HX.out.drewN _).drewN _).bel))) HAA.out hk).mono ?_; rintro e1 w42 ⟨v42, rfl, hR42, hb42⟩; have HX42 := Lib.hid (Bx.low (by first | exact HX.out | exact HX.out.drewN _ | exact (HX.out.drewN _).drewN _) hb42); have HO42 := Lib.hid (own_low HO.out (by first | exact hb42 | exact blw_then (blw_drewN (Below.refl _ _) _) hb42 | exact blw_then (blw_drewN (blw_drewN (Below.refl _ _) _) _) hb42)); obtain ⟨A42, c42, rfl, hc42, -⟩ := Kd.R_reads hR42; have HR42 := Lib.hid hR42; have HU42 := Lib.hid (fun k hk => own_lt HO.out k hk); clear hR42 hb42) | (go_at_call 10; refine (made_any (fun n => decide (lo ≤ n) && decide (n ≤ hi) && !memB x n) 23 #[.pointer (some ⟨gb + 3, 0, none⟩), .pointer (some ⟨gb + 4, 0, none⟩), .pointer (some ⟨gb, 0, none⟩)] E3 m5 (HE3.out ▸ ZZ.out.mm5) w _ gb _ _ _ _ _ _ HX42.out HG.out HO42.out (enters_of Try.func23 (by kernel_rfl) rfl) P5.out).mono ?_; rintro e1 w43 ⟨A43, c43, rfl, hc43, hC43, hX43, hk43⟩; have HX43 := Lib.hid hX43; have HC43 := Lib.hid hC43; have HR43 := Lib.hid (R_kept HR42.out hk43 HU42.out); clear hX43 hC43 hk43) | (go_at_call 9; refine (ZZ.out.r5.elim fun k hk => claplaw1_result.calls k A42 c42 s5 h5 A43 c43 m5 11 true _ (Kd.R_reads' HR43.out).2.2 hc42 HC43.out hc43 (by have hk2 := hk; rw [HG3.out] at hk2; exact hk2)).mono ?_; rintro e1 w44 ⟨rfl, ⟨nd44, rfl⟩⟩))
                      go_ret
                      exact tr_of rfl (HG.out ▸ (HX43.out.drewN nd44).bel)
                  · have RLO := Lib.hid (by simpa using hl : rt lo = false)
                    have RHI := Lib.hid (rfl : rt hi = rt hi)
                    clear hl
                    have HG3 : Hid (g3E e lo hi = 11) := Lib.hid (by unfold g3E; rw [if_pos ⟨he, by first | (rw [RLO.out]; rfl) | (rw [RLO.out, RHI.out]; rfl) | (rw [RLO.out, RHI.out, hlh']; rfl)⟩])
                    obtain ⟨E3, hE3⟩ : ∃ E3, E3 = E2 := ⟨_, rfl⟩
                    rw [← hE3] at HO
                    have HE3 : Hid (ed3E x y e f lo hi = E3) := Lib.hid (by unfold ed3E; rw [HG3.out, if_neg (by decide), hE3, HE2e.out])
                    clear hE3 he
                    go_wp2_with (first | (go_at_call_of 7 (Value.int .i64 lo); refine (right_any lo _).mono ?_; rw [RLO.out]; rintro e1 w40 ⟨rfl, ⟨nd40, rfl⟩⟩) | (go_at_call_of 7 (Value.int .i64 hi); refine (right_any hi _).mono ?_; rw [RHI.out]; rintro e1 w41 ⟨rfl, ⟨nd41, rfl⟩⟩) | (go_at_call 22; refine (ZZ.out.wi.elim fun k hk => ints_Without.calls k A a x lo hi s5 h5 _ (Kd.C_below HA.out (HG.out ▸ (by first | exact HX.out.bel | exact (HX.out.drewN _).bel | exact ((HX.out.drewN _).drewN _).bel))) HAA.out hk).mono ?_; rintro e1 w42 ⟨v42, rfl, hR42, hb42⟩; have HX42 := Lib.hid (Bx.low (by first | exact HX.out | exact HX.out.drewN _ | exact (HX.out.drewN _).drewN _) hb42); have HO42 := Lib.hid (own_low HO.out (by first | exact hb42 | exact blw_then (blw_drewN (Below.refl _ _) _) hb42 | exact blw_then (blw_drewN (blw_drewN (Below.refl _ _) _) _) hb42)); obtain ⟨A42, c42, rfl, hc42, -⟩ := Kd.R_reads hR42; have HR42 := Lib.hid hR42; have HU42 := Lib.hid (fun k hk => own_lt HO.out k hk); clear hR42 hb42) | (go_at_call 10; refine (made_any (fun n => decide (lo ≤ n) && decide (n ≤ hi) && !memB x n) 23 #[.pointer (some ⟨gb + 3, 0, none⟩), .pointer (some ⟨gb + 4, 0, none⟩), .pointer (some ⟨gb, 0, none⟩)] E3 m5 (HE3.out ▸ ZZ.out.mm5) w _ gb _ _ _ _ _ _ HX42.out HG.out HO42.out (enters_of Try.func23 (by kernel_rfl) rfl) P5.out).mono ?_; rintro e1 w43 ⟨A43, c43, rfl, hc43, hC43, hX43, hk43⟩; have HX43 := Lib.hid hX43; have HC43 := Lib.hid hC43; have HR43 := Lib.hid (R_kept HR42.out hk43 HU42.out); clear hX43 hC43 hk43) | (go_at_call 9; refine (ZZ.out.r5.elim fun k hk => claplaw1_result.calls k A42 c42 s5 h5 A43 c43 m5 11 true _ (Kd.R_reads' HR43.out).2.2 hc42 HC43.out hc43 (by have hk2 := hk; rw [HG3.out] at hk2; exact hk2)).mono ?_; rintro e1 w44 ⟨rfl, ⟨nd44, rfl⟩⟩))
                    go_ret
                    exact tr_of rfl (HG.out ▸ (HX43.out.drewN nd44).bel)
                · have heb : (e == 0) = false := by simp [he]
                  have HG3 : Hid (g3E e lo hi = e) := Lib.hid (by unfold g3E; rw [if_neg (fun q => he q.1)])
                  obtain ⟨E3, hE3⟩ : ∃ E3, E3 = E2 := ⟨_, rfl⟩
                  rw [← hE3] at HO
                  have HE3 : Hid (ed3E x y e f lo hi = E3) := Lib.hid (by unfold ed3E; rw [HG3.out, if_neg he, hE3, HE2e.out])
                  have RLO := Lib.hid (rfl : rt lo = rt lo)
                  have RHI := Lib.hid (rfl : rt hi = rt hi)
                  clear hE3 he
                  go_wp2_with (first | (go_at_call_of 7 (Value.int .i64 lo); refine (right_any lo _).mono ?_; rw [RLO.out]; rintro e1 w40 ⟨rfl, ⟨nd40, rfl⟩⟩) | (go_at_call_of 7 (Value.int .i64 hi); refine (right_any hi _).mono ?_; rw [RHI.out]; rintro e1 w41 ⟨rfl, ⟨nd41, rfl⟩⟩) | (go_at_call 22; refine (ZZ.out.wi.elim fun k hk => ints_Without.calls k A a x lo hi s5 h5 _ (Kd.C_below HA.out (HG.out ▸ (by first | exact HX.out.bel | exact (HX.out.drewN _).bel | exact ((HX.out.drewN _).drewN _).bel))) HAA.out hk).mono ?_; rintro e1 w42 ⟨v42, rfl, hR42, hb42⟩; have HX42 := Lib.hid (Bx.low (by first | exact HX.out | exact HX.out.drewN _ | exact (HX.out.drewN _).drewN _) hb42); have HO42 := Lib.hid (own_low HO.out (by first | exact hb42 | exact blw_then (blw_drewN (Below.refl _ _) _) hb42 | exact blw_then (blw_drewN (blw_drewN (Below.refl _ _) _) _) hb42)); obtain ⟨A42, c42, rfl, hc42, -⟩ := Kd.R_reads hR42; have HR42 := Lib.hid hR42; have HU42 := Lib.hid (fun k hk => own_lt HO.out k hk); clear hR42 hb42) | (go_at_call 10; refine (made_any (fun n => decide (lo ≤ n) && decide (n ≤ hi) && !memB x n) 23 #[.pointer (some ⟨gb + 3, 0, none⟩), .pointer (some ⟨gb + 4, 0, none⟩), .pointer (some ⟨gb, 0, none⟩)] E3 m5 (HE3.out ▸ ZZ.out.mm5) w _ gb _ _ _ _ _ _ HX42.out HG.out HO42.out (enters_of Try.func23 (by kernel_rfl) rfl) P5.out).mono ?_; rintro e1 w43 ⟨A43, c43, rfl, hc43, hC43, hX43, hk43⟩; have HX43 := Lib.hid hX43; have HC43 := Lib.hid hC43; have HR43 := Lib.hid (R_kept HR42.out hk43 HU42.out); clear hX43 hC43 hk43) | (go_at_call 9; refine (ZZ.out.r5.elim fun k hk => claplaw1_result.calls k A42 c42 s5 h5 A43 c43 m5 e true _ (Kd.R_reads' HR43.out).2.2 hc42 HC43.out hc43 (by have hk2 := hk; rw [HG3.out] at hk2; exact hk2)).mono ?_; rintro e1 w44 ⟨rfl, ⟨nd44, rfl⟩⟩))
                  go_ret
                  exact tr_of rfl (HG.out ▸ (HX43.out.drewN nd44).bel)
end Go.Proofs.Ytcmdoffdfnnlcaa.PIj
